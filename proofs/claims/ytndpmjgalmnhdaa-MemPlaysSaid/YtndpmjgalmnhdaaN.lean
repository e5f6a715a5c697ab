/- Package mem, the law MemRights: it returns true, for every list of regions and every list of acts. -/
import Derived.Test.YtndpmjgalmnhdaaK
import Derived.Test.YtndpmjgalmnhdaaM
namespace Go.Proofs.Ytndpmjgalmnhdaa
open Go.RowKit PMemPlays Go.Proofs.YtndpmjgalmnhdaaW.PrintWords Go.Proofs.YtndpmjgalmnhdaaW.PrintLast Go.Proofs.YtndpmjgalmnhdaaW.PrintMore
open Go.Sort Go.Shelf
set_option linter.unusedVariables false
set_option linter.unusedSimpArgs false

/-! ### Rights, plain -/
def orR (l : List S39) : Int := l.foldl (fun a r => Go.bits .or .i64 a r.f2) 0
theorem orR_snoc (l : List S39) (r : S39) : orR (l ++ [r]) = Go.bits .or .i64 (orR l) r.f2 := by unfold orR; rw [List.foldl_append]; rfl
theorem or8 : ∀ a b : Fin 8, (0 ≤ Go.bits .or .i64 (a.val : Int) (b.val : Int) ∧ Go.bits .or .i64 (a.val : Int) (b.val : Int) < 8) ∧
    ∀ m : Fin 5, Go.bits .and .i64 (Go.bits .or .i64 (a.val : Int) (b.val : Int)) (m.val : Int) = 0 → Go.bits .and .i64 (a.val : Int) (m.val : Int) = 0 ∧ Go.bits .and .i64 (b.val : Int) (m.val : Int) = 0 := by decide +kernel
theorem or8' (a b m : Int) (ha : 0 ≤ a) (ha7 : a < 8) (hb : 0 ≤ b) (hb7 : b < 8) (hm : 0 ≤ m) (hm4 : m < 5) : (0 ≤ Go.bits .or .i64 a b ∧ Go.bits .or .i64 a b < 8) ∧ (Go.bits .and .i64 (Go.bits .or .i64 a b) m = 0 → Go.bits .and .i64 a m = 0 ∧ Go.bits .and .i64 b m = 0) := by
  obtain ⟨a, rfl⟩ := Int.eq_ofNat_of_zero_le ha
  obtain ⟨b, rfl⟩ := Int.eq_ofNat_of_zero_le hb
  obtain ⟨m, rfl⟩ := Int.eq_ofNat_of_zero_le hm
  have := or8 ⟨a, by omega⟩ ⟨b, by omega⟩
  exact ⟨this.1, this.2 ⟨m, by omega⟩⟩
theorem orR_all : ∀ (l : List S39) (a m : Int), 0 ≤ a → a < 8 → 0 ≤ m → m < 5 → (∀ r ∈ l, 0 ≤ r.f2 ∧ r.f2 < 8) →
    Go.bits .and .i64 (l.foldl (fun a r => Go.bits .or .i64 a r.f2) a) m = 0 → Go.bits .and .i64 a m = 0 ∧ ∀ r ∈ l, Go.bits .and .i64 r.f2 m = 0
  | [], a, m, _, _, _, _, _, h => ⟨h, by simp⟩
  | r :: l, a, m, h1, h2, h3, h4, hr, h => by
    have hrr := hr r (by simp)
    have ho := or8' a r.f2 m h1 h2 hrr.1 hrr.2 h3 h4
    have ih := orR_all l _ m ho.1.1 ho.1.2 h3 h4 (fun q hq => hr q (by simp [hq])) h
    have := ho.2 ih.1
    refine ⟨this.1, fun q hq => ?_⟩
    rcases List.mem_cons.1 hq with rfl | hq
    · exact this.2
    · exact ih.2 q hq
/-- What the pieces' rights are, whatever was stored. -/
def RightsOf (l : List S39) (ps : List S59) : Prop := ∀ p ∈ ps, ∃ r ∈ l, p.f2 = r.f2
theorem rights_new (l : List S39) : RightsOf l (l.map pieceOf) := fun p hp => by
  obtain ⟨r, hr, rfl⟩ := List.mem_map.1 hp
  exact ⟨r, hr, rfl⟩
theorem rights_set {l ps} (h : RightsOf l ps) {k : Nat} {p : S59} (hp : ps[k]? = some p) (b : List Int) : RightsOf l (ps.set k ⟨p.f0, b, p.f2⟩) := fun q hq => by
  rcases List.mem_or_eq_of_mem_set hq with hq | rfl
  · exact h q hq
  · exact h p (List.mem_of_getElem? hp)
theorem none_found {l : List S39} {ps : List S59} (h : RightsOf l ps) (hl : ∀ r ∈ l, 0 ≤ r.f2 ∧ r.f2 < 8) {m : Int} (h3 : 0 ≤ m) (h4 : m < 5) (hz : Go.bits .and .i64 (orR l) m = 0) {a n : Int} {k : Nat} (hf : Finds ps a n m k) : False := by
  obtain ⟨p, hp, _⟩ := hf.1.some
  obtain ⟨r, hr, e⟩ := h p (List.mem_of_getElem? hp)
  have := (orR_all l 0 m (by omega) (by omega) h3 h4 hl hz).2 r hr
  exact hf.2 p hp (.inl (by rw [e]; exact this))
theorem load_zero {l : List S39} {ps : List S59} (h : RightsOf l ps) (hl : ∀ r ∈ l, 0 ≤ r.f2 ∧ r.f2 < 8) {a n x c : Int} (hs : LoadSays ps a n x c) : (Go.bits .and .i64 (orR l) 1 == 0) = false ∨ ((Go.bits .and .i64 (orR l) 1 == 0) = true ∧ (c == 0) = false) := by
  by_cases hz : Go.bits .and .i64 (orR l) 1 = 0
  · refine .inr ⟨by simpa using hz, ?_⟩
    rcases hs with ⟨_, _, rfl⟩ | ⟨_, _, _, rfl⟩ | ⟨_, _, k, _, hf, _⟩
    · rfl
    · rfl
    · exact (none_found h hl (by omega) (by omega) hz hf).elim
  · exact .inl (by simpa using hz)
theorem fetch_zero {l : List S39} {ps : List S59} (h : RightsOf l ps) (hl : ∀ r ∈ l, 0 ≤ r.f2 ∧ r.f2 < 8) {a x c : Int} (hs : FetchSays ps a x c) : (Go.bits .and .i64 (orR l) 4 == 0) = false ∨ ((Go.bits .and .i64 (orR l) 4 == 0) = true ∧ (c == 0) = false) := by
  by_cases hz : Go.bits .and .i64 (orR l) 4 = 0
  · refine .inr ⟨by simpa using hz, ?_⟩
    rcases hs with ⟨_, _, rfl⟩ | ⟨_, _, k, _, hf, _⟩
    · rfl
    · exact (none_found h hl (by omega) (by omega) hz hf).elim
  · exact .inl (by simpa using hz)
theorem rights_ok {l : List S39} (h : chk 0 l = 0) : ∀ r ∈ l, 0 ≤ r.f2 ∧ r.f2 < 8 := fun r hr => by
  have := (okR_mem l 0 ((chk_ok l 0).2 h) r hr).1
  unfold badR at this
  omega
/-- What the loop over the acts keeps. -/
def Kept2 (W : World) (l : List S39) (m : Nat) (j : Nat) (wr : World) : Prop :=
  Kp [] W wr ∧ ∃ wn bs ps, IsMem wr W.heap.size m wn bs ps ∧ Good ps ∧ RightsOf l ps ∧ 0 ≤ wn ∧ wn ≤ 8 * j ∧ (Go.bits .and .i64 (orR l) 2 = 0 → ps = l.map pieceOf)
/-- A store, as the loop sees it. -/
theorem store_kept {W wr w1 : World} {l : List S39} {m j : Nat} {wn : Int} {bs : List Nat} {ps : List S59} {a n x : Int} {e : Ending} (hl : ∀ r ∈ l, 0 ≤ r.f2 ∧ r.f2 < 8) (k0 : Kp [] W wr) (hm : IsMem wr W.heap.size m wn bs ps) (hg : Good ps) (hr : RightsOf l ps) (h0 : 0 ≤ wn) (h1 : wn ≤ 8 * j)
    (hz : Go.bits .and .i64 (orR l) 2 = 0 → ps = l.map pieceOf) (h : StorePost W.heap.size m wn bs ps a n x wr e w1) :
    ∃ c : Int, e = .returned (.int .i64 c) ∧ Kept2 W l m (j + 1) w1 ∧ ((Go.bits .and .i64 (orR l) 2 == 0) = false ∨ ((Go.bits .and .i64 (orR l) 2 == 0) = true ∧ (c == 0) = false)) := by
  have hB := hm.mB
  rcases h with ⟨_, rfl, k1⟩ | ⟨_, _, rfl, k1⟩ | ⟨hs, rfl, k, p, b, hf, hp, hb, k1, hm1⟩
  · exact ⟨1, rfl, ⟨k0.trans k1, wn, bs, ps, hm.kept k1 (by simp), hg, hr, h0, by omega, hz⟩, by cases h : (Go.bits .and .i64 (orR l) 2 == 0) <;> simp⟩
  · exact ⟨270, rfl, ⟨k0.trans k1, wn, bs, ps, hm.kept k1 (by simp), hg, hr, h0, by omega, hz⟩, by cases h : (Go.bits .and .i64 (orR l) 2 == 0) <;> simp⟩
  · have hbB := (hm.bytes hp hb).1
    obtain ⟨n1, n8⟩ := sizeOk_bd hs
    have hn0 : ¬ Go.bits .and .i64 (orR l) 2 = 0 := fun hz => (none_found hr hl (by omega) (by omega) hz hf).elim
    obtain ⟨_, _, hle⟩ := hf.1.some
    have hfit := not_lacks (hf.2 p hp) (by
      obtain ⟨hk, h1, _⟩ := hf.1
      have := (List.getElem?_eq_some_iff.1 hp).2
      rwa [this] at h1) n1
    refine ⟨0, rfl, ⟨k0.into k1 (by simp; omega), wn + n, bs, _, hm1, good_patch hg hp (patch_len (by rw [leB_len]; exact hfit)) (patch_isB (hg.bytes p (List.mem_of_getElem? hp)) (leB_isB _ _)), rights_set hr hp _, by omega, by omega, fun hz => absurd hz hn0⟩, .inl (by simpa using hn0)⟩

set_option maxRecDepth 100000 in
set_option maxHeartbeats 2000000 in
theorem rights_main (W : World) (A : Option Addr) (cap : Nat) (l : List S39) (hA : IsRegs W A cap l) (B : Option Addr) (len cap2 : Nat) (f : Nat → ActV) (hB : IsActs W B len f) :
    Calls Try.prog 5 #[.slice A l.length cap, .slice B len cap2] W fun e w' => e = .returned (.bool true) ∧ Kp [] W w' := by
  have hlen := hB.1
  have GA := fun w (k : Kp [] W w) => Lib.hid (great_any w A cap l (hA.kept k))
  have WA := Lib.hid (works_any W)
  go_enter Try.func5, Try.ntmps5
  go_wp2_with fail
  refine WA.out.mono ?_
  rintro e w1 ⟨rfl, k1⟩
  go_wp2_with fail
  refine (GA w1 k1).out.mono ?_
  rintro e w2 ⟨rfl, k2⟩
  cases hgr : greatB l
  case true =>
    clear hgr
    go_wp2
    go_ret
    exact ⟨rfl, k1.trans k2⟩
  obtain ⟨hl10, hl200⟩ := great_no hgr
  clear hgr
  have hcap : cap ≤ 9223372036854775807 := hA.2.2.1
  by_cases h50 : 50 < len
  · go_wp2
    go_ret
    exact ⟨rfl, k1.trans k2⟩
  go_wp2_with fail
  go_loopw [5, 28] (fun a i wr => ∃ (k : Nat), k ≤ l.length ∧ a = .int .i64 (orR (l.take k)) ∧ i = .int .i64 k ∧ Kp [] W wr) (fun _ i _ => l.length - (intOf i).toNat)
  case atStart => exact ⟨0, by omega, rfl, rfl, k1.trans k2⟩
  case round =>
    obtain ⟨k, hk, rfl, rfl, kk⟩ := hrel
    by_cases hlt : k < l.length
    · obtain ⟨b, off, rfl, hb, c0, c1, c2⟩ := (hA.kept kk).at_ k hlt
      have HS : Hid (orR (l.take (k + 1)) = Go.bits .or .i64 (orR (l.take k)) l[k].f2) := (by rw [List.take_succ_eq_append_getElem hlt, orR_snoc] : orR (l.take (k + 1)) = _)
      generalize l[k] = r at c0 c1 c2 HS
      go_wp2
      go_roundw
      case rel => exact ⟨k + 1, by omega, by rw [HS.out], by go_num, kk.alloc _⟩
      case measure => simp [intOf]; omega
    · have e : k = l.length := by omega
      subst e
      rw [List.take_length]
      have hd : decide ((l.length : Int) < l.length) = false := by simp
      have HN := Lib.hid (new_any wr A cap l (hA.kept kk) hl10 hl200)
      go_wp2_with fail
      refine HN.out.mono ?_
      rintro e w3 ⟨k3, ⟨hc, m, bs, rfl, hm⟩ | ⟨hc, rfl⟩⟩
      · have HC := Lib.hid hc
        have HG := Lib.hid (good_new hc hl10 hl200)
        clear hc HN
        have hrt := rights_ok HC.out
        have IM : Kept2 W l m 0 w3 := ⟨kk.trans k3, 0, bs, l.map pieceOf, by
          obtain ⟨q1, q2, q3, q4, q5⟩ := hm
          have hz := kk.size
          obtain ⟨A1, c1, h1, h2⟩ := q1
          exact ⟨⟨A1, c1, h1, own_less h2 hz⟩, by omega, q3, q4, fun i hi hi' => ⟨by have := (q5 i hi hi').1; omega, (q5 i hi hi').2⟩⟩, HG.out, rights_new l, by omega, by omega, fun _ => rfl⟩
        clear hm
        go_wp2_with fail
        go_loopw [48] (fun i wr => ∃ (j : Nat), j ≤ len ∧ i = .int .i64 j ∧ Kept2 W l m j wr) (fun i _ => len - (intOf i).toNat)
        case atStart => exact ⟨0, by omega, rfl, IM⟩
        case round =>
          obtain ⟨j, hj, rfl, k4, wn, bs4, ps, hm, hg, hr, hwn0, hwn1, hz⟩ := hrel
          by_cases hjl : j < len
          · obtain ⟨b, off, rfl, hb, hc⟩ := hB.2 (by omega)
            obtain ⟨c0, c1, c2, c3, ha0, hx0⟩ := hc j hjl
            generalize f j = q at c0 c1 c2 c3 ha0 hx0
            have hbr := Nat.lt_of_lt_of_le hb k4.size
            have d0 := (World.cell?_of_block (a := ⟨b, off + j * 4, none⟩) (k4.block b hb (by simp))).trans c0
            have d1 := (World.cell?_of_block (a := ⟨b, off + j * 4 + 1, none⟩) (k4.block b hb (by simp))).trans c1
            have d2 := (World.cell?_of_block (a := ⟨b, off + j * 4 + 2, none⟩) (k4.block b hb (by simp))).trans c2
            have d3 := (World.cell?_of_block (a := ⟨b, off + j * 4 + 3, none⟩) (k4.block b hb (by simp))).trans c3
            clear c0 c1 c2 c3
            have ka := (Kp.refl [] wr).alloc (.cells #[.int .i64 q.k, .int .i64 q.n, .int .u64 q.a, .int .u64 q.x] 25)
            have hx := heap_alloc_new wr (.cells #[.int .i64 q.k, .int .i64 q.n, .int .u64 q.a, .int .u64 q.x] 25)
            have HL := Lib.hid (load_any _ _ m wn bs4 ps (hm.kept ka (by simp)) hg q.a q.n ha0.1 ha0.2)
            go_wp2_with fail
            refine HL.out.mono ?_
            rintro e w5 ⟨x1, f1, rfl, hs1, k5⟩
            have z1 := load_zero hr hrt hs1
            have hx5 := (k5.block _ (ltB hx) (by simp)).trans hx
            have y1 := cellB hx5 1
            have y2 := cellB hx5 2
            have y3 := cellB hx5 3
            simp at y1 y2 y3
            have HF := Lib.hid (fetch_any _ _ m wn bs4 ps (hm.kept (ka.trans k5) (by simp)) hg q.a ha0.1 ha0.2)
            clear HL hs1 d0 d1 d2 d3
            replace z1 := Lib.hid z1
            go_wp2_with fail
            refine HF.out.mono ?_
            rintro e w6 ⟨x2, f2, rfl, hs2, k6⟩
            have z4 := fetch_zero hr hrt hs2
            have hx6 := (k6.block _ (ltB hx5) (by simp)).trans hx5
            have v1 := cellB hx6 1
            have v2 := cellB hx6 2
            have v3 := cellB hx6 3
            simp at v1 v2 v3
            have HS := Lib.hid (store_any _ _ m wn bs4 ps (hm.kept ((ka.trans k5).trans k6) (by simp)) hg q.a q.n q.x ha0.1 ha0.2 hx0.1 hx0.2 hwn0 (by omega))
            clear HF hs2 y1 y2 y3
            replace z4 := Lib.hid z4
            go_wp2_with fail
            refine HS.out.mono ?_
            intro e w7 hp
            obtain ⟨cc, rfl, hK, z2⟩ := store_kept hrt (k4.trans ((ka.trans k5).trans k6)) (hm.kept ((ka.trans k5).trans k6) (by simp)) hg hr hwn0 hwn1 hz hp
            clear HS hp v1 v2 v3 hx hx5 hx6 hm IM
            rcases z1.out with h1 | ⟨h1, h1'⟩ <;> rcases z4.out with h4 | ⟨h4, h4'⟩ <;> rcases z2 with h2 | ⟨h2, h2'⟩
            all_goals
              go_wp2
              go_roundw
              case rel => exact ⟨j + 1, by omega, by go_num, hK⟩
              case measure => simp [intOf]; omega
          · have e : j = len := by omega
            subst e
            have hd2 : decide ((j : Int) < j) = false := by simp
            by_cases h2 : Go.bits .and .i64 (orR l) 2 = 0
            · have hps := hz h2
              subst hps
              have h2' : (Go.bits .and .i64 (orR l) 2 == 0) = true := by simpa using h2
              have h2'' : (Go.bits .and .i64 (orR l) 2 != 0) = false := by simpa using h2
              have HSM := Lib.hid (same_any wr _ m wn bs4 _ hm hg A cap l (hA.kept k4) (match_new l))
              clear h2 hz
              go_wp2_with fail
              refine HSM.out.mono ?_
              rintro e w5 ⟨rfl, k5⟩
              go_wp2
              go_ret
              exact ⟨rfl, k4.trans k5⟩
            · have h2' : (Go.bits .and .i64 (orR l) 2 == 0) = false := by simpa using h2
              have h2'' : (Go.bits .and .i64 (orR l) 2 != 0) = true := by simpa using h2
              clear h2 hz
              go_wp2
              go_ret
              exact ⟨rfl, k4⟩
      · have hne : (chk 0 l == 0) = false := by simpa using hc
        clear HN
        go_wp2
        go_ret
        exact ⟨rfl, kk.trans k3⟩
theorem rights_walk (W : World) (A : Option Addr) (cap : Nat) (l : List S39) (B : Option Addr) (len cap2 : Nat) (f : Nat → ActV) (hA : IsRegs W A cap l) (hB : IsActs W B len f) :
    Calls Try.prog 5 #[.slice A l.length cap, .slice B len cap2] W fun e w' => e = .returned (.bool true) ∧ Below W.heap.size W w' :=
  (rights_main W A cap l hA B len cap2 f hB).mono fun _ _ ⟨h, k⟩ => ⟨h, k.below (Nat.le_refl _) (by simp)⟩
end Go.Proofs.Ytndpmjgalmnhdaa
