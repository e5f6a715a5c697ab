/- Package mem, the law MemBack: it returns true, for every list of regions and every act. -/
import Derived.Test.YtndpmjgalmnhdaaN
namespace Go.Proofs.Ytndpmjgalmnhdaa
open Go.RowKit PMemPlays Go.Proofs.YtndpmjgalmnhdaaW.PrintWords Go.Proofs.YtndpmjgalmnhdaaW.PrintLast Go.Proofs.YtndpmjgalmnhdaaW.PrintMore
open Go.Sort Go.Shelf
set_option linter.unusedVariables false
set_option linter.unusedSimpArgs false

/-! ### Plain -/
theorem atK_uniq {ps qs : List S59} {a : Int} {k j : Nat} (hl : ps.length = qs.length) (h0 : ∀ i (h : i < ps.length) (h' : i < qs.length), ps[i].f0 = qs[i].f0) (h : AtK ps a k) (h2 : AtK qs a j) : k = j := by
  obtain ⟨hk, h3, h4⟩ := h
  obtain ⟨hj, h5, h6⟩ := h2
  rcases Nat.lt_trichotomy k j with hlt | e | hlt
  · have := h4 j (by omega) hlt
    rw [h0 j (by omega) hj] at this
    omega
  · exact e
  · have := h6 k (by omega) hlt
    rw [← h0 k hk (by omega)] at this
    omega
theorem numB_le (x : Int) (hx : 0 ≤ x) : ∀ n, numB (leB x n) = x % 256 ^ n
  | 0 => by simp [leB, numB]
  | n + 1 => by
    rw [leB, numB_snoc, leB_len, numB_le x hx n, Int.pow_succ]
    have hp : (0 : Int) < 256 ^ n := Int.pow_pos (by decide)
    have := Int.emod_add_mul_ediv x (256 ^ n)
    have e2 : x % (256 ^ n * 256) = x % 256 ^ n + 256 ^ n * (x / 256 ^ n % 256) := by
      rw [Int.emod_def, Int.emod_def x (256 ^ n), Int.emod_def (x / 256 ^ n) 256, ← Int.ediv_ediv_of_nonneg (Int.le_of_lt hp), Int.mul_sub, ← Int.mul_assoc]
      omega
    rw [e2]
theorem cut_patch {l bs : List Int} {f : Nat} (h : f + bs.length ≤ l.length) : cutB (patch l f bs) f bs.length = bs := by
  unfold cutB patch
  rw [List.append_assoc, List.drop_append, List.drop_of_length_le (by simp; omega), List.nil_append]
  simp
  rw [show f - min f l.length = 0 by omega]
  simp
theorem f0_set {ps : List S59} {k : Nat} {p : S59} (hp : ps[k]? = some p) (b : List Int) (i : Nat) (h : i < (ps.set k ⟨p.f0, b, p.f2⟩).length) (h' : i < ps.length) : (ps.set k ⟨p.f0, b, p.f2⟩)[i].f0 = ps[i].f0 := by
  rw [List.getElem_set]
  split
  · next e => subst e; exact (congrArg S59.f0 (List.getElem?_eq_some_iff.1 hp).2).symm
  · rfl
/-- What is loaded where it was stored. -/
theorem load_back {ps : List S59} {a n x y c : Int} {k : Nat} {p : S59} (hx : 0 ≤ x) (hf : Finds ps a n 2 k) (hp : ps[k]? = some p) (hs : SizeOk n) (h : LoadSays (ps.set k ⟨p.f0, patch p.f1 (a - p.f0).toNat (leB x n.toNat), p.f2⟩) a n y c) : c ≠ 0 ∨ (c = 0 ∧ y = x % 256 ^ n.toNat) := by
  obtain ⟨n1, n8⟩ := sizeOk_bd hs
  have hle : p.f0 ≤ a := by
    obtain ⟨hk, h1, _⟩ := hf.1
    have := (List.getElem?_eq_some_iff.1 hp).2
    rwa [this] at h1
  have hfit := not_lacks (hf.2 p hp) hle n1
  rcases h with ⟨_, _, rfl⟩ | ⟨_, _, _, rfl⟩ | ⟨_, rfl, j, q, hf2, hq, rfl⟩
  · exact .inl (by decide)
  · exact .inl (by decide)
  · refine .inr ⟨rfl, ?_⟩
    have e := atK_uniq (by simp) (fun i h h' => f0_set hp _ i h h') hf2.1 hf.1
    subst e
    rw [List.getElem?_set_self (List.getElem?_eq_some_iff.1 hp).1] at hq
    injection hq with hq
    subst hq
    have h2 := cut_patch (l := p.f1) (f := (a - p.f0).toNat) (bs := leB x n.toNat) (by rw [leB_len]; exact hfit)
    rw [leB_len] at h2
    show numB (cutB (patch p.f1 (a - p.f0).toNat (leB x n.toNat)) (a - p.f0).toNat n.toNat) = _
    rw [h2, numB_le x hx]
theorem and_mask (x : Int) (k : Nat) (h0 : 0 ≤ x) (h : x < 18446744073709551616) (hk : k ≤ 63) : Go.bits .and .u64 x (((2 ^ k - 1 : Nat)) : Int) = x % ((2 ^ k : Nat) : Int) := by
  obtain ⟨x, rfl⟩ := Int.eq_ofNat_of_zero_le h0
  have : 2 ^ k ≤ 2 ^ 63 := Nat.pow_le_pow_right (by decide) hk
  rw [u64_and_nat _ _ (by omega) (by omega), Nat.and_two_pow_sub_one_eq_mod]
  omega
theorem want_mask (x n : Int) (h0 : 0 ≤ x) (h : x < 18446744073709551616) (hs : SizeOk n) (hn : n < 8) : Go.bits .and .u64 x (IntKind.u64.wrap (IntKind.u64.wrap (2 ^ (8 * n).toNat) - 1)) = x % 256 ^ n.toNat := by
  rcases hs with rfl | rfl | rfl | rfl
  · exact and_mask x 8 h0 h (by decide)
  · exact and_mask x 16 h0 h (by decide)
  · exact and_mask x 32 h0 h (by decide)
  · omega
/-- What a region's bytes are, against what they were. -/
def Near (a n : Int) (r : S39) (q : S59) : Prop := q.f0 = r.f0 ∧ q.f2 = r.f2 ∧ q.f1.length = r.f1.size ∧
  ∀ (j : Nat) (h : j < r.f1.size), (strOfNums q.f1).data[j]? = r.f1.data[j]? ∨ (a ≤ r.f0 + j ∧ r.f0 + j < a + n)
theorem near_all {l : List S39} {a n x : Int} {k : Nat} {p : S59} (hf : Finds (l.map pieceOf) a n 2 k) (hp : (l.map pieceOf)[k]? = some p) (hs : SizeOk n) (i : Nat) (r : S39) (q : S59) (hr : l[i]? = some r)
    (hq : ((l.map pieceOf).set k ⟨p.f0, patch p.f1 (a - p.f0).toNat (leB x n.toNat), p.f2⟩)[i]? = some q) : Near a n r q := by
  obtain ⟨n1, n8⟩ := sizeOk_bd hs
  have hle : p.f0 ≤ a := by
    obtain ⟨hk, h1, _⟩ := hf.1
    have := (List.getElem?_eq_some_iff.1 hp).2
    rwa [this] at h1
  have hfit := not_lacks (hf.2 p hp) hle n1
  rw [List.getElem?_set] at hq
  by_cases hki : k = i
  · subst hki
    rw [if_pos rfl] at hq
    rw [List.getElem?_map, hr] at hp
    simp at hp
    subst hp
    split at hq
    · injection hq with hq
      subst hq
      have hlen : (patch (pieceOf r).f1 (a - (pieceOf r).f0).toNat (leB x n.toNat)).length = r.f1.size := by rw [patch_len (by rw [leB_len]; exact hfit)]; exact bytesB_len _
      refine ⟨rfl, rfl, hlen, fun j hj => ?_⟩
      have hge := patch_get (l := (pieceOf r).f1) (f := (a - (pieceOf r).f0).toNat) (bs := leB x n.toNat) (by rw [leB_len]; exact hfit) j
      rw [leB_len] at hge
      have hb : r.f0 = (pieceOf r).f0 := rfl
      by_cases hin : (a - (pieceOf r).f0).toNat ≤ j ∧ j < (a - (pieceOf r).f0).toNat + n.toNat
      · exact .inr (by omega)
      · left
        have e : (patch (pieceOf r).f1 (a - (pieceOf r).f0).toNat (leB x n.toNat))[j]? = (bytesB r.f1)[j]? := by
          rw [hge]
          split
          · rfl
          · rw [if_neg (by omega)]; rfl
        unfold strOfNums
        simp only [List.getElem?_toArray, List.getElem?_map]
        show Option.map _ (patch (pieceOf r).f1 (a - (pieceOf r).f0).toNat (leB x n.toNat))[j]? = _
        rw [e]
        unfold bytesB
        have hj' : j < r.f1.data.size := hj
        simp [hj', Function.comp_def]
    · simp at hq
  · rw [if_neg hki, List.getElem?_map, hr] at hq
    simp at hq
    subst hq
    exact ⟨rfl, rfl, bytesB_len _, fun j hj => .inl (by rw [show (pieceOf r).f1 = bytesB r.f1 from rfl, strOfNums_bytesB])⟩

set_option maxRecDepth 100000 in
set_option maxHeartbeats 2000000 in
theorem back_main (W : World) (A : Option Addr) (cap : Nat) (l : List S39) (hA : IsRegs W A cap l) (q : ActV) (hq : q.wf) :
    Calls Try.prog 3 #[.slice A l.length cap, .agg #[.int .i64 q.k, .int .i64 q.n, .int .u64 q.a, .int .u64 q.x]] W fun e w' => e = .returned (.bool true) ∧ Kp [] W w' := by
  obtain ⟨qk, n, a, x⟩ := q
  obtain ⟨⟨ha0, ha1⟩, hx0, hx1⟩ := hq
  dsimp only at ha0 ha1 hx0 hx1 ⊢
  have ka := (Kp.refl [] W).alloc (.cells #[.int .i64 qk, .int .i64 n, .int .u64 a, .int .u64 x] 25)
  have hbx := heap_alloc_new W (.cells #[.int .i64 qk, .int .i64 n, .int .u64 a, .int .u64 x] 25)
  have GA := fun w (k : Kp [] W w) => Lib.hid (great_any w A cap l (hA.kept k))
  have WA := Lib.hid (works_any (W.alloc (.cells #[.int .i64 qk, .int .i64 n, .int .u64 a, .int .u64 x] 25)))
  go_enter Try.func3, Try.ntmps3
  go_wp2_with fail
  refine WA.out.mono ?_
  rintro e w1 ⟨rfl, k1⟩
  go_wp2_with fail
  refine (GA w1 (ka.trans k1)).out.mono ?_
  rintro e w2 ⟨rfl, k2⟩
  have hb2 := ((k1.trans k2).block _ (ltB hbx) (by simp)).trans hbx
  have kk := (ka.trans k1).trans k2
  clear hbx
  cases hgr : greatB l
  case true =>
    clear hgr
    go_wp2
    go_ret
    exact ⟨rfl, kk⟩
  obtain ⟨hl10, hl200⟩ := great_no hgr
  clear hgr
  have hcap : cap ≤ 9223372036854775807 := hA.2.2.1
  have HN := Lib.hid (new_any w2 A cap l (hA.kept kk) hl10 hl200)
  go_wp2_with fail
  refine HN.out.mono ?_
  rintro e w3 ⟨k3, ⟨hc, m, bs, rfl, hm⟩ | ⟨hc, rfl⟩⟩
  case inr =>
    have hne : (chk 0 l == 0) = false := by simpa using hc
    have hne2 : (chk 0 l != 0) = true := by simpa using hc
    clear HN
    go_wp2
    go_ret
    exact ⟨rfl, kk.trans k3⟩
  have HC := Lib.hid hc
  have hg := good_new hc hl10 hl200
  have hb3 := (k3.block _ (ltB hb2) (by simp)).trans hb2
  have x1 := cellB hb3 1
  have x2 := cellB hb3 2
  have x3 := cellB hb3 3
  simp at x1 x2 x3
  have HS := Lib.hid (store_any w3 _ m 0 bs _ hm hg a n x ha0 ha1 hx0 hx1 (by decide) (by decide))
  have HSM := fun w' (k' : Kp [] w3 w') => Lib.hid (same_any w' _ m 0 bs _ (hm.kept k' (by simp)) hg A cap l (hA.kept ((kk.trans k3).trans k')) (match_new l))
  have HWR := fun w' (k' : Kp [] w3 w') => Lib.hid (written_any w' _ m 0 bs _ (hm.kept k' (by simp)))
  clear HN hc
  go_wp2_with fail
  refine HS.out.mono ?_
  rintro e w4 (⟨hs, rfl, k4⟩ | ⟨hs, hf, rfl, k4⟩ | ⟨hs, rfl, k, p, b, hf, hp, hb, k4, hm4⟩)
  iterate 2
    · have H1 := HSM _ k4
      clear HSM HS hs
      go_wp2_with fail
      refine H1.out.mono ?_
      rintro e w5 ⟨rfl, k5⟩
      have H2 := HWR _ (k4.trans k5)
      clear H1 HWR
      go_wp2_with fail
      refine H2.out.mono ?_
      rintro e w6 ⟨rfl, rfl⟩
      go_wp2
      go_ret
      exact ⟨rfl, ((kk.trans k3).trans k4).trans k5⟩
  have hb4 : w4.heap[W.heap.size]? = some (.cells #[.int .i64 qk, .int .i64 n, .int .u64 a, .int .u64 x] 25 (0, 0)) := by
    refine (k4.block _ (ltB hb3) ?_).trans hb3
    have h1 := hm.mB
    have h2 := (hm.bytes hp hb).1
    have h3 := kk.size
    have h4 := (Kp.refl [] W).size
    have h5 := ltB hb2
    simp
    omega
  have y1 := cellB hb4 1
  have y2 := cellB hb4 2
  have y3 := cellB hb4 3
  simp at y1 y2 y3
  have hle : p.f0 ≤ a := by
    obtain ⟨hk, h1, _⟩ := hf.1
    have := (List.getElem?_eq_some_iff.1 hp).2
    rwa [this] at h1
  obtain ⟨n1, n8⟩ := sizeOk_bd hs
  have hfit := not_lacks (hf.2 p hp) hle n1
  have hg4 := good_patch hg hp (patch_len (by rw [leB_len]; exact hfit)) (patch_isB (hg.bytes p (List.mem_of_getElem? hp)) (leB_isB x n.toNat))
  have HL := Lib.hid (load_any w4 _ m _ bs _ hm4 hg4 a n ha0 ha1)
  have HNR := Lib.hid (fun (i : Nat) (r : S39) (q : S59) => near_all (x := x) hf hp hs i r q)
  have HBK := fun y c => Lib.hid (load_back (y := y) (c := c) hx0 hf hp hs)
  have kw4 : Kp [] W w4 := by
    refine (kk.trans k3).into k4 ?_
    have h1 := hm.mB
    have h2 := (hm.bytes hp hb).1
    have h3 := kk.size
    simp
    omega
  have hlen4 : ((l.map pieceOf).set k ⟨p.f0, patch p.f1 (a - p.f0).toNat (leB x n.toNat), p.f2⟩).length = l.length := by simp
  generalize (l.map pieceOf).set k ⟨p.f0, patch p.f1 (a - p.f0).toNat (leB x n.toNat), p.f2⟩ = ps4 at *
  clear HS HSM HWR hm hg hf hp hb k4 hfit hb3 hb2 x1 x2 x3 WA GA
  have HB4 := Lib.hid hb4
  clear hb4
  have HWA : Hid (∀ y c, LoadSays ps4 a n y c → (c == 0) = false ∨ ((c == 0) = true ∧ ((n < 8 → (y != x % 256 ^ n.toNat) = false) ∧ (n = 8 → (y != x) = false)))) := (fun y c h => by
    rcases (HBK y c).out h with h | ⟨h1, h2⟩
    · exact .inl (by simpa using h)
    · refine .inr ⟨by simpa using h1, fun _ => by simpa using h2, fun e => ?_⟩
      subst e
      rw [h2]
      have : x % 256 ^ (8 : Int).toNat = x := Int.emod_eq_of_lt hx0 hx1
      rw [this]
      simp : ∀ y c, LoadSays ps4 a n y c → (c == 0) = false ∨ ((c == 0) = true ∧ ((n < 8 → (y != x % 256 ^ n.toNat) = false) ∧ (n = 8 → (y != x) = false))))
  clear HBK
  have HMK := Lib.hid (want_mask x n hx0 hx1 hs)
  have HSZ8 : Hid (¬ n < 8 → n = 8) := (fun h => by omega : ¬ n < 8 → n = 8)
  clear hs
  by_cases hn8 : n < 8
  all_goals
    first
      | (have hmk := HMK.out hn8)
      | (have hn8' : decide (n < 8) = false := decide_eq_false hn8)
    go_wp2_with fail
    refine HL.out.mono ?_
    rintro e w5 ⟨y, c, rfl, hls, k5⟩
    have HC2 := HWA.out y c hls
    have hb5 := (k5.block _ (ltB HB4.out) (by simp)).trans HB4.out
    have z1 := cellB hb5 1
    have z2 := cellB hb5 2
    simp at z1 z2
    clear HL hls
    rcases HC2 with hc | ⟨hc, hc2, hc3⟩
    all_goals
      first
        | (have hcw := hc2 hn8; clear hc2 hc3)
        | (have hcw := hc3 (HSZ8.out hn8); clear hc2 hc3)
        | skip
      go_wp2_with fail
      go_loopw [86] (fun i wr => ∃ (j : Nat), j ≤ l.length ∧ i = .int .i64 j ∧ Kp [] w4 wr) (fun i _ => l.length - (intOf i).toNat)
      case atStart => exact ⟨0, by omega, rfl, k5⟩
      case round =>
        obtain ⟨j, hj, rfl, kj⟩ := hrel
        by_cases hlt : j < l.length
        · obtain ⟨b, off, rfl, hb, c0, c1, c2⟩ := (hA.kept (kw4.trans kj)).at_ j hlt
          have hb5 := (kj.block _ (ltB HB4.out) (by simp)).trans HB4.out
          have z1 := cellB hb5 1
          have z2 := cellB hb5 2
          simp at z1 z2
          have hj4 : j < ps4.length := by omega
          have HR := Lib.hid (fun w' (k' : Kp [] wr w') => region_yes w' _ m _ bs ps4 (hm4.kept (kj.trans k') (by simp)) hg4 j ps4[j] (by simp [hj4]))
          have NR := HNR.out j l[j] ps4[j] (by simp [hlt]) (by simp [hj4])
          generalize ps4[j] = p4 at HR NR
          have hr200 := hl200 l[j] (List.getElem_mem _)
          have hok := okR_mem l 0 ((chk_ok l 0).2 HC.out) l[j] (List.getElem_mem _)
          generalize l[j] = r at c0 c1 c2 NR hr200 hok
          obtain ⟨e0, e2, e1, eb⟩ := NR
          rw [e0, e2] at HR
          have HSZ : Hid ((strOfNums p4.f1).size = r.f1.size) := ((strOfNums_size _).trans e1 : (strOfNums p4.f1).size = r.f1.size)
          generalize strOfNums p4.f1 = nd at HR eb HSZ
          clear e0 e2 e1
          have HEB := Lib.hid eb
          have hq1 : ((nd.size : Int) == (r.f1.size : Int)) = true := by rw [HSZ.out]; simp
          have hq2 : ((nd.size : Int) != (r.f1.size : Int)) = false := by rw [HSZ.out]; simp
          have hbad := hok.1
          unfold badR lastP at hbad
          have hf0 := hok.2
          have hr1 : r.f0 + r.f1.size ≤ 9223372036854775808 := by omega
          have HR1 := Lib.hid (HR.out _ ((Kp.refl [] wr).alloc (.cells #[.int .u64 r.f0, .string r.f1, .int .i64 r.f2] 39)))
          have hrb := heap_alloc_new wr (.cells #[.int .u64 r.f0, .string r.f1, .int .i64 r.f2] 39)
          clear HR eb hok hbad
          have hwb := Nat.lt_of_lt_of_le (ltB HB4.out) kj.size
          go_wp2_with fail
          refine HR1.out.mono ?_
          rintro e w6 ⟨rfl, k6⟩
          have hrb6 := (k6.block _ (ltB hrb) (by simp)).trans hrb
          have u0 := cellB hrb6 0
          have u1 := cellB hrb6 1
          have u2 := cellB hrb6 2
          simp at u0 u1 u2
          have hlt6 := ltB hrb6
          clear hrb HR1
          go_wp2_with fail
          have hW6 : W.heap.size < w6.heap.size := by have := k6.size; simp at this; omega
          have hx60 := (Below.heap_alloc w6 (.cells #[.int .u64 r.f0, .string nd, .int .i64 r.f2] 39) _ hlt6).trans hrb6
          have hy60 := heap_alloc_new w6 (.cells #[.int .u64 r.f0, .string nd, .int .i64 r.f2] 39)
          have hz60 := (Below.heap_alloc w6 (.cells #[.int .u64 r.f0, .string nd, .int .i64 r.f2] 39) W.heap.size hW6).trans ((k6.block W.heap.size (by simp; omega) (by simp)).trans ((Below.heap_alloc wr (.cells #[.int .u64 r.f0, .string r.f1, .int .i64 r.f2] 39) W.heap.size hwb).trans hb5))
          have kO0 := ((((Kp.refl [] wr).alloc (.cells #[.int .u64 r.f0, .string r.f1, .int .i64 r.f2] 39)).trans k6).alloc (.cells #[.int .u64 r.f0, .string nd, .int .i64 r.f2] 39))
          go_loopw [125] (fun i wq => ∃ (t : Nat), t ≤ r.f1.size ∧ i = .int .i64 t ∧ Kp [] (w6.alloc (.cells #[.int .u64 r.f0, .string nd, .int .i64 r.f2] 39)) wq) (fun i _ => r.f1.size - (intOf i).toNat)
          case atStart => exact ⟨0, by omega, rfl, Kp.refl _ _⟩
          case round =>
            obtain ⟨t, ht, rfl, kt⟩ := hrel
            by_cases htl : t < r.f1.size
            · have hx6 := (kt.block _ (ltB hx60) (by simp)).trans hx60
              have hy6 := (kt.block _ (ltB hy60) (by simp)).trans hy60
              have hz6 := (kt.block _ (ltB hz60) (by simp)).trans hz60
              have o0 := cellB hx6 0
              have o1 := cellB hx6 1
              have p1 := cellB hy6 1
              have s1 := cellB hz6 1
              have s2 := cellB hz6 2
              simp at o0 o1 p1 s1 s2
              have hnt : t < nd.size := by have := HSZ.out; omega
              have EB := HEB.out t htl
              by_cases hEq : (nd[t]'hnt) = (r.f1[t]'htl)
              · have g1 : ((((nd[t]'hnt).toNat : Nat) : Int) != (((r.f1[t]'htl).toNat : Nat) : Int)) = false := by rw [hEq]; simp
                clear hEq EB
                go_wp2_with fail
                go_quiet (fail)
                go_wp2
                go_roundw
                case rel => exact ⟨t + 1, by omega, by go_num, kt.trans (kp_drewN _ _)⟩
                case measure => simp [intOf]; omega
              · have g1 : ((((nd[t]'hnt).toNat : Nat) : Int) != (((r.f1[t]'htl).toNat : Nat) : Int)) = true := by
                  rw [bne_iff_ne]
                  intro h
                  exact hEq (UInt8.toNat_inj.1 (by omega))
                have g2 : a ≤ r.f0 + t ∧ r.f0 + t < a + n := by
                  rcases EB with h | h
                  · exfalso
                    apply hEq
                    have e1 : nd.data[t]? = some (nd[t]'hnt) := by simp [hnt]; rfl
                    have e2 : r.f1.data[t]? = some (r.f1[t]'htl) := by simp [htl]; rfl
                    rw [e1, e2] at h
                    exact Option.some.inj h
                  · exact h
                obtain ⟨g3, g4⟩ := g2
                have g5 : decide (r.f0 + (t : Int) < a) = false := decide_eq_false (by omega)
                have g6 : IntKind.u64.wrap (r.f0 + (t : Int) - a) = r.f0 + t - a := by rw [IntKind.wrap_u64]; omega
                have g7 : decide (n ≤ r.f0 + (t : Int) - a) = false := decide_eq_false (by omega)
                have g8 : IntKind.u64.wrap n = n := by rw [IntKind.wrap_u64]; omega
                clear hEq EB
                go_wp2_with fail
                go_quiet (fail)
                go_wp2
                go_roundw
                case rel => exact ⟨t + 1, by omega, by go_num, kt.trans (kp_drewN _ _)⟩
                case measure => simp [intOf]; omega
            · have hd9 : decide ((t : Int) < r.f1.size) = false := decide_eq_false (by omega)
              have kO := kO0.trans kt
              go_wp2
              go_roundw
              case rel => exact ⟨j + 1, by omega, by go_num, kj.trans kO⟩
              case measure => simp [intOf]; omega
        · have e : j = l.length := by omega
          subst e
          have hd2 : decide ((l.length : Int) < l.length) = false := by simp
          have HWR := Lib.hid (fun w' (k' : Kp [] wr w') => written_any w' _ m _ bs ps4 (hm4.kept (kj.trans k') (by simp)))
          have hb6 := (kj.block _ (ltB HB4.out) (by simp)).trans HB4.out
          have y1 := cellB hb6 1
          simp at y1
          have kend := kw4.trans kj
          have g8 : IntKind.u64.wrap n = n := by rw [IntKind.wrap_u64]; omega
          have g9 : (0 + n : Int) = n := by omega
          go_wp2_with fail
          go_region_with (go_at_call 11; refine (HWR.out _ (Kp.refl [] wr).drew).mono ?_; rintro e w' ⟨rfl, rfl⟩)
          all_goals
            go_wp2
            go_ret
            exact ⟨rfl, kend.drew⟩
theorem back_walk (W : World) (A : Option Addr) (cap : Nat) (l : List S39) (q : ActV) (hA : IsRegs W A cap l) (hq : q.wf) :
    Calls Try.prog 3 #[.slice A l.length cap, .agg #[.int .i64 q.k, .int .i64 q.n, .int .u64 q.a, .int .u64 q.x]] W fun e w' => e = .returned (.bool true) ∧ Below W.heap.size W w' :=
  (back_main W A cap l hA q hq).mono fun _ _ ⟨h, k⟩ => ⟨h, k.below (Nat.le_refl _) (by simp)⟩
end Go.Proofs.Ytndpmjgalmnhdaa
