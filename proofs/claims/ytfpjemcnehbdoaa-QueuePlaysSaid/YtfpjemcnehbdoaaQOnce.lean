/- Package queue, the law QueueOnce: it returns true, for every slice of integers, and writes nothing that was there. No condition. -/
import Derived.Test.YtfpjemcnehbdoaaQCuts
import Derived.OpenShut
namespace Go.Proofs.Ytfpjemcnehbdoaa
open Go.RowKit
set_option linter.unusedVariables false

/-- What the walk is told of a slice of integers that came in. -/
def IsRow (k : IntKind) (w : World) (a : Option Addr) (len cap : Nat) (zs : List Int) : Prop :=
  (a = none ∧ len = 0 ∧ cap = 0 ∧ zs = []) ∨
  ∃ x, a = some x ∧ len ≤ cap ∧ cap ≤ maxLen ∧ zs.length = cap ∧ (∀ i, i < zs.length → w.cell? (x.add i) = some (.int k (zs.getD i 0))) ∧ ∀ n ∈ zs, (Lit.int k n).wf = true

theorem IsRow.open' {k : IntKind} {w : World} {a : Option Addr} {len cap : Nat} {zs : List Int} (h : IsRow k w a len cap zs) (hl : 0 < len) :
    ∃ b off, a = some ⟨b, off, none⟩ ∧ b < w.heap.size ∧ ∀ j, j < len → w.cell? ⟨b, off + j, none⟩ = some (.int k (zs.getD j 0)) := by
  rcases h with ⟨_, h, _⟩ | ⟨x, rfl, h1, h2, h3, h4, h5⟩
  · omega
  · obtain ⟨b, off, rfl, hc⟩ := ints_at h4 (by omega)
    exact ⟨b, off, rfl, World.block_lt_of_cell? w _ (hc 0 (by omega)), fun j hj => hc j (by omega)⟩

/-- Is the number fresh: in range, and none of these? -/
def frB (x : Int) (l : List Nat) : Bool := decide (0 ≤ x) && decide (x < 100) && l.all (fun m => (m : Int) != x)
theorem frB_nil (x : Int) : frB x [] = (decide (0 ≤ x) && decide (x < 100)) := by simp [frB]
theorem frB_snoc (x : Int) (l : List Nat) (m : Nat) : frB x (l ++ [m]) = (frB x l && ((m : Int) != x)) := by simp [frB, Bool.and_assoc]
theorem frB_true {x : Int} {l : List Nat} (h : true = frB x l) : 0 ≤ x ∧ x < 100 ∧ x.toNat ∉ l := by
  have h := h.symm
  simp [frB] at h
  refine ⟨h.1.1, h.1.2, fun hm => ?_⟩
  have := h.2 _ hm
  omega
theorem frB_false {x : Int} {l : List Nat} (h : false = frB x l) : x < 0 ∨ 100 ≤ x ∨ (0 ≤ x ∧ x < 100 ∧ x.toNat ∈ l) := by
  have h := h.symm
  by_cases h0 : x < 0
  · exact .inl h0
  by_cases h1 : 100 ≤ x
  · exact .inr (.inl h1)
  refine .inr (.inr ⟨by omega, by omega, ?_⟩)
  simp [frB, show 0 ≤ x by omega, show x < 100 by omega] at h
  obtain ⟨m, hm, e⟩ := h
  have : x.toNat = m := by omega
  rw [this]; exact hm

def nums (l : List Nat) : List Value := l.map fun x => Value.int .i64 (x : Nat)

/-- A slice of the call's own that holds these numbers. -/
def Own (w : World) (base : Nat) (v : Value) (l : List Nat) : Prop := w.ownsRow base 3 1 v l.length (nums l)

theorem Own.view {w base v l} (h : Own w base v l) : ∃ a cap, v = .slice a l.length cap ∧ (0 < l.length → ∃ g, a = some ⟨g, 0, none⟩ ∧ base ≤ g ∧ ∀ j x, l[j]? = some x → w.cell? ⟨g, j, none⟩ = some (.int .i64 (x : Nat))) := by
  have hc := fun g hg => World.ownsRow.cells h (g := g) hg
  rcases h.2 with ⟨rfl, h0⟩ | ⟨g, cap, cur, rfl, hb, _⟩
  · exact ⟨none, 0, by rw [h0], fun h1 => by omega⟩
  · refine ⟨_, _, rfl, fun _ => ⟨g, rfl, hb, fun j x hx => ?_⟩⟩
    have := hc g rfl j (.int .i64 x) (by simp [nums, hx])
    have e : (⟨g, 0, none⟩ : Addr).add j = ⟨g, j, none⟩ := by unfold Addr.add; split <;> simp_all
    rw [e] at this
    exact this

theorem Own.kp {w w' base v l S} (h : Own w base v l) (k : Kp S w w') (hS : ∀ x ∈ S, x < base) : Own w' base v l := by
  refine ⟨h.1, ?_⟩
  rcases h.2 with hn | ⟨g, cap, cur, rfl, hb, hg, rest⟩
  · exact .inl hn
  · refine .inr ⟨g, cap, cur, rfl, hb, ?_, rest⟩
    rw [k.block g (ltB hg) (fun hx => by have := hS g hx; omega)]
    exact hg

theorem Kp.ofGrown {w w' : World} {r : Option Nat} (h : w.grownBy w' r) : Kp r.toList w w' :=
  ⟨h.os, h.tape, h.output, h.size, fun k hk hn => h.block k hk (fun e => hn (by simp [← e]))⟩

set_option maxRecDepth 100000 in
set_option maxHeartbeats 1000000 in
theorem once_main (w : World) (a : Option Addr) (len cap : Nat) (z : List Int) (hz : IsRow .i64 w a len cap z) (hlen : len ≤ 200) :
    Calls Try.prog 4 #[.slice a len cap] w fun e w' => e = .returned (.bool true) ∧ Kp [] w w' := by
  have HZ := Lib.hid hz
  clear hz
  obtain ⟨i0, hi0, hz0, hz1, hz2⟩ := info_parts Try.info3
  go_enter Try.func4, Try.ntmps4
  go_wp2_with fail
  refine (works_any w).mono ?_
  rintro e w0 ⟨rfl, k0⟩
  go_wp2_with fail
  refine (new_yes' w0 100 (by omega) (by omega)).mono ?_
  rintro e w1 ⟨q, wb, lb, rfl, h1, hq, hwb, hlb, k1⟩
  have hs0 := k0.size
  have hT : ∀ x ∈ [q, wb, lb], w.heap.size ≤ x ∨ x ∈ ([] : List Nat) := by simp; omega
  have HT := Lib.hid hT
  obtain ⟨cw, hw, _⟩ := h1.hw
  obtain ⟨cl, hl, _⟩ := h1.hl
  have hB : ∀ x ∈ [q, wb, lb], x < w1.heap.size := by
    have l1 := ltB hw; have l2 := ltB hl; have l3 := ltB h1.hq
    simp; omega
  have HB := Lib.hid hB
  clear hw hl hB
  have K1 := k0.trans k1
  clear k0 k1 hT hs0
  go_wp2_with fail
  go_loopw [24] (fun i wr => ∃ j : Nat, j ≤ 2 ∧ i = .int .i64 j ∧ IsQ wr q wb lb 100 [] ∧ Kp [] w wr ∧ w1.heap.size ≤ wr.heap.size) (fun i _ => 2 - (intOf i).toNat)
  case atStart => exact ⟨0, by omega, rfl, by simpa using h1, K1, Nat.le_refl _⟩
  case round =>
    obtain ⟨j, hj, rfl, hQ, hK, hsz⟩ := hrel
    by_cases hlt : j < 2
    · have hd1 : decide ((j : Int) < 2) = true := by simp; omega
      go_wp2_with fail
      obtain ⟨wo, rfl⟩ : ∃ wo : World, wo = wr := ⟨_, rfl⟩
      go_loopw [5, 28] (fun v i wr => ∃ (k : Nat) (l : List Nat), k ≤ len ∧ i = .int .i64 k ∧ IsQ wr q wb lb 100 l ∧ Own wr w1.heap.size v l ∧ Kp [] w wr ∧ w1.heap.size ≤ wr.heap.size) (fun _ i _ => len - (intOf i).toNat)
      case atStart => exact ⟨0, [], by omega, rfl, hQ, World.ownsRow_nil _ _ _ _, hK, hsz⟩
      case round =>
        obtain ⟨k, l, hk, rfl, hQ, hO, hK, hsz⟩ := hrel
        obtain ⟨a1, cap1, rfl, hv⟩ := hO.view
        have hl100 := hQ.le
        by_cases hkl : k < len
        · obtain ⟨b, off, rfl, hb, hc⟩ := HZ.out.open' (by omega)
          have hck := (World.cell?_of_block (hK.block b hb (by simp))).trans (hc k hkl)
          obtain ⟨x, hx⟩ : ∃ x, x = z.getD k 0 := ⟨_, rfl⟩
          rw [← hx] at hck
          have HV := Lib.hid hv
          have HO := Lib.hid hO
          clear hc hx hv hO
          have hd2 : decide ((k : Int) < (len : Int)) = true := by simp; omega
          rcases (show x < 0 ∨ (0 ≤ x ∧ x < 100) ∨ (0 ≤ x ∧ 100 ≤ x) from by omega) with hx | ⟨hx0, hx⟩ | ⟨hx0, hx⟩
          all_goals
            go_wp2_with fail
            go_loop [8, 40] (fun f i => ∃ (t : Nat) (b : Bool), t ≤ l.length ∧ i = .int .i64 t ∧ f = .bool b ∧ Hid (b = frB x (l.take t))) (fun _ i => l.length - (intOf i).toNat)
            case atStart => exact ⟨0, _, by omega, rfl, rfl, by show _ = _; rw [List.take_zero, frB_nil]; first | (simp; done) | (simp; omega) | (simp [hx0]; omega)⟩
            case round =>
              obtain ⟨t, b', ht, rfl, rfl, HF⟩ := hrel
              by_cases htl : t < l.length
              · obtain ⟨g, rfl, hg, hgc⟩ := HV.out (by omega)
                obtain ⟨m, hm⟩ : ∃ m, l[t]? = some m := ⟨l[t], by simp [htl]⟩
                have hcm := hgc t m hm
                have hs : l.take (t + 1) = l.take t ++ [m] := by rw [List.take_add_one, hm]; rfl
                have HS := Lib.hid hs
                clear hgc hm hs
                cases b'
                · go_wp2_with fail
                  go_round
                  case rel => exact ⟨t + 1, false, by omega, by go_num, rfl, by show _ = _; rw [HS.out, frB_snoc, ← HF.out]; rfl⟩
                  case measure => simp [intOf]; omega
                · go_wp2_with fail
                  go_round
                  case rel => exact ⟨t + 1, _, by omega, by go_num, rfl, by show _ = _; rw [HS.out, frB_snoc, ← HF.out]; simp [bne]⟩
                  case measure => simp [intOf]; omega
              · have HF' : Hid (b' = frB x l) := by have := HF.out; rw [List.take_of_length_le (by omega)] at this; exact this
                clear HF
                cases b'
                · have hcase := frB_false HF'.out
                  clear HF'
                  have H2 : Calls Try.prog 8 #[.pointer (some ⟨q, 0, none⟩), .int .i64 x] wr fun e w' => e = .returned (.bool false) ∧ wr = w' := add_no wr q wb lb 100 l hQ x (by rcases hcase with h | h | ⟨_, _, h⟩ <;> simp [h])
                  have H1 : ∃ c, (Calls Try.prog 10 #[.pointer (some ⟨q, 0, none⟩), .int .i64 x] wr fun e w' => e = .returned (.bool c) ∧ wr = w') ∧ ((x < 0 ∨ 100 ≤ x) ∧ c = false ∨ (0 ≤ x ∧ x < 100 ∧ c = true)) := by
                    rcases hcase with h | h | ⟨h, h', hm⟩
                    · exact ⟨false, has_no wr q wb lb 100 l hQ x (by omega), .inl ⟨.inl h, rfl⟩⟩
                    · exact ⟨false, has_no wr q wb lb 100 l hQ x (fun _ hm => by have := hQ.lt _ hm; omega), .inl ⟨.inr h, rfl⟩⟩
                    · exact ⟨true, has_yes' wr q wb lb 100 l hQ x h hm, .inr ⟨h, h', rfl⟩⟩
                  obtain ⟨c, H1, hc⟩ := H1
                  clear hcase
                  rcases hc with ⟨hh, rfl⟩ | ⟨h, h', rfl⟩
                  all_goals first | (exfalso; omega) | skip
                  all_goals
                    go_wp2_with fail
                    refine H1.mono ?_
                    rintro e w2 ⟨rfl, rfl⟩
                    go_wp2_with fail
                    refine H2.mono ?_
                    rintro e w2 ⟨rfl, rfl⟩
                    go_wp2_with fail
                    go_roundw
                    case rel => exact ⟨k + 1, l, by omega, by go_num, hQ, HO.out, hK, hsz⟩
                    case measure => simp [intOf]; omega
                · obtain ⟨hx1, hx2, hxm⟩ := frB_true HF'.out
                  clear HF'
                  first
                  | (exfalso; omega)
                  | (obtain ⟨m, rfl⟩ : ∃ m : Nat, x = m := ⟨x.toNat, by omega⟩
                     have hxm : m ∉ l := by simpa using hxm
                     have HM := Lib.hid hxm
                     clear hxm
                     go_wp2_with fail
                     refine (has_no wr q wb lb 100 l hQ m (by simpa using HM.out)).mono ?_
                     rintro e w2 ⟨rfl, rfl⟩
                     go_wp2_with fail
                     refine (add_yes wr q wb lb 100 l hQ m (by omega) HM.out).mono ?_
                     rintro e w2 ⟨rfl, hQ2, k2⟩
                     have hO2 := HO.out.kp k2 HB.out
                     have hK2 := hK.into k2 HT.out
                     have hs2 := k2.size
                     clear k2 hK hQ HO
                     go_wp2_with (at_builtin; refine wpList_append_own _ rfl _ _ 32 rfl w1.heap.size 3 i0 (.int .i64 0) 1 8 Try.underlying32 hi0 hz0 hz1 hz2 rfl (by decide) _ _ _ rfl (hO2.alloc _) ⟨w2.heap.size, 0, none⟩ 1 1 [.int .i64 m] rfl rfl ?c1 ?c2 ?c3 ?c4 ?c5 ?_)
                     case c1 => exact cell_one_new _ _ _
                     case c2 => intro u hu; simp at hu; subst hu; rfl
                     case c3 => unfold maxLen; omega
                     case c4 => omega
                     case c5 => simp; omega
                     intro v' w3 hown hg _
                     have hge : ∀ g, (Value.slice a1 l.length cap1).ownBlock = some g → g ∉ [q, wb, lb] ∧ w1.heap.size ≤ g := fun g hg => by
                       have h2 := (World.ownsRow.lt hO2 g hg).1
                       exact ⟨fun hm => by have h1 := HB.out g hm; omega, h2⟩
                     have kA := ((Kp.refl (Value.slice a1 l.length cap1).ownBlock.toList w2).alloc (.cells #[.int .i64 m] 3)).trans (Kp.ofGrown hg)
                     have hnot : ∀ y ∈ [q, wb, lb], y ∉ (Value.slice a1 l.length cap1).ownBlock.toList := fun y hy hm => (hge y (by simpa using hm)).1 hy
                     have hQ3 := hQ2.kept kA (hnot q (by simp)) (hnot wb (by simp)) (hnot lb (by simp))
                     have hK3 := hK2.into kA (fun y hy => .inl (by have h1 := (hge y (by simpa using hy)).2; have h2 := K1.size; omega))
                     have hs3 := kA.size
                     have hO3 : Own w3 w1.heap.size v' (l ++ [m]) := by
                       have h3 := hown
                       unfold Own nums
                       simpa [nums] using h3
                     clear kA hnot hge hg hown hO2 hQ2 hK2
                     go_wp2_with fail
                     go_roundw
                     case rel => exact ⟨k + 1, l ++ [m], by omega, by go_num, hQ3, hO3, hK3, by omega⟩
                     case measure => simp [intOf]; omega)
        · clear hk
          have HV := Lib.hid hv
          clear hv hO
          go_wp2_with fail
          go_loop [79] (fun i => ∃ t : Nat, t ≤ l.length ∧ i = .int .i64 t) (fun i => l.length - (intOf i).toNat)
          case atStart => exact ⟨0, by omega, rfl⟩
          case round =>
            obtain ⟨t, ht, rfl⟩ := hrel
            by_cases htl : t < l.length
            · obtain ⟨g, rfl, hg, hgc⟩ := HV.out (by omega)
              obtain ⟨m, hm⟩ : ∃ m, l[t]? = some m := ⟨l[t], by simp [htl]⟩
              have hcm := hgc t m hm
              have hml : m ∈ l := List.mem_iff_getElem?.2 ⟨t, hm⟩
              have HM := Lib.hid hm
              have HL := Lib.hid hml
              clear hgc hm hml
              go_wp2_with fail
              refine (at_yes wr q wb lb 100 l hQ t m (by omega) (by simpa using HM.out)).mono ?_
              rintro e w2 ⟨rfl, rfl⟩
              go_wp2_with fail
              refine (has_yes wr q wb lb 100 l hQ m HL.out).mono ?_
              rintro e w2 ⟨rfl, rfl⟩
              go_wp2_with fail
              go_round
              case rel => exact ⟨t + 1, by omega, by go_num⟩
              case measure => simp [intOf]; omega
            · go_wp2_with fail
              refine (len_any wr q wb lb 100 l hQ).mono ?_
              rintro e w2 ⟨rfl, rfl⟩
              go_wp2_with fail
              refine (clear_any wr q wb lb 100 l hQ).mono ?_
              rintro e w2 ⟨rfl, hQ2, k2⟩
              have hs2 := k2.size
              have hK2 := hK.into k2 HT.out
              go_wp2_with fail
              go_roundw
              case rel => exact ⟨j + 1, by omega, by go_num, hQ2, hK2, by omega⟩
              case measure => simp [intOf]; omega
    · go_wp2_with fail
      refine (len_any wr q wb lb 100 [] hQ).mono ?_
      rintro e w2 ⟨rfl, rfl⟩
      go_wp2_with fail
      go_ret
      exact ⟨rfl, hK⟩

theorem once_any (W : World) (a : Option Addr) (len cap : Nat) (z : List Int) (h : IsRow .i64 W a len cap z) :
    Calls Try.prog 4 #[.slice a len cap] W fun e w' => e = .returned (.bool true) ∧ Below W.heap.size W w' := by
  by_cases hl : len ≤ 200
  · exact (once_main W a len cap z h hl).mono fun e w' ⟨h1, h2⟩ => ⟨h1, h2.below (Nat.le_refl _) (by simp)⟩
  · clear h
    go_enter Try.func4, Try.ntmps4
    go_wp2_with fail
    refine (works_any W).mono ?_
    rintro e w0 ⟨rfl, k0⟩
    go_wp2_with fail
    go_ret
    exact ⟨rfl, k0.below (Nat.le_refl _) (by simp)⟩

end Go.Proofs.Ytfpjemcnehbdoaa
