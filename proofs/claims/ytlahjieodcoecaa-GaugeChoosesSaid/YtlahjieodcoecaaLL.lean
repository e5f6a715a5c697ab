/- burinlaw32.GaugeLeast: it answers true, for every slice of floats (the walk). -/
import Derived.Test.YtlahjieodcoecaaS
namespace Go.Proofs.Ytlahjieodcoecaa
open Go.RowKit
set_option linter.unusedVariables false

theorem frow_below {w w' : World} {a : Option Addr} {len : Nat} {l : List Nat} (h : FRow w a len l) (k : Kp [] w w') : FRow w' a len l :=
  ⟨h.n, h.wf, fun h0 => by
    obtain ⟨b, off, e, hc⟩ := h.at' h0
    refine ⟨b, off, e, fun j hj => ?_⟩
    have hb := World.block_lt_of_cell? w _ (hc j hj)
    rw [← hc j hj]
    unfold World.cell?
    simp only [k.block b hb (by simp)], h.top⟩

set_option maxHeartbeats 8000000 in
theorem law_least (W : World) (a : Option Addr) (len cap : Nat) (l : List Nat) (h : FRow W a len l) :
    Calls Try.prog 5 #[.slice a len cap] W fun e w' => e = .returned (.bool true) ∧ Below W.heap.size W w' := by
  have ht := h.top
  by_cases h100 : 100 < len
  · clear h
    go_enter Try.func5, Try.ntmps5
    go_wp2_with fail
    refine (works_any _).mono ?_
    rintro e w1 ⟨rfl, k⟩
    go_wp2
    go_ret
    exact ⟨rfl, k.below (Nat.le_refl _) (by simp)⟩
  · obtain ⟨s1, s2⟩ := lst_spec l len
    have hlt := lst_lt l len
    have hge := lst_ge l len
    have HL := fun w (h : FRow w a len l) => least_any w a len cap l h
    obtain ⟨y, hy⟩ : ∃ y, y = lst l len := ⟨_, rfl⟩
    rw [← hy] at s1 s2 hlt hge HL
    have HF0 := Lib.hid h
    have S1 := Lib.hid s1
    have S2 := Lib.hid s2
    clear h s1 s2 hy
    go_enter Try.func5, Try.ntmps5
    go_wp2_with fail
    refine (works_any _).mono ?_
    rintro e w ⟨rfl, k⟩
    have HF := Lib.hid (frow_below HF0.out k)
    have HB := Lib.hid (k.below (Nat.le_refl _) (by simp))
    clear HF0 k
    go_wp2_with fail
    refine (HL w HF.out).mono ?_
    rintro e w1 ⟨rfl, rfl⟩
    clear HL
    go_wp2_with fail
    go_loop [23] (fun i => ∃ k : Nat, k ≤ len ∧ i = .int .i64 k) (fun i => len - (intOf i).toNat)
    case atStart => exact ⟨0, by omega, rfl⟩
    case round =>
      obtain ⟨k, hk, rfl⟩ := hrel
      by_cases hkl : k < len
      · obtain ⟨b, off, rfl, hc⟩ := HF.out.at' (by omega)
        have hwf := HF.out.wf
        have hx := hc k hkl
        have hxw := hwf k hkl
        have t1 := S1.out
        have t2 := S2.out
        have H1 := isNaN_any (l.getD k 0) w
        have H2 := isInf_any (l.getD k 0) w
        obtain ⟨n1, hn1⟩ : ∃ n, fN (l.getD k 0) = n := ⟨_, rfl⟩
        obtain ⟨n2, hn2⟩ : ∃ n, pI (l.getD k 0) = n := ⟨_, rfl⟩
        rw [hn1] at H1
        rw [hn2] at H2
        by_cases hskip : n1 = true ∨ n2 = true
        · have hky : (k : Int) ≠ y := by
            intro e
            have := (t2 (by omega)).1
            rw [show y.toNat = k from by omega, hn1, hn2] at this
            simp at this; rcases hskip with e | e <;> simp [e] at this
          have hky' : ((k : Int) == y) = false := by simpa using hky
          obtain ⟨x, hxe⟩ : ∃ x, x = l.getD k 0 := ⟨_, rfl⟩
          rw [← hxe] at hx hxw H1 H2
          clear hxe t1 t2 hn1 hn2 hc hwf
          cases n1
          · simp at hskip
            subst hskip
            go_wp2_with fail
            refine H1.mono ?_
            rintro e w1 ⟨rfl, rfl⟩
            go_wp2_with fail
            refine H2.mono ?_
            rintro e w1 ⟨rfl, rfl⟩
            go_wp2_with fail
            go_round
            case rel => exact ⟨k + 1, by omega, by go_num⟩
            case measure => simp [intOf]; omega
          · clear hskip
            go_wp2_with fail
            refine H1.mono ?_
            rintro e w1 ⟨rfl, rfl⟩
            go_wp2_with fail
            go_round
            case rel => exact ⟨k + 1, by omega, by go_num⟩
            case measure => simp [intOf]; omega
        · obtain ⟨rfl, rfl⟩ : n1 = false ∧ n2 = false := by simpa using hskip
          have hsk : (fN (l.getD k 0) || pI (l.getD k 0)) = false := by rw [hn1, hn2]; rfl
          have hy0 : 0 ≤ y := by
            apply Classical.byContradiction; intro hc'
            have := t1 (by omega) k hkl
            rw [hsk] at this; cases this
          obtain ⟨q1, q2⟩ := (t2 hy0).2 k hkl hsk
          have hz := hc y.toNat (by omega)
          have hzw := hwf y.toNat (by omega)
          have ho := ord_cases (l.getD k 0) (l.getD y.toNat 0)
          have H3 := order_any (l.getD k 0) (l.getD y.toNat 0) hxw hzw w
          obtain ⟨z, hze⟩ : ∃ z, z = l.getD y.toNat 0 := ⟨_, rfl⟩
          obtain ⟨x, hxe⟩ : ∃ x, x = l.getD k 0 := ⟨_, rfl⟩
          rw [← hxe] at hx hxw H1 H2 H3 ho q1 q2
          rw [← hze] at hz hzw H3 ho q1 q2
          obtain ⟨o, hoe⟩ : ∃ o, o = ord x z := ⟨_, rfl⟩
          rw [← hoe] at ho H3
          have ho1 : 0 ≤ o := by omega
          have ho2 : (k : Int) < y → (o == 0) = false := fun h => by have := q2 h; simp; omega
          clear hxe hze t1 t2 hn1 hn2 hc hwf hsk hskip q1 q2 ho hoe
          by_cases hkt : (k : Int) < y
          · have ho3 := ho2 (by omega)
            clear ho2
            go_wp2_with fail
            refine H1.mono ?_
            rintro e w1 ⟨rfl, rfl⟩
            go_wp2_with fail
            refine H2.mono ?_
            rintro e w1 ⟨rfl, rfl⟩
            go_wp2_with fail
            refine H3.mono ?_
            rintro e w1 ⟨rfl, rfl⟩
            go_wp2_with fail
            refine H3.mono ?_
            rintro e w1 ⟨rfl, rfl⟩
            go_wp2_with fail
            go_round
            case rel => exact ⟨k + 1, by omega, by go_num⟩
            case measure => simp [intOf]; omega
          · clear ho2
            go_wp2_with fail
            refine H1.mono ?_
            rintro e w1 ⟨rfl, rfl⟩
            go_wp2_with fail
            refine H2.mono ?_
            rintro e w1 ⟨rfl, rfl⟩
            go_wp2_with fail
            refine H3.mono ?_
            rintro e w1 ⟨rfl, rfl⟩
            go_wp2_with fail
            go_round
            case rel => exact ⟨k + 1, by omega, by go_num⟩
            case measure => simp [intOf]; omega
      · obtain rfl : k = len := by omega
        go_wp2_with fail
        go_ret
        exact ⟨rfl, HB.out⟩
end Go.Proofs.Ytlahjieodcoecaa
