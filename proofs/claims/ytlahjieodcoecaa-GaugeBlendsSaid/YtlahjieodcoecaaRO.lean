/- The document's order of floats is the program's (plain law and walk). -/
import Derived.Test.YtlahjieodcoecaaX
import Derived.Test.YtlahjieodcoecaaS
namespace Go.Proofs.Ytlahjieodcoecaa
open Go.RowKit
set_option linter.unusedVariables false
attribute [local go_sem] run_bits run_from

theorem vr_lt (r q : Nat) : vr r < vr q ↔ r < q := by
  constructor
  · intro h
    apply Classical.byContradiction; intro hc
    rcases Nat.lt_or_eq_of_le (show q ≤ r by omega) with e | e
    · have := vr_mono _ _ e; omega
    · rw [e] at h; omega
  · exact vr_mono r q
theorem vr_zero (r : Nat) : vr r = 0 ↔ r = 0 := by
  have h0 : vr 0 = 0 := by decide +kernel
  constructor
  · intro h
    apply Classical.byContradiction; intro hc
    have := vr_mono 0 r (by omega); omega
  · intro h; rw [h]; exact h0

def sval (b : Nat) : Int := if sB b then -(rung b : Int) else rung b

theorem order_all (a b : Nat) (ha : a < 18446744073709551616) (hb : b < 18446744073709551616) (na : fN a = false) (nb : fN b = false) :
    FloatKind.f64.format.order a b = some (compare (sval a) (sval b)) := by
  rw [fN_eq a ha] at na
  rw [fN_eq b hb] at nb
  have na := of_decide_eq_false na
  have nb := of_decide_eq_false nb
  unfold Ieee.Format.order sval
  by_cases ia : rung a = 9218868437227405312
  · rw [read_inf' a ha ia, ia]
    by_cases ib : rung b = 9218868437227405312
    · rw [read_inf' b hb ib, ib]
      cases sB a <;> cases sB b <;> rfl
    · obtain ⟨m, k, e, hm⟩ := read_vr b hb (by omega)
      rw [e]
      cases sB a
      · show some _ = _
        congr 1
        exact (Int.compare_eq_gt.2 (by cases sB b <;> simp <;> omega)).symm
      · show some _ = _
        congr 1
        exact (Int.compare_eq_lt.2 (by cases sB b <;> simp <;> omega)).symm
  · obtain ⟨m, k, e, hm⟩ := read_vr a ha (by omega)
    rw [e]
    by_cases ib : rung b = 9218868437227405312
    · rw [read_inf' b hb ib, ib]
      cases sB b
      · show some _ = _
        congr 1
        exact (Int.compare_eq_lt.2 (by cases sB a <;> simp <;> omega)).symm
      · show some _ = _
        congr 1
        exact (Int.compare_eq_gt.2 (by cases sB a <;> simp <;> omega)).symm
    · obtain ⟨n, j, e', hn⟩ := read_vr b hb (by omega)
      rw [e', order_num, hm, hn]
      congr 1
      have m1 := vr_lt (rung a) (rung b)
      have m2 := vr_lt (rung b) (rung a)
      have z1 := vr_zero (rung a)
      have z2 := vr_zero (rung b)
      generalize rung a = r at m1 m2 z1 z2
      generalize rung b = q at m1 m2 z1 z2
      generalize vr r = x at m1 m2 z1 z2
      generalize vr q = y at m1 m2 z1 z2
      unfold sg
      cases sB a <;> cases sB b <;> simp only [Bool.false_eq_true, if_false, if_true]
      · rcases Int.lt_trichotomy (r : Int) q with h | h | h
        · rw [Int.compare_eq_lt.2 h, Int.compare_eq_lt.2 (by omega)]
        · rw [Int.compare_eq_eq.2 h, Int.compare_eq_eq.2 (by omega)]
        · rw [Int.compare_eq_gt.2 h, Int.compare_eq_gt.2 (by omega)]
      · rcases Int.lt_trichotomy (r : Int) (-(q : Int)) with h | h | h
        · rw [Int.compare_eq_lt.2 h, Int.compare_eq_lt.2 (by omega)]
        · rw [Int.compare_eq_eq.2 h, Int.compare_eq_eq.2 (by omega)]
        · rw [Int.compare_eq_gt.2 h, Int.compare_eq_gt.2 (by omega)]
      · rcases Int.lt_trichotomy (-(r : Int)) q with h | h | h
        · rw [Int.compare_eq_lt.2 h, Int.compare_eq_lt.2 (by omega)]
        · rw [Int.compare_eq_eq.2 h, Int.compare_eq_eq.2 (by omega)]
        · rw [Int.compare_eq_gt.2 h, Int.compare_eq_gt.2 (by omega)]
      · rcases Int.lt_trichotomy (-(r : Int)) (-(q : Int)) with h | h | h
        · rw [Int.compare_eq_lt.2 h, Int.compare_eq_lt.2 (by omega)]
        · rw [Int.compare_eq_eq.2 h, Int.compare_eq_eq.2 (by omega)]
        · rw [Int.compare_eq_gt.2 h, Int.compare_eq_gt.2 (by omega)]

theorem nan_key (b : Nat) (h : fN b = true) : key b = 18446744073709551615 := by unfold key; rw [if_pos h]
theorem num_key (b : Nat) (hb : b < 18446744073709551616) (h : fN b = false) : rung b ≤ 9218868437227405312 ∧ key b = if sB b then 9223372036854775807 - (rung b : Int) else 9223372036854775808 + (rung b : Int) := by
  rw [fN_eq b hb] at h
  have h := of_decide_eq_false h
  exact ⟨by omega, key_num b hb (by omega)⟩

/-- Is it the nought with a minus? -/
def mns (b : Nat) : Bool := (FloatKind.f64.format.order b 0 == some .eq) && decide (b ≠ 0)
theorem mns_eq (b : Nat) (hb : b < 18446744073709551616) (h : fN b = false) : mns b = (decide (rung b = 0) && sB b) := by
  unfold mns
  rw [order_all b 0 hb (by omega) h (by decide +kernel)]
  have e0 : sval 0 = 0 := by decide +kernel
  rw [e0]
  unfold sval rung sB
  rw [Bool.eq_iff_iff]
  simp only [Bool.and_eq_true, beq_iff_eq, Option.some.injEq, Int.compare_eq_eq, decide_eq_true_eq]
  split <;> omega

theorem refNan_any (b : Nat) (w : World) : Calls Try.prog 29 #[.float .f64 b] w fun e w' => e = .returned (.bool (fN b)) ∧ w = w' := by
  unfold fN
  go_enter Try.func29, Try.ntmps29
  go_wp2
  go_ret
  exact ⟨rfl, rfl⟩

theorem minusB_any (b : Nat) (w : World) : Calls Try.prog 32 #[.float .f64 b] w fun e w' => e = .returned (.bool (mns b)) ∧ w = w' := by
  obtain ⟨q, hq⟩ : ∃ q, (FloatKind.f64.format.order b 0 == some .eq) = q := ⟨_, rfl⟩
  have hm : mns b = (q && decide (b ≠ 0)) := by unfold mns; rw [hq]
  rw [hm]
  clear hm
  cases q
  · go_enter Try.func32, Try.ntmps32
    go_wp2
    go_ret
    exact ⟨rfl, rfl⟩
  · by_cases h : b = 0
    · subst h
      go_enter Try.func32, Try.ntmps32
      go_wp2
      go_ret
      exact ⟨rfl, rfl⟩
    · have h' : ((b : Int) == 0) = false := by simpa using h
      rw [show decide (b ≠ 0) = true from by simpa using h]
      go_enter Try.func32, Try.ntmps32
      go_wp2
      go_ret
      exact ⟨by simp [h], rfl⟩

theorem refOrder_any (a b : Nat) (ha : a < 18446744073709551616) (hb : b < 18446744073709551616) (w : World) : Calls Try.prog 20 #[.float .f64 a, .float .f64 b] w fun e w' => e = .returned (.int .i64 (ord a b)) ∧ w = w' := by
  have Ha := fun w => refNan_any a w
  have Hb := fun w => refNan_any b w
  have Ma := fun w => minusB_any a w
  have Mb := fun w => minusB_any b w
  have A1 := nan_key a
  have B1 := nan_key b
  have A0 := num_key a ha
  have B0 := num_key b hb
  have A2 := mns_eq a ha
  have B2 := mns_eq b hb
  have O := order_all a b ha hb
  have hord := ord_cases a b
  obtain ⟨x, hx⟩ : ∃ x, ord a b = x := ⟨_, rfl⟩
  rw [hx] at hord ⊢
  clear hx
  generalize key a = ka at *
  generalize key b = kb at *
  generalize mns a = ma at *
  generalize mns b = mb at *
  generalize fN a = na at *
  generalize fN b = nb at *
  cases na <;> cases nb
  · obtain ⟨ra, ka'⟩ := A0 rfl
    obtain ⟨rb, kb'⟩ := B0 rfl
    replace A2 := A2 rfl
    replace B2 := B2 rfl
    replace O := O rfl rfl
    clear A0 B0 A1 B1
    unfold sval at O
    obtain ⟨o, ho⟩ : ∃ o, FloatKind.f64.format.order a b = some o := ⟨_, O⟩
    rw [ho] at O
    replace O := Option.some.inj O
    generalize sB a = sa at *
    generalize sB b = sb at *
    generalize rung a = r at *
    generalize rung b = q at *
    cases o
    · replace O := Int.compare_eq_lt.1 O.symm
      obtain rfl : x = -1 := by cases sa <;> cases sb <;> simp at O ka' kb' <;> omega
      clear O hord A2 B2 ka' kb' ra rb
      go_enter Try.func20, Try.ntmps20
      go_wp2_with fail
      refine (Ha _).mono ?_
      rintro e w1 ⟨rfl, rfl⟩
      go_wp2_with fail
      refine (Ha _).mono ?_
      rintro e w1 ⟨rfl, rfl⟩
      go_wp2_with fail
      refine (Hb _).mono ?_
      rintro e w1 ⟨rfl, rfl⟩
      go_wp2
      go_ret
      exact ⟨rfl, rfl⟩
    · replace O := Int.compare_eq_eq.1 O.symm
      cases ma <;> cases mb
      · obtain rfl : x = 0 := by cases sa <;> cases sb <;> simp at O ka' kb' A2 B2 <;> omega
        clear O hord A2 B2 ka' kb' ra rb
        go_enter Try.func20, Try.ntmps20
        go_wp2_with fail
        refine (Ha _).mono ?_
        rintro e w1 ⟨rfl, rfl⟩
        go_wp2_with fail
        refine (Ha _).mono ?_
        rintro e w1 ⟨rfl, rfl⟩
        go_wp2_with fail
        refine (Hb _).mono ?_
        rintro e w1 ⟨rfl, rfl⟩
        go_wp2_with fail
        refine (Ma _).mono ?_
        rintro e w1 ⟨rfl, rfl⟩
        go_wp2_with fail
        refine (Mb _).mono ?_
        rintro e w1 ⟨rfl, rfl⟩
        go_wp2
        go_ret
        exact ⟨rfl, rfl⟩
      · obtain rfl : x = 1 := by cases sa <;> cases sb <;> simp at O ka' kb' A2 B2 <;> omega
        clear O hord A2 B2 ka' kb' ra rb
        go_enter Try.func20, Try.ntmps20
        go_wp2_with fail
        refine (Ha _).mono ?_
        rintro e w1 ⟨rfl, rfl⟩
        go_wp2_with fail
        refine (Ha _).mono ?_
        rintro e w1 ⟨rfl, rfl⟩
        go_wp2_with fail
        refine (Hb _).mono ?_
        rintro e w1 ⟨rfl, rfl⟩
        go_wp2_with fail
        refine (Ma _).mono ?_
        rintro e w1 ⟨rfl, rfl⟩
        go_wp2_with fail
        refine (Mb _).mono ?_
        rintro e w1 ⟨rfl, rfl⟩
        go_wp2_with fail
        refine (Ma _).mono ?_
        rintro e w1 ⟨rfl, rfl⟩
        go_wp2
        go_ret
        exact ⟨rfl, rfl⟩
      · obtain rfl : x = -1 := by cases sa <;> cases sb <;> simp at O ka' kb' A2 B2 <;> omega
        clear O hord A2 B2 ka' kb' ra rb
        go_enter Try.func20, Try.ntmps20
        go_wp2_with fail
        refine (Ha _).mono ?_
        rintro e w1 ⟨rfl, rfl⟩
        go_wp2_with fail
        refine (Ha _).mono ?_
        rintro e w1 ⟨rfl, rfl⟩
        go_wp2_with fail
        refine (Hb _).mono ?_
        rintro e w1 ⟨rfl, rfl⟩
        go_wp2_with fail
        refine (Ma _).mono ?_
        rintro e w1 ⟨rfl, rfl⟩
        go_wp2_with fail
        refine (Mb _).mono ?_
        rintro e w1 ⟨rfl, rfl⟩
        go_wp2
        go_ret
        exact ⟨rfl, rfl⟩
      · obtain rfl : x = 0 := by cases sa <;> cases sb <;> simp at O ka' kb' A2 B2 <;> omega
        clear O hord A2 B2 ka' kb' ra rb
        go_enter Try.func20, Try.ntmps20
        go_wp2_with fail
        refine (Ha _).mono ?_
        rintro e w1 ⟨rfl, rfl⟩
        go_wp2_with fail
        refine (Ha _).mono ?_
        rintro e w1 ⟨rfl, rfl⟩
        go_wp2_with fail
        refine (Hb _).mono ?_
        rintro e w1 ⟨rfl, rfl⟩
        go_wp2_with fail
        refine (Ma _).mono ?_
        rintro e w1 ⟨rfl, rfl⟩
        go_wp2_with fail
        refine (Mb _).mono ?_
        rintro e w1 ⟨rfl, rfl⟩
        go_wp2_with fail
        refine (Mb _).mono ?_
        rintro e w1 ⟨rfl, rfl⟩
        go_wp2_with fail
        refine (Ma _).mono ?_
        rintro e w1 ⟨rfl, rfl⟩
        go_wp2
        go_ret
        exact ⟨rfl, rfl⟩
    · replace O := Int.compare_eq_gt.1 O.symm
      obtain rfl : x = 1 := by cases sa <;> cases sb <;> simp at O ka' kb' <;> omega
      clear O hord A2 B2 ka' kb' ra rb
      go_enter Try.func20, Try.ntmps20
      go_wp2_with fail
      refine (Ha _).mono ?_
      rintro e w1 ⟨rfl, rfl⟩
      go_wp2_with fail
      refine (Ha _).mono ?_
      rintro e w1 ⟨rfl, rfl⟩
      go_wp2_with fail
      refine (Hb _).mono ?_
      rintro e w1 ⟨rfl, rfl⟩
      go_wp2
      go_ret
      exact ⟨rfl, rfl⟩
  · have kb' := B1 rfl
    obtain ⟨ra, ka'⟩ := A0 rfl
    obtain rfl : x = -1 := by split at ka' <;> omega
    clear A0 B0 A1 B1 A2 B2 O hord ka' kb' ra
    go_enter Try.func20, Try.ntmps20
    go_wp2_with fail
    refine (Ha _).mono ?_
    rintro e w1 ⟨rfl, rfl⟩
    go_wp2_with fail
    refine (Ha _).mono ?_
    rintro e w1 ⟨rfl, rfl⟩
    go_wp2_with fail
    refine (Hb _).mono ?_
    rintro e w1 ⟨rfl, rfl⟩
    go_wp2
    go_ret
    exact ⟨rfl, rfl⟩
  · have ka' := A1 rfl
    obtain ⟨rb, kb'⟩ := B0 rfl
    obtain rfl : x = 1 := by split at kb' <;> omega
    clear A0 B0 A1 B1 A2 B2 O hord ka' kb' rb
    go_enter Try.func20, Try.ntmps20
    go_wp2_with fail
    refine (Ha _).mono ?_
    rintro e w1 ⟨rfl, rfl⟩
    go_wp2_with fail
    refine (Hb _).mono ?_
    rintro e w1 ⟨rfl, rfl⟩
    go_wp2_with fail
    refine (Ha _).mono ?_
    rintro e w1 ⟨rfl, rfl⟩
    go_wp2
    go_ret
    exact ⟨rfl, rfl⟩
  · have ka' := A1 rfl
    have kb' := B1 rfl
    obtain rfl : x = 0 := by omega
    clear A0 B0 A1 B1 A2 B2 O hord ka' kb'
    go_enter Try.func20, Try.ntmps20
    go_wp2_with fail
    refine (Ha _).mono ?_
    rintro e w1 ⟨rfl, rfl⟩
    go_wp2_with fail
    refine (Hb _).mono ?_
    rintro e w1 ⟨rfl, rfl⟩
    go_wp2
    go_ret
    exact ⟨rfl, rfl⟩

theorem same_any (a b : Nat) (ha : a < 18446744073709551616) (hb : b < 18446744073709551616) (w : World) : Calls Try.prog 12 #[.float .f64 a, .float .f64 b] w fun e w' => e = .returned (.bool (decide (ord a b = 0))) ∧ w = w' := by
  have H := fun w => refOrder_any a b ha hb w
  generalize ord a b = x at *
  by_cases h : x = 0
  · subst h
    go_enter Try.func12, Try.ntmps12
    go_wp2_with fail
    refine (H _).mono ?_
    rintro e w' ⟨rfl, rfl⟩
    go_wp2
    go_ret
    exact ⟨rfl, rfl⟩
  · have h' : (x == 0) = false := by simpa using h
    rw [decide_eq_false h]
    go_enter Try.func12, Try.ntmps12
    go_wp2_with fail
    refine (H _).mono ?_
    rintro e w' ⟨rfl, rfl⟩
    go_wp2
    go_ret
    exact ⟨rfl, rfl⟩
end Go.Proofs.Ytlahjieodcoecaa
