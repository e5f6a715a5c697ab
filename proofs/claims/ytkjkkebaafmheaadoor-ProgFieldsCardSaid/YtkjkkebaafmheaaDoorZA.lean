/- The law ProgFields, walked. -/
import Derived.Test.YtkjkkebaafmheaaDoorM4
namespace Go.Proofs.YtkjkkebaafmheaaDoor
open Go.RowKit PAll Go.Proofs.YtkjkkebaafmheaaDoorW.PrintWords Go.Proofs.YtkjkkebaafmheaaDoorW.PrintLast Go.Proofs.YtkjkkebaafmheaaDoorW.PrintMore
open Go.Shelf
set_option linter.unusedVariables false
set_option linter.unusedSimpArgs false
theorem newC1 (W : World) (x : S35) : Kd.C k35 (W.alloc (.cells #[.int .i64 x.f0, .int .i64 x.f1, .int .i64 x.f2, .int .i64 x.f3, .int .i64 x.f4] 35)) (some ⟨W.heap.size, 0, none⟩) 1 [x] := by
  refine ⟨rfl, by decide, fun _ => ⟨_, rfl, ?_⟩⟩
  intro j p hj
  obtain rfl : j = 0 := by
    have := (List.getElem?_eq_some_iff.1 hj).1
    simpa using this
  obtain rfl : x = p := by simpa using hj
  refine ⟨_, rfl, k35_mk _ x, ?_⟩
  intro i u hu
  rw [addNone, Nat.zero_add, cellB (heap_alloc_new W _)]
  have hi : i < 5 := (List.getElem?_eq_some_iff.1 hu).1
  obtain rfl | rfl | rfl | rfl | rfl : i = 0 ∨ i = 1 ∨ i = 2 ∨ i = 3 ∨ i = 4 := by omega
  all_goals exact hu
theorem newC2 (W : World) (x y : S35) : Kd.C k35 (W.alloc (.cells #[.int .i64 x.f0, .int .i64 x.f1, .int .i64 x.f2, .int .i64 x.f3, .int .i64 x.f4, .int .i64 y.f0, .int .i64 y.f1, .int .i64 y.f2, .int .i64 y.f3, .int .i64 y.f4] 35)) (some ⟨W.heap.size, 0, none⟩) 2 [x, y] := by
  refine ⟨rfl, by decide, fun _ => ⟨_, rfl, ?_⟩⟩
  intro j p hj
  have hj2 : j < 2 := (List.getElem?_eq_some_iff.1 hj).1
  obtain rfl | rfl : j = 0 ∨ j = 1 := by omega
  · obtain rfl : x = p := by simpa using hj
    refine ⟨_, rfl, k35_mk _ x, ?_⟩
    intro i u hu
    rw [addNone, Nat.zero_add, cellB (heap_alloc_new W _)]
    have hi : i < 5 := (List.getElem?_eq_some_iff.1 hu).1
    obtain rfl | rfl | rfl | rfl | rfl : i = 0 ∨ i = 1 ∨ i = 2 ∨ i = 3 ∨ i = 4 := by omega
    all_goals exact hu
  · obtain rfl : y = p := by simpa using hj
    refine ⟨_, rfl, k35_mk _ y, ?_⟩
    intro i u hu
    rw [addNone, Nat.zero_add, cellB (heap_alloc_new W _)]
    have hi : i < 5 := (List.getElem?_eq_some_iff.1 hu).1
    obtain rfl | rfl | rfl | rfl | rfl : i = 0 ∨ i = 1 ∨ i = 2 ∨ i = 3 ∨ i = 4 := by omega
    all_goals exact hu
/-- With a field that is not its own set. -/
def spoilF (x : S35) (n : Int) : S35 := if x.f0 = 5 ∨ x.f0 = 6 then { x with f3 := n } else if x.f0 = 2 then { x with f1 := n } else { x with f4 := n }
theorem fits_op {x : S35} (h : fitsB x = true) : 1 ≤ x.f0 ∧ x.f0 ≤ 6 := (fits_raw h).1
theorem fits_spoil {x : S35} (h : fitsB x = true) {n : Int} (hn : n ≠ 0) : fitsB (spoilF x n) = false := by
  have ho := fits_op h
  cases hb : fitsB (spoilF x n) with
  | false => rfl
  | true =>
    exfalso
    have hr := (fits_raw hb).2.2
    obtain ⟨op, lo, hi, X, Y⟩ := x
    dsimp only at ho
    obtain rfl | rfl | rfl | rfl | rfl | rfl : op = 1 ∨ op = 2 ∨ op = 3 ∨ op = 4 ∨ op = 5 ∨ op = 6 := by omega
    all_goals
      simp only [spoilF, fillL, ownNums] at hr
      simp (decide := true) only [if_true, if_false, Option.some.injEq, S35.mk.injEq] at hr
      omega
theorem fits_more {x : S35} (h : fitsB x = true) : fitsB { x with f0 := x.f0 + 6 } = false := by
  have ho := fits_op h
  cases hb : fitsB { x with f0 := x.f0 + 6 } with
  | false => rfl
  | true =>
    have := fits_op hb
    dsimp only at this
    omega
theorem check_one {x : S35} (h : fitsB x = true) : checkB [x] 0 0 = 0 := by
  simp [checkB, placeB, h]
theorem check_two {x y : S35} (h : fitsB y = false) : checkB [x, y] 0 0 = 130 := by
  simp [checkB, placeB, h]
set_option maxRecDepth 100000 in
set_option maxHeartbeats 8000000 in
theorem fields_walk (W : World) (x : S35) (n : Int) (m : Int) (hm : W.cell? ⟨0, 0, none⟩ = some (.int .i64 m)) :
    Calls Tryd.prog 4 #[.agg #[.int .i64 x.f0, .int .i64 x.f1, .int .i64 x.f2, .int .i64 x.f3, .int .i64 x.f4], .int .i64 n] W fun e w' => e = .returned (.bool true) ∧ Below W.heap.size W w' := by
  have k1 := (Kp.refl [] W).alloc (.cells #[.int .i64 x.f0, .int .i64 x.f1, .int .i64 x.f2, .int .i64 x.f3, .int .i64 x.f4] 35)
  have h3 := heap_alloc_new W (.cells #[.int .i64 x.f0, .int .i64 x.f1, .int .i64 x.f2, .int .i64 x.f3, .int .i64 x.f4] 35)
  have CW := Lib.hid (show ∀ W2, Kp [] W W2 → Calls Tryd.prog 7 #[] W2 fun e w' => e = .returned (.bool true) ∧ Kp [] W2 w' from fun W2 k => works_calls m W2 (kcell k hm))
  have F14 := Lib.hid (fits_calls x)
  clear hm
  by_cases hf : fitsB x = true
  rotate_left
  · have hf' : fitsB x = false := by simpa using hf
    rw [hf'] at F14
    replace hf := Lib.hid hf
    replace hf' := Lib.hid hf'
    go_enter Tryd.func4, Tryd.ntmps4
    go_wp2_with fail
    refine (CW.out _ k1).mono ?_
    rintro e w1 ⟨rfl, k2⟩
    replace h3 := kblk k2 h3
    have z0 := cellB h3 0; have z1 := cellB h3 1; have z2 := cellB h3 2; have z3 := cellB h3 3; have z4 := cellB h3 4
    simp at z0 z1 z2 z3 z4
    go_wp2_with fail
    refine (F14.out _).mono ?_
    rintro e w2 ⟨rfl, k3⟩
    go_wp2_with fail
    go_ret
    exact ⟨rfl, fin_kp ((k1.trans k2).trans k3)⟩
  have ho := fits_op hf
  have P1 := Lib.hid (fits_calls (spoilF x n))
  have P2 := Lib.hid (fits_calls { x with f0 := x.f0 + 6 })
  have P3 := Lib.hid (fun W => check_calls (some ⟨W.heap.size, 0, none⟩) 1 [x] 0 0 _ (newC1 W x))
  have P4 := Lib.hid (fun W => check_calls (some ⟨W.heap.size, 0, none⟩) 2 [x, spoilF x n] 0 0 _ (newC2 W x (spoilF x n)))
  rw [check_one hf] at P3
  by_cases hn : n = 0
  · subst hn
    rw [hf] at F14
    replace hf := Lib.hid hf
    clear P1 P2 P3 P4 ho
    go_enter Tryd.func4, Tryd.ntmps4
    go_wp2_with fail
    refine (CW.out _ k1).mono ?_
    rintro e w1 ⟨rfl, k2⟩
    replace h3 := kblk k2 h3
    have z0 := cellB h3 0; have z1 := cellB h3 1; have z2 := cellB h3 2; have z3 := cellB h3 3; have z4 := cellB h3 4
    simp at z0 z1 z2 z3 z4
    go_wp2_with fail
    refine (F14.out _).mono ?_
    rintro e w2 ⟨rfl, k3⟩
    go_wp2_with fail
    go_ret
    exact ⟨rfl, fin_kp ((k1.trans k2).trans k3)⟩
  rw [fits_spoil hf hn] at P1
  rw [fits_more hf] at P2
  rw [check_two (x := x) (fits_spoil hf hn)] at P4
  rw [hf] at F14
  have dn : (n == 0) = false := by simpa using hn
  replace hn := Lib.hid hn
  replace hf := Lib.hid hf
  obtain ⟨op, lo, hi, X, Y⟩ := x
  dsimp only at ho
  obtain rfl | rfl | rfl | rfl | rfl | rfl : op = 1 ∨ op = 2 ∨ op = 3 ∨ op = 4 ∨ op = 5 ∨ op = 6 := by omega
  · have Q1 : Hid (∀ w, Calls Tryd.prog 14 #[.agg #[.int .i64 1, .int .i64 lo, .int .i64 hi, .int .i64 X, .int .i64 n]] w fun e w' => e = .returned (.bool false) ∧ Kp [] w w') := P1
    have Q2 : Hid (∀ w, Calls Tryd.prog 14 #[.agg #[.int .i64 7, .int .i64 lo, .int .i64 hi, .int .i64 X, .int .i64 Y]] w fun e w' => e = .returned (.bool false) ∧ Kp [] w w') := P2
    have Q3 : Hid (∀ W : World, Calls Tryd.prog 15 #[.agg #[.slice (some ⟨W.heap.size, 0, none⟩) 1 1, .int .i64 0, .int .i64 0]] (W.alloc (.cells #[.int .i64 1, .int .i64 lo, .int .i64 hi, .int .i64 X, .int .i64 Y] 35)) fun e w' => e = .returned (.int .i64 0) ∧ Kp [] (W.alloc (.cells #[.int .i64 1, .int .i64 lo, .int .i64 hi, .int .i64 X, .int .i64 Y] 35)) w') := P3
    have Q4 : Hid (∀ W : World, Calls Tryd.prog 15 #[.agg #[.slice (some ⟨W.heap.size, 0, none⟩) 2 2, .int .i64 0, .int .i64 0]] (W.alloc (.cells #[.int .i64 1, .int .i64 lo, .int .i64 hi, .int .i64 X, .int .i64 Y, .int .i64 1, .int .i64 lo, .int .i64 hi, .int .i64 X, .int .i64 n] 35)) fun e w' => e = .returned (.int .i64 130) ∧ Kp [] (W.alloc (.cells #[.int .i64 1, .int .i64 lo, .int .i64 hi, .int .i64 X, .int .i64 Y, .int .i64 1, .int .i64 lo, .int .i64 hi, .int .i64 X, .int .i64 n] 35)) w') := P4
    clear P1 P2 P3 P4 ho
    go_enter Tryd.func4, Tryd.ntmps4
    go_wp2_with fail
    refine (CW.out _ k1).mono ?_
    rintro e w1 ⟨rfl, k2⟩
    replace h3 := kblk k2 h3
    have z0 := cellB h3 0; have z1 := cellB h3 1; have z2 := cellB h3 2; have z3 := cellB h3 3; have z4 := cellB h3 4
    simp at z0 z1 z2 z3 z4
    go_wp2_with fail
    refine (F14.out _).mono ?_
    rintro e w2 ⟨rfl, k3⟩
    have kA := (k1.trans k2).trans k3
    replace h3 := kblk k3 h3
    clear z0 z1 z2 z3 z4 k1 k2 k3 CW F14
    obtain ⟨b2, hb2⟩ : ∃ b, b = W.heap.size := ⟨_, rfl⟩
    rw [← hb2] at h3 ⊢
    replace hb2 := Lib.hid hb2
    have z0 := cellB h3 0; have z1 := cellB h3 1; have z2 := cellB h3 2; have z3 := cellB h3 3; have z4 := cellB h3 4
    have lt2 := ltB h3
    simp at z0 z1 z2 z3 z4
    go_upto_region 15 with fail
    have hy := kblk ((Kp.refl [] _).alloc (.cells #[.int .i64 7, .int .i64 lo, .int .i64 hi, .int .i64 X, .int .i64 Y] 35)) (heap_alloc_new w2 (.cells #[.int .i64 1, .int .i64 lo, .int .i64 hi, .int .i64 X, .int .i64 n] 35))
    have hz := heap_alloc_new (w2.alloc (.cells #[.int .i64 1, .int .i64 lo, .int .i64 hi, .int .i64 X, .int .i64 n] 35)) (.cells #[.int .i64 7, .int .i64 lo, .int .i64 hi, .int .i64 X, .int .i64 Y] 35)
    have k4 := ((Kp.refl [] w2).alloc (.cells #[.int .i64 1, .int .i64 lo, .int .i64 hi, .int .i64 X, .int .i64 n] 35)).alloc (.cells #[.int .i64 7, .int .i64 lo, .int .i64 hi, .int .i64 X, .int .i64 Y] 35)
    obtain ⟨W4, hW4⟩ : ∃ W4, W4 = (w2.alloc (.cells #[.int .i64 1, .int .i64 lo, .int .i64 hi, .int .i64 X, .int .i64 n] 35)).alloc (.cells #[.int .i64 7, .int .i64 lo, .int .i64 hi, .int .i64 X, .int .i64 Y] 35) := ⟨_, rfl⟩
    have hs2 : (w2.alloc (.cells #[.int .i64 1, .int .i64 lo, .int .i64 hi, .int .i64 X, .int .i64 n] 35)).heap.size = w2.heap.size + 1 := by simp
    rw [hs2] at hz
    rw [← hW4] at hy hz k4 ⊢
    clear hW4 hs2
    obtain ⟨b5, hb5⟩ : ∃ b, b = w2.heap.size := ⟨_, rfl⟩
    rw [← hb5] at hy hz ⊢
    clear hb5
    replace h3 := kblk k4 h3
    clear z0 z1 z2 z3 z4 lt2
    have z0 := cellB h3 0; have z1 := cellB h3 1; have z2 := cellB h3 2; have z3 := cellB h3 3; have z4 := cellB h3 4
    have y0 := cellB hy 0; have y1 := cellB hy 1; have y2 := cellB hy 2; have y3 := cellB hy 3; have y4 := cellB hy 4
    simp at z0 z1 z2 z3 z4 y0 y1 y2 y3 y4
    have lt2 := ltB h3
    have lty := ltB hy
    have ltz := ltB hz
    go_wp2_with fail
    refine (Q1.out _).mono ?_
    rintro e w5 ⟨rfl, k5⟩
    clear y0 y1 y2 y3 y4 z0 z1 z2 z3 z4
    replace hz := kblk k5 hz
    have y0 := cellB hz 0; have y1 := cellB hz 1; have y2 := cellB hz 2; have y3 := cellB hz 3; have y4 := cellB hz 4
    simp at y0 y1 y2 y3 y4
    go_wp2_with fail
    refine (Q2.out _).mono ?_
    rintro e w6 ⟨rfl, k6⟩
    clear y0 y1 y2 y3 y4
    have k46 := k5.trans k6
    replace h3 := kblk k46 h3
    replace hy := kblk k46 hy
    have z0 := cellB h3 0; have z1 := cellB h3 1; have z2 := cellB h3 2; have z3 := cellB h3 3; have z4 := cellB h3 4
    simp at z0 z1 z2 z3 z4
    go_wp2_with fail
    refine (Q3.out w6).mono ?_
    rintro e w7 ⟨rfl, k7⟩
    have k67 := ((Kp.refl [] w6).alloc _).trans k7
    replace h3 := kblk k67 h3
    replace hy := kblk k67 hy
    clear z0 z1 z2 z3 z4 lt2 lty
    have z0 := cellB h3 0; have z1 := cellB h3 1; have z2 := cellB h3 2; have z3 := cellB h3 3; have z4 := cellB h3 4
    have y0 := cellB hy 0; have y1 := cellB hy 1; have y2 := cellB hy 2; have y3 := cellB hy 3; have y4 := cellB hy 4
    simp at z0 z1 z2 z3 z4 y0 y1 y2 y3 y4
    have lt2 := ltB h3
    have lty := ltB hy
    go_wp2_with fail
    refine (Q4.out w7).mono ?_
    rintro e w8 ⟨rfl, k8⟩
    have k78 := ((Kp.refl [] w7).alloc _).trans k8
    go_wp2_with fail
    go_ret
    exact ⟨rfl, fin_kp ((((kA.trans k4).trans k46).trans k67).trans k78)⟩
  · have Q1 : Hid (∀ w, Calls Tryd.prog 14 #[.agg #[.int .i64 2, .int .i64 n, .int .i64 hi, .int .i64 X, .int .i64 Y]] w fun e w' => e = .returned (.bool false) ∧ Kp [] w w') := P1
    have Q2 : Hid (∀ w, Calls Tryd.prog 14 #[.agg #[.int .i64 8, .int .i64 lo, .int .i64 hi, .int .i64 X, .int .i64 Y]] w fun e w' => e = .returned (.bool false) ∧ Kp [] w w') := P2
    have Q3 : Hid (∀ W : World, Calls Tryd.prog 15 #[.agg #[.slice (some ⟨W.heap.size, 0, none⟩) 1 1, .int .i64 0, .int .i64 0]] (W.alloc (.cells #[.int .i64 2, .int .i64 lo, .int .i64 hi, .int .i64 X, .int .i64 Y] 35)) fun e w' => e = .returned (.int .i64 0) ∧ Kp [] (W.alloc (.cells #[.int .i64 2, .int .i64 lo, .int .i64 hi, .int .i64 X, .int .i64 Y] 35)) w') := P3
    have Q4 : Hid (∀ W : World, Calls Tryd.prog 15 #[.agg #[.slice (some ⟨W.heap.size, 0, none⟩) 2 2, .int .i64 0, .int .i64 0]] (W.alloc (.cells #[.int .i64 2, .int .i64 lo, .int .i64 hi, .int .i64 X, .int .i64 Y, .int .i64 2, .int .i64 n, .int .i64 hi, .int .i64 X, .int .i64 Y] 35)) fun e w' => e = .returned (.int .i64 130) ∧ Kp [] (W.alloc (.cells #[.int .i64 2, .int .i64 lo, .int .i64 hi, .int .i64 X, .int .i64 Y, .int .i64 2, .int .i64 n, .int .i64 hi, .int .i64 X, .int .i64 Y] 35)) w') := P4
    clear P1 P2 P3 P4 ho
    go_enter Tryd.func4, Tryd.ntmps4
    go_wp2_with fail
    refine (CW.out _ k1).mono ?_
    rintro e w1 ⟨rfl, k2⟩
    replace h3 := kblk k2 h3
    have z0 := cellB h3 0; have z1 := cellB h3 1; have z2 := cellB h3 2; have z3 := cellB h3 3; have z4 := cellB h3 4
    simp at z0 z1 z2 z3 z4
    go_wp2_with fail
    refine (F14.out _).mono ?_
    rintro e w2 ⟨rfl, k3⟩
    have kA := (k1.trans k2).trans k3
    replace h3 := kblk k3 h3
    clear z0 z1 z2 z3 z4 k1 k2 k3 CW F14
    obtain ⟨b2, hb2⟩ : ∃ b, b = W.heap.size := ⟨_, rfl⟩
    rw [← hb2] at h3 ⊢
    replace hb2 := Lib.hid hb2
    have z0 := cellB h3 0; have z1 := cellB h3 1; have z2 := cellB h3 2; have z3 := cellB h3 3; have z4 := cellB h3 4
    have lt2 := ltB h3
    simp at z0 z1 z2 z3 z4
    go_upto_region 15 with fail
    have hy := kblk ((Kp.refl [] _).alloc (.cells #[.int .i64 8, .int .i64 lo, .int .i64 hi, .int .i64 X, .int .i64 Y] 35)) (heap_alloc_new w2 (.cells #[.int .i64 2, .int .i64 n, .int .i64 hi, .int .i64 X, .int .i64 Y] 35))
    have hz := heap_alloc_new (w2.alloc (.cells #[.int .i64 2, .int .i64 n, .int .i64 hi, .int .i64 X, .int .i64 Y] 35)) (.cells #[.int .i64 8, .int .i64 lo, .int .i64 hi, .int .i64 X, .int .i64 Y] 35)
    have k4 := ((Kp.refl [] w2).alloc (.cells #[.int .i64 2, .int .i64 n, .int .i64 hi, .int .i64 X, .int .i64 Y] 35)).alloc (.cells #[.int .i64 8, .int .i64 lo, .int .i64 hi, .int .i64 X, .int .i64 Y] 35)
    obtain ⟨W4, hW4⟩ : ∃ W4, W4 = (w2.alloc (.cells #[.int .i64 2, .int .i64 n, .int .i64 hi, .int .i64 X, .int .i64 Y] 35)).alloc (.cells #[.int .i64 8, .int .i64 lo, .int .i64 hi, .int .i64 X, .int .i64 Y] 35) := ⟨_, rfl⟩
    have hs2 : (w2.alloc (.cells #[.int .i64 2, .int .i64 n, .int .i64 hi, .int .i64 X, .int .i64 Y] 35)).heap.size = w2.heap.size + 1 := by simp
    rw [hs2] at hz
    rw [← hW4] at hy hz k4 ⊢
    clear hW4 hs2
    obtain ⟨b5, hb5⟩ : ∃ b, b = w2.heap.size := ⟨_, rfl⟩
    rw [← hb5] at hy hz ⊢
    clear hb5
    replace h3 := kblk k4 h3
    clear z0 z1 z2 z3 z4 lt2
    have z0 := cellB h3 0; have z1 := cellB h3 1; have z2 := cellB h3 2; have z3 := cellB h3 3; have z4 := cellB h3 4
    have y0 := cellB hy 0; have y1 := cellB hy 1; have y2 := cellB hy 2; have y3 := cellB hy 3; have y4 := cellB hy 4
    simp at z0 z1 z2 z3 z4 y0 y1 y2 y3 y4
    have lt2 := ltB h3
    have lty := ltB hy
    have ltz := ltB hz
    go_wp2_with fail
    refine (Q1.out _).mono ?_
    rintro e w5 ⟨rfl, k5⟩
    clear y0 y1 y2 y3 y4 z0 z1 z2 z3 z4
    replace hz := kblk k5 hz
    have y0 := cellB hz 0; have y1 := cellB hz 1; have y2 := cellB hz 2; have y3 := cellB hz 3; have y4 := cellB hz 4
    simp at y0 y1 y2 y3 y4
    go_wp2_with fail
    refine (Q2.out _).mono ?_
    rintro e w6 ⟨rfl, k6⟩
    clear y0 y1 y2 y3 y4
    have k46 := k5.trans k6
    replace h3 := kblk k46 h3
    replace hy := kblk k46 hy
    have z0 := cellB h3 0; have z1 := cellB h3 1; have z2 := cellB h3 2; have z3 := cellB h3 3; have z4 := cellB h3 4
    simp at z0 z1 z2 z3 z4
    go_wp2_with fail
    refine (Q3.out w6).mono ?_
    rintro e w7 ⟨rfl, k7⟩
    have k67 := ((Kp.refl [] w6).alloc _).trans k7
    replace h3 := kblk k67 h3
    replace hy := kblk k67 hy
    clear z0 z1 z2 z3 z4 lt2 lty
    have z0 := cellB h3 0; have z1 := cellB h3 1; have z2 := cellB h3 2; have z3 := cellB h3 3; have z4 := cellB h3 4
    have y0 := cellB hy 0; have y1 := cellB hy 1; have y2 := cellB hy 2; have y3 := cellB hy 3; have y4 := cellB hy 4
    simp at z0 z1 z2 z3 z4 y0 y1 y2 y3 y4
    have lt2 := ltB h3
    have lty := ltB hy
    go_wp2_with fail
    refine (Q4.out w7).mono ?_
    rintro e w8 ⟨rfl, k8⟩
    have k78 := ((Kp.refl [] w7).alloc _).trans k8
    go_wp2_with fail
    go_ret
    exact ⟨rfl, fin_kp ((((kA.trans k4).trans k46).trans k67).trans k78)⟩
  · have Q1 : Hid (∀ w, Calls Tryd.prog 14 #[.agg #[.int .i64 3, .int .i64 lo, .int .i64 hi, .int .i64 X, .int .i64 n]] w fun e w' => e = .returned (.bool false) ∧ Kp [] w w') := P1
    have Q2 : Hid (∀ w, Calls Tryd.prog 14 #[.agg #[.int .i64 9, .int .i64 lo, .int .i64 hi, .int .i64 X, .int .i64 Y]] w fun e w' => e = .returned (.bool false) ∧ Kp [] w w') := P2
    have Q3 : Hid (∀ W : World, Calls Tryd.prog 15 #[.agg #[.slice (some ⟨W.heap.size, 0, none⟩) 1 1, .int .i64 0, .int .i64 0]] (W.alloc (.cells #[.int .i64 3, .int .i64 lo, .int .i64 hi, .int .i64 X, .int .i64 Y] 35)) fun e w' => e = .returned (.int .i64 0) ∧ Kp [] (W.alloc (.cells #[.int .i64 3, .int .i64 lo, .int .i64 hi, .int .i64 X, .int .i64 Y] 35)) w') := P3
    have Q4 : Hid (∀ W : World, Calls Tryd.prog 15 #[.agg #[.slice (some ⟨W.heap.size, 0, none⟩) 2 2, .int .i64 0, .int .i64 0]] (W.alloc (.cells #[.int .i64 3, .int .i64 lo, .int .i64 hi, .int .i64 X, .int .i64 Y, .int .i64 3, .int .i64 lo, .int .i64 hi, .int .i64 X, .int .i64 n] 35)) fun e w' => e = .returned (.int .i64 130) ∧ Kp [] (W.alloc (.cells #[.int .i64 3, .int .i64 lo, .int .i64 hi, .int .i64 X, .int .i64 Y, .int .i64 3, .int .i64 lo, .int .i64 hi, .int .i64 X, .int .i64 n] 35)) w') := P4
    clear P1 P2 P3 P4 ho
    go_enter Tryd.func4, Tryd.ntmps4
    go_wp2_with fail
    refine (CW.out _ k1).mono ?_
    rintro e w1 ⟨rfl, k2⟩
    replace h3 := kblk k2 h3
    have z0 := cellB h3 0; have z1 := cellB h3 1; have z2 := cellB h3 2; have z3 := cellB h3 3; have z4 := cellB h3 4
    simp at z0 z1 z2 z3 z4
    go_wp2_with fail
    refine (F14.out _).mono ?_
    rintro e w2 ⟨rfl, k3⟩
    have kA := (k1.trans k2).trans k3
    replace h3 := kblk k3 h3
    clear z0 z1 z2 z3 z4 k1 k2 k3 CW F14
    obtain ⟨b2, hb2⟩ : ∃ b, b = W.heap.size := ⟨_, rfl⟩
    rw [← hb2] at h3 ⊢
    replace hb2 := Lib.hid hb2
    have z0 := cellB h3 0; have z1 := cellB h3 1; have z2 := cellB h3 2; have z3 := cellB h3 3; have z4 := cellB h3 4
    have lt2 := ltB h3
    simp at z0 z1 z2 z3 z4
    go_upto_region 15 with fail
    have hy := kblk ((Kp.refl [] _).alloc (.cells #[.int .i64 9, .int .i64 lo, .int .i64 hi, .int .i64 X, .int .i64 Y] 35)) (heap_alloc_new w2 (.cells #[.int .i64 3, .int .i64 lo, .int .i64 hi, .int .i64 X, .int .i64 n] 35))
    have hz := heap_alloc_new (w2.alloc (.cells #[.int .i64 3, .int .i64 lo, .int .i64 hi, .int .i64 X, .int .i64 n] 35)) (.cells #[.int .i64 9, .int .i64 lo, .int .i64 hi, .int .i64 X, .int .i64 Y] 35)
    have k4 := ((Kp.refl [] w2).alloc (.cells #[.int .i64 3, .int .i64 lo, .int .i64 hi, .int .i64 X, .int .i64 n] 35)).alloc (.cells #[.int .i64 9, .int .i64 lo, .int .i64 hi, .int .i64 X, .int .i64 Y] 35)
    obtain ⟨W4, hW4⟩ : ∃ W4, W4 = (w2.alloc (.cells #[.int .i64 3, .int .i64 lo, .int .i64 hi, .int .i64 X, .int .i64 n] 35)).alloc (.cells #[.int .i64 9, .int .i64 lo, .int .i64 hi, .int .i64 X, .int .i64 Y] 35) := ⟨_, rfl⟩
    have hs2 : (w2.alloc (.cells #[.int .i64 3, .int .i64 lo, .int .i64 hi, .int .i64 X, .int .i64 n] 35)).heap.size = w2.heap.size + 1 := by simp
    rw [hs2] at hz
    rw [← hW4] at hy hz k4 ⊢
    clear hW4 hs2
    obtain ⟨b5, hb5⟩ : ∃ b, b = w2.heap.size := ⟨_, rfl⟩
    rw [← hb5] at hy hz ⊢
    clear hb5
    replace h3 := kblk k4 h3
    clear z0 z1 z2 z3 z4 lt2
    have z0 := cellB h3 0; have z1 := cellB h3 1; have z2 := cellB h3 2; have z3 := cellB h3 3; have z4 := cellB h3 4
    have y0 := cellB hy 0; have y1 := cellB hy 1; have y2 := cellB hy 2; have y3 := cellB hy 3; have y4 := cellB hy 4
    simp at z0 z1 z2 z3 z4 y0 y1 y2 y3 y4
    have lt2 := ltB h3
    have lty := ltB hy
    have ltz := ltB hz
    go_wp2_with fail
    refine (Q1.out _).mono ?_
    rintro e w5 ⟨rfl, k5⟩
    clear y0 y1 y2 y3 y4 z0 z1 z2 z3 z4
    replace hz := kblk k5 hz
    have y0 := cellB hz 0; have y1 := cellB hz 1; have y2 := cellB hz 2; have y3 := cellB hz 3; have y4 := cellB hz 4
    simp at y0 y1 y2 y3 y4
    go_wp2_with fail
    refine (Q2.out _).mono ?_
    rintro e w6 ⟨rfl, k6⟩
    clear y0 y1 y2 y3 y4
    have k46 := k5.trans k6
    replace h3 := kblk k46 h3
    replace hy := kblk k46 hy
    have z0 := cellB h3 0; have z1 := cellB h3 1; have z2 := cellB h3 2; have z3 := cellB h3 3; have z4 := cellB h3 4
    simp at z0 z1 z2 z3 z4
    go_wp2_with fail
    refine (Q3.out w6).mono ?_
    rintro e w7 ⟨rfl, k7⟩
    have k67 := ((Kp.refl [] w6).alloc _).trans k7
    replace h3 := kblk k67 h3
    replace hy := kblk k67 hy
    clear z0 z1 z2 z3 z4 lt2 lty
    have z0 := cellB h3 0; have z1 := cellB h3 1; have z2 := cellB h3 2; have z3 := cellB h3 3; have z4 := cellB h3 4
    have y0 := cellB hy 0; have y1 := cellB hy 1; have y2 := cellB hy 2; have y3 := cellB hy 3; have y4 := cellB hy 4
    simp at z0 z1 z2 z3 z4 y0 y1 y2 y3 y4
    have lt2 := ltB h3
    have lty := ltB hy
    go_wp2_with fail
    refine (Q4.out w7).mono ?_
    rintro e w8 ⟨rfl, k8⟩
    have k78 := ((Kp.refl [] w7).alloc _).trans k8
    go_wp2_with fail
    go_ret
    exact ⟨rfl, fin_kp ((((kA.trans k4).trans k46).trans k67).trans k78)⟩
  · have Q1 : Hid (∀ w, Calls Tryd.prog 14 #[.agg #[.int .i64 4, .int .i64 lo, .int .i64 hi, .int .i64 X, .int .i64 n]] w fun e w' => e = .returned (.bool false) ∧ Kp [] w w') := P1
    have Q2 : Hid (∀ w, Calls Tryd.prog 14 #[.agg #[.int .i64 10, .int .i64 lo, .int .i64 hi, .int .i64 X, .int .i64 Y]] w fun e w' => e = .returned (.bool false) ∧ Kp [] w w') := P2
    have Q3 : Hid (∀ W : World, Calls Tryd.prog 15 #[.agg #[.slice (some ⟨W.heap.size, 0, none⟩) 1 1, .int .i64 0, .int .i64 0]] (W.alloc (.cells #[.int .i64 4, .int .i64 lo, .int .i64 hi, .int .i64 X, .int .i64 Y] 35)) fun e w' => e = .returned (.int .i64 0) ∧ Kp [] (W.alloc (.cells #[.int .i64 4, .int .i64 lo, .int .i64 hi, .int .i64 X, .int .i64 Y] 35)) w') := P3
    have Q4 : Hid (∀ W : World, Calls Tryd.prog 15 #[.agg #[.slice (some ⟨W.heap.size, 0, none⟩) 2 2, .int .i64 0, .int .i64 0]] (W.alloc (.cells #[.int .i64 4, .int .i64 lo, .int .i64 hi, .int .i64 X, .int .i64 Y, .int .i64 4, .int .i64 lo, .int .i64 hi, .int .i64 X, .int .i64 n] 35)) fun e w' => e = .returned (.int .i64 130) ∧ Kp [] (W.alloc (.cells #[.int .i64 4, .int .i64 lo, .int .i64 hi, .int .i64 X, .int .i64 Y, .int .i64 4, .int .i64 lo, .int .i64 hi, .int .i64 X, .int .i64 n] 35)) w') := P4
    clear P1 P2 P3 P4 ho
    go_enter Tryd.func4, Tryd.ntmps4
    go_wp2_with fail
    refine (CW.out _ k1).mono ?_
    rintro e w1 ⟨rfl, k2⟩
    replace h3 := kblk k2 h3
    have z0 := cellB h3 0; have z1 := cellB h3 1; have z2 := cellB h3 2; have z3 := cellB h3 3; have z4 := cellB h3 4
    simp at z0 z1 z2 z3 z4
    go_wp2_with fail
    refine (F14.out _).mono ?_
    rintro e w2 ⟨rfl, k3⟩
    have kA := (k1.trans k2).trans k3
    replace h3 := kblk k3 h3
    clear z0 z1 z2 z3 z4 k1 k2 k3 CW F14
    obtain ⟨b2, hb2⟩ : ∃ b, b = W.heap.size := ⟨_, rfl⟩
    rw [← hb2] at h3 ⊢
    replace hb2 := Lib.hid hb2
    have z0 := cellB h3 0; have z1 := cellB h3 1; have z2 := cellB h3 2; have z3 := cellB h3 3; have z4 := cellB h3 4
    have lt2 := ltB h3
    simp at z0 z1 z2 z3 z4
    go_upto_region 15 with fail
    have hy := kblk ((Kp.refl [] _).alloc (.cells #[.int .i64 10, .int .i64 lo, .int .i64 hi, .int .i64 X, .int .i64 Y] 35)) (heap_alloc_new w2 (.cells #[.int .i64 4, .int .i64 lo, .int .i64 hi, .int .i64 X, .int .i64 n] 35))
    have hz := heap_alloc_new (w2.alloc (.cells #[.int .i64 4, .int .i64 lo, .int .i64 hi, .int .i64 X, .int .i64 n] 35)) (.cells #[.int .i64 10, .int .i64 lo, .int .i64 hi, .int .i64 X, .int .i64 Y] 35)
    have k4 := ((Kp.refl [] w2).alloc (.cells #[.int .i64 4, .int .i64 lo, .int .i64 hi, .int .i64 X, .int .i64 n] 35)).alloc (.cells #[.int .i64 10, .int .i64 lo, .int .i64 hi, .int .i64 X, .int .i64 Y] 35)
    obtain ⟨W4, hW4⟩ : ∃ W4, W4 = (w2.alloc (.cells #[.int .i64 4, .int .i64 lo, .int .i64 hi, .int .i64 X, .int .i64 n] 35)).alloc (.cells #[.int .i64 10, .int .i64 lo, .int .i64 hi, .int .i64 X, .int .i64 Y] 35) := ⟨_, rfl⟩
    have hs2 : (w2.alloc (.cells #[.int .i64 4, .int .i64 lo, .int .i64 hi, .int .i64 X, .int .i64 n] 35)).heap.size = w2.heap.size + 1 := by simp
    rw [hs2] at hz
    rw [← hW4] at hy hz k4 ⊢
    clear hW4 hs2
    obtain ⟨b5, hb5⟩ : ∃ b, b = w2.heap.size := ⟨_, rfl⟩
    rw [← hb5] at hy hz ⊢
    clear hb5
    replace h3 := kblk k4 h3
    clear z0 z1 z2 z3 z4 lt2
    have z0 := cellB h3 0; have z1 := cellB h3 1; have z2 := cellB h3 2; have z3 := cellB h3 3; have z4 := cellB h3 4
    have y0 := cellB hy 0; have y1 := cellB hy 1; have y2 := cellB hy 2; have y3 := cellB hy 3; have y4 := cellB hy 4
    simp at z0 z1 z2 z3 z4 y0 y1 y2 y3 y4
    have lt2 := ltB h3
    have lty := ltB hy
    have ltz := ltB hz
    go_wp2_with fail
    refine (Q1.out _).mono ?_
    rintro e w5 ⟨rfl, k5⟩
    clear y0 y1 y2 y3 y4 z0 z1 z2 z3 z4
    replace hz := kblk k5 hz
    have y0 := cellB hz 0; have y1 := cellB hz 1; have y2 := cellB hz 2; have y3 := cellB hz 3; have y4 := cellB hz 4
    simp at y0 y1 y2 y3 y4
    go_wp2_with fail
    refine (Q2.out _).mono ?_
    rintro e w6 ⟨rfl, k6⟩
    clear y0 y1 y2 y3 y4
    have k46 := k5.trans k6
    replace h3 := kblk k46 h3
    replace hy := kblk k46 hy
    have z0 := cellB h3 0; have z1 := cellB h3 1; have z2 := cellB h3 2; have z3 := cellB h3 3; have z4 := cellB h3 4
    simp at z0 z1 z2 z3 z4
    go_wp2_with fail
    refine (Q3.out w6).mono ?_
    rintro e w7 ⟨rfl, k7⟩
    have k67 := ((Kp.refl [] w6).alloc _).trans k7
    replace h3 := kblk k67 h3
    replace hy := kblk k67 hy
    clear z0 z1 z2 z3 z4 lt2 lty
    have z0 := cellB h3 0; have z1 := cellB h3 1; have z2 := cellB h3 2; have z3 := cellB h3 3; have z4 := cellB h3 4
    have y0 := cellB hy 0; have y1 := cellB hy 1; have y2 := cellB hy 2; have y3 := cellB hy 3; have y4 := cellB hy 4
    simp at z0 z1 z2 z3 z4 y0 y1 y2 y3 y4
    have lt2 := ltB h3
    have lty := ltB hy
    go_wp2_with fail
    refine (Q4.out w7).mono ?_
    rintro e w8 ⟨rfl, k8⟩
    have k78 := ((Kp.refl [] w7).alloc _).trans k8
    go_wp2_with fail
    go_ret
    exact ⟨rfl, fin_kp ((((kA.trans k4).trans k46).trans k67).trans k78)⟩
  · have Q1 : Hid (∀ w, Calls Tryd.prog 14 #[.agg #[.int .i64 5, .int .i64 lo, .int .i64 hi, .int .i64 n, .int .i64 Y]] w fun e w' => e = .returned (.bool false) ∧ Kp [] w w') := P1
    have Q2 : Hid (∀ w, Calls Tryd.prog 14 #[.agg #[.int .i64 11, .int .i64 lo, .int .i64 hi, .int .i64 X, .int .i64 Y]] w fun e w' => e = .returned (.bool false) ∧ Kp [] w w') := P2
    have Q3 : Hid (∀ W : World, Calls Tryd.prog 15 #[.agg #[.slice (some ⟨W.heap.size, 0, none⟩) 1 1, .int .i64 0, .int .i64 0]] (W.alloc (.cells #[.int .i64 5, .int .i64 lo, .int .i64 hi, .int .i64 X, .int .i64 Y] 35)) fun e w' => e = .returned (.int .i64 0) ∧ Kp [] (W.alloc (.cells #[.int .i64 5, .int .i64 lo, .int .i64 hi, .int .i64 X, .int .i64 Y] 35)) w') := P3
    have Q4 : Hid (∀ W : World, Calls Tryd.prog 15 #[.agg #[.slice (some ⟨W.heap.size, 0, none⟩) 2 2, .int .i64 0, .int .i64 0]] (W.alloc (.cells #[.int .i64 5, .int .i64 lo, .int .i64 hi, .int .i64 X, .int .i64 Y, .int .i64 5, .int .i64 lo, .int .i64 hi, .int .i64 n, .int .i64 Y] 35)) fun e w' => e = .returned (.int .i64 130) ∧ Kp [] (W.alloc (.cells #[.int .i64 5, .int .i64 lo, .int .i64 hi, .int .i64 X, .int .i64 Y, .int .i64 5, .int .i64 lo, .int .i64 hi, .int .i64 n, .int .i64 Y] 35)) w') := P4
    clear P1 P2 P3 P4 ho
    go_enter Tryd.func4, Tryd.ntmps4
    go_wp2_with fail
    refine (CW.out _ k1).mono ?_
    rintro e w1 ⟨rfl, k2⟩
    replace h3 := kblk k2 h3
    have z0 := cellB h3 0; have z1 := cellB h3 1; have z2 := cellB h3 2; have z3 := cellB h3 3; have z4 := cellB h3 4
    simp at z0 z1 z2 z3 z4
    go_wp2_with fail
    refine (F14.out _).mono ?_
    rintro e w2 ⟨rfl, k3⟩
    have kA := (k1.trans k2).trans k3
    replace h3 := kblk k3 h3
    clear z0 z1 z2 z3 z4 k1 k2 k3 CW F14
    obtain ⟨b2, hb2⟩ : ∃ b, b = W.heap.size := ⟨_, rfl⟩
    rw [← hb2] at h3 ⊢
    replace hb2 := Lib.hid hb2
    have z0 := cellB h3 0; have z1 := cellB h3 1; have z2 := cellB h3 2; have z3 := cellB h3 3; have z4 := cellB h3 4
    have lt2 := ltB h3
    simp at z0 z1 z2 z3 z4
    go_upto_region 15 with fail
    have hy := kblk ((Kp.refl [] _).alloc (.cells #[.int .i64 11, .int .i64 lo, .int .i64 hi, .int .i64 X, .int .i64 Y] 35)) (heap_alloc_new w2 (.cells #[.int .i64 5, .int .i64 lo, .int .i64 hi, .int .i64 n, .int .i64 Y] 35))
    have hz := heap_alloc_new (w2.alloc (.cells #[.int .i64 5, .int .i64 lo, .int .i64 hi, .int .i64 n, .int .i64 Y] 35)) (.cells #[.int .i64 11, .int .i64 lo, .int .i64 hi, .int .i64 X, .int .i64 Y] 35)
    have k4 := ((Kp.refl [] w2).alloc (.cells #[.int .i64 5, .int .i64 lo, .int .i64 hi, .int .i64 n, .int .i64 Y] 35)).alloc (.cells #[.int .i64 11, .int .i64 lo, .int .i64 hi, .int .i64 X, .int .i64 Y] 35)
    obtain ⟨W4, hW4⟩ : ∃ W4, W4 = (w2.alloc (.cells #[.int .i64 5, .int .i64 lo, .int .i64 hi, .int .i64 n, .int .i64 Y] 35)).alloc (.cells #[.int .i64 11, .int .i64 lo, .int .i64 hi, .int .i64 X, .int .i64 Y] 35) := ⟨_, rfl⟩
    have hs2 : (w2.alloc (.cells #[.int .i64 5, .int .i64 lo, .int .i64 hi, .int .i64 n, .int .i64 Y] 35)).heap.size = w2.heap.size + 1 := by simp
    rw [hs2] at hz
    rw [← hW4] at hy hz k4 ⊢
    clear hW4 hs2
    obtain ⟨b5, hb5⟩ : ∃ b, b = w2.heap.size := ⟨_, rfl⟩
    rw [← hb5] at hy hz ⊢
    clear hb5
    replace h3 := kblk k4 h3
    clear z0 z1 z2 z3 z4 lt2
    have z0 := cellB h3 0; have z1 := cellB h3 1; have z2 := cellB h3 2; have z3 := cellB h3 3; have z4 := cellB h3 4
    have y0 := cellB hy 0; have y1 := cellB hy 1; have y2 := cellB hy 2; have y3 := cellB hy 3; have y4 := cellB hy 4
    simp at z0 z1 z2 z3 z4 y0 y1 y2 y3 y4
    have lt2 := ltB h3
    have lty := ltB hy
    have ltz := ltB hz
    go_wp2_with fail
    refine (Q1.out _).mono ?_
    rintro e w5 ⟨rfl, k5⟩
    clear y0 y1 y2 y3 y4 z0 z1 z2 z3 z4
    replace hz := kblk k5 hz
    have y0 := cellB hz 0; have y1 := cellB hz 1; have y2 := cellB hz 2; have y3 := cellB hz 3; have y4 := cellB hz 4
    simp at y0 y1 y2 y3 y4
    go_wp2_with fail
    refine (Q2.out _).mono ?_
    rintro e w6 ⟨rfl, k6⟩
    clear y0 y1 y2 y3 y4
    have k46 := k5.trans k6
    replace h3 := kblk k46 h3
    replace hy := kblk k46 hy
    have z0 := cellB h3 0; have z1 := cellB h3 1; have z2 := cellB h3 2; have z3 := cellB h3 3; have z4 := cellB h3 4
    simp at z0 z1 z2 z3 z4
    go_wp2_with fail
    refine (Q3.out w6).mono ?_
    rintro e w7 ⟨rfl, k7⟩
    have k67 := ((Kp.refl [] w6).alloc _).trans k7
    replace h3 := kblk k67 h3
    replace hy := kblk k67 hy
    clear z0 z1 z2 z3 z4 lt2 lty
    have z0 := cellB h3 0; have z1 := cellB h3 1; have z2 := cellB h3 2; have z3 := cellB h3 3; have z4 := cellB h3 4
    have y0 := cellB hy 0; have y1 := cellB hy 1; have y2 := cellB hy 2; have y3 := cellB hy 3; have y4 := cellB hy 4
    simp at z0 z1 z2 z3 z4 y0 y1 y2 y3 y4
    have lt2 := ltB h3
    have lty := ltB hy
    go_wp2_with fail
    refine (Q4.out w7).mono ?_
    rintro e w8 ⟨rfl, k8⟩
    have k78 := ((Kp.refl [] w7).alloc _).trans k8
    go_wp2_with fail
    go_ret
    exact ⟨rfl, fin_kp ((((kA.trans k4).trans k46).trans k67).trans k78)⟩
  · have Q1 : Hid (∀ w, Calls Tryd.prog 14 #[.agg #[.int .i64 6, .int .i64 lo, .int .i64 hi, .int .i64 n, .int .i64 Y]] w fun e w' => e = .returned (.bool false) ∧ Kp [] w w') := P1
    have Q2 : Hid (∀ w, Calls Tryd.prog 14 #[.agg #[.int .i64 12, .int .i64 lo, .int .i64 hi, .int .i64 X, .int .i64 Y]] w fun e w' => e = .returned (.bool false) ∧ Kp [] w w') := P2
    have Q3 : Hid (∀ W : World, Calls Tryd.prog 15 #[.agg #[.slice (some ⟨W.heap.size, 0, none⟩) 1 1, .int .i64 0, .int .i64 0]] (W.alloc (.cells #[.int .i64 6, .int .i64 lo, .int .i64 hi, .int .i64 X, .int .i64 Y] 35)) fun e w' => e = .returned (.int .i64 0) ∧ Kp [] (W.alloc (.cells #[.int .i64 6, .int .i64 lo, .int .i64 hi, .int .i64 X, .int .i64 Y] 35)) w') := P3
    have Q4 : Hid (∀ W : World, Calls Tryd.prog 15 #[.agg #[.slice (some ⟨W.heap.size, 0, none⟩) 2 2, .int .i64 0, .int .i64 0]] (W.alloc (.cells #[.int .i64 6, .int .i64 lo, .int .i64 hi, .int .i64 X, .int .i64 Y, .int .i64 6, .int .i64 lo, .int .i64 hi, .int .i64 n, .int .i64 Y] 35)) fun e w' => e = .returned (.int .i64 130) ∧ Kp [] (W.alloc (.cells #[.int .i64 6, .int .i64 lo, .int .i64 hi, .int .i64 X, .int .i64 Y, .int .i64 6, .int .i64 lo, .int .i64 hi, .int .i64 n, .int .i64 Y] 35)) w') := P4
    clear P1 P2 P3 P4 ho
    go_enter Tryd.func4, Tryd.ntmps4
    go_wp2_with fail
    refine (CW.out _ k1).mono ?_
    rintro e w1 ⟨rfl, k2⟩
    replace h3 := kblk k2 h3
    have z0 := cellB h3 0; have z1 := cellB h3 1; have z2 := cellB h3 2; have z3 := cellB h3 3; have z4 := cellB h3 4
    simp at z0 z1 z2 z3 z4
    go_wp2_with fail
    refine (F14.out _).mono ?_
    rintro e w2 ⟨rfl, k3⟩
    have kA := (k1.trans k2).trans k3
    replace h3 := kblk k3 h3
    clear z0 z1 z2 z3 z4 k1 k2 k3 CW F14
    obtain ⟨b2, hb2⟩ : ∃ b, b = W.heap.size := ⟨_, rfl⟩
    rw [← hb2] at h3 ⊢
    replace hb2 := Lib.hid hb2
    have z0 := cellB h3 0; have z1 := cellB h3 1; have z2 := cellB h3 2; have z3 := cellB h3 3; have z4 := cellB h3 4
    have lt2 := ltB h3
    simp at z0 z1 z2 z3 z4
    go_upto_region 15 with fail
    have hy := kblk ((Kp.refl [] _).alloc (.cells #[.int .i64 12, .int .i64 lo, .int .i64 hi, .int .i64 X, .int .i64 Y] 35)) (heap_alloc_new w2 (.cells #[.int .i64 6, .int .i64 lo, .int .i64 hi, .int .i64 n, .int .i64 Y] 35))
    have hz := heap_alloc_new (w2.alloc (.cells #[.int .i64 6, .int .i64 lo, .int .i64 hi, .int .i64 n, .int .i64 Y] 35)) (.cells #[.int .i64 12, .int .i64 lo, .int .i64 hi, .int .i64 X, .int .i64 Y] 35)
    have k4 := ((Kp.refl [] w2).alloc (.cells #[.int .i64 6, .int .i64 lo, .int .i64 hi, .int .i64 n, .int .i64 Y] 35)).alloc (.cells #[.int .i64 12, .int .i64 lo, .int .i64 hi, .int .i64 X, .int .i64 Y] 35)
    obtain ⟨W4, hW4⟩ : ∃ W4, W4 = (w2.alloc (.cells #[.int .i64 6, .int .i64 lo, .int .i64 hi, .int .i64 n, .int .i64 Y] 35)).alloc (.cells #[.int .i64 12, .int .i64 lo, .int .i64 hi, .int .i64 X, .int .i64 Y] 35) := ⟨_, rfl⟩
    have hs2 : (w2.alloc (.cells #[.int .i64 6, .int .i64 lo, .int .i64 hi, .int .i64 n, .int .i64 Y] 35)).heap.size = w2.heap.size + 1 := by simp
    rw [hs2] at hz
    rw [← hW4] at hy hz k4 ⊢
    clear hW4 hs2
    obtain ⟨b5, hb5⟩ : ∃ b, b = w2.heap.size := ⟨_, rfl⟩
    rw [← hb5] at hy hz ⊢
    clear hb5
    replace h3 := kblk k4 h3
    clear z0 z1 z2 z3 z4 lt2
    have z0 := cellB h3 0; have z1 := cellB h3 1; have z2 := cellB h3 2; have z3 := cellB h3 3; have z4 := cellB h3 4
    have y0 := cellB hy 0; have y1 := cellB hy 1; have y2 := cellB hy 2; have y3 := cellB hy 3; have y4 := cellB hy 4
    simp at z0 z1 z2 z3 z4 y0 y1 y2 y3 y4
    have lt2 := ltB h3
    have lty := ltB hy
    have ltz := ltB hz
    go_wp2_with fail
    refine (Q1.out _).mono ?_
    rintro e w5 ⟨rfl, k5⟩
    clear y0 y1 y2 y3 y4 z0 z1 z2 z3 z4
    replace hz := kblk k5 hz
    have y0 := cellB hz 0; have y1 := cellB hz 1; have y2 := cellB hz 2; have y3 := cellB hz 3; have y4 := cellB hz 4
    simp at y0 y1 y2 y3 y4
    go_wp2_with fail
    refine (Q2.out _).mono ?_
    rintro e w6 ⟨rfl, k6⟩
    clear y0 y1 y2 y3 y4
    have k46 := k5.trans k6
    replace h3 := kblk k46 h3
    replace hy := kblk k46 hy
    have z0 := cellB h3 0; have z1 := cellB h3 1; have z2 := cellB h3 2; have z3 := cellB h3 3; have z4 := cellB h3 4
    simp at z0 z1 z2 z3 z4
    go_wp2_with fail
    refine (Q3.out w6).mono ?_
    rintro e w7 ⟨rfl, k7⟩
    have k67 := ((Kp.refl [] w6).alloc _).trans k7
    replace h3 := kblk k67 h3
    replace hy := kblk k67 hy
    clear z0 z1 z2 z3 z4 lt2 lty
    have z0 := cellB h3 0; have z1 := cellB h3 1; have z2 := cellB h3 2; have z3 := cellB h3 3; have z4 := cellB h3 4
    have y0 := cellB hy 0; have y1 := cellB hy 1; have y2 := cellB hy 2; have y3 := cellB hy 3; have y4 := cellB hy 4
    simp at z0 z1 z2 z3 z4 y0 y1 y2 y3 y4
    have lt2 := ltB h3
    have lty := ltB hy
    go_wp2_with fail
    refine (Q4.out w7).mono ?_
    rintro e w8 ⟨rfl, k8⟩
    have k78 := ((Kp.refl [] w7).alloc _).trans k8
    go_wp2_with fail
    go_ret
    exact ⟨rfl, fin_kp ((((kA.trans k4).trans k46).trans k67).trans k78)⟩
end Go.Proofs.YtkjkkebaafmheaaDoor
