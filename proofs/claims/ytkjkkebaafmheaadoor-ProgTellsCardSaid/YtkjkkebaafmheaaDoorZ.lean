/- The law ProgTells, walked. -/
import Derived.Test.YtkjkkebaafmheaaDoorM4
namespace Go.Proofs.YtkjkkebaafmheaaDoor
open Go.RowKit PAll Go.Proofs.YtkjkkebaafmheaaDoorW.PrintWords Go.Proofs.YtkjkkebaafmheaaDoorW.PrintLast Go.Proofs.YtkjkkebaafmheaaDoorW.PrintMore
open Go.Shelf
set_option linter.unusedVariables false
set_option linter.unusedSimpArgs false
set_option maxRecDepth 100000 in
set_option maxHeartbeats 8000000 in
theorem tells_walk (W : World) (x : S35) (A B : Option Addr) (ca cb : Nat) (l g : List S35) (s q s' q' : Int) (m : Int) (hm : W.cell? ⟨0, 0, none⟩ = some (.int .i64 m)) (hC : Kd.C k35 W A l.length l) (hca : l.length ≤ ca) (hmax : l.length ≤ 9223372036854775807) (hD : Kd.C k35 W B g.length g) (hcb : g.length ≤ cb) (hmax' : g.length ≤ 9223372036854775807) :
    Calls Tryd.prog 5 #[.agg #[.int .i64 x.f0, .int .i64 x.f1, .int .i64 x.f2, .int .i64 x.f3, .int .i64 x.f4], .agg #[.slice A l.length ca, .int .i64 s, .int .i64 q], .agg #[.slice B g.length cb, .int .i64 s', .int .i64 q']] W fun e w' => e = .returned (.bool true) ∧ Below W.heap.size W w' := by
  have F14 := fits_calls x
  have F16 := rfits_calls x
  generalize hf : fitsB x = f at F14 F16
  clear hf
  obtain ⟨x0, x1, x2, x3, x4⟩ := x
  dsimp only at F14 F16 ⊢
  have k1 := (Kp.refl [] W).alloc (.cells #[.int .i64 x0, .int .i64 x1, .int .i64 x2, .int .i64 x3, .int .i64 x4] 35)
  have h3 := heap_alloc_new W (.cells #[.int .i64 x0, .int .i64 x1, .int .i64 x2, .int .i64 x3, .int .i64 x4] 35)
  obtain ⟨W1, hW1⟩ : ∃ W1, W1 = W.alloc (.cells #[.int .i64 x0, .int .i64 x1, .int .i64 x2, .int .i64 x3, .int .i64 x4] 35) := ⟨_, rfl⟩
  have hs1 : W1.heap.size = W.heap.size + 1 := by rw [hW1]; simp
  rw [← hW1] at k1 h3
  have ka := (Kp.refl [] W1).alloc (.cells #[.slice A l.length ca, .int .i64 s, .int .i64 q] 24)
  have h4 := heap_alloc_new W1 (.cells #[.slice A l.length ca, .int .i64 s, .int .i64 q] 24)
  obtain ⟨W2, hW2⟩ : ∃ W2, W2 = W1.alloc (.cells #[.slice A l.length ca, .int .i64 s, .int .i64 q] 24) := ⟨_, rfl⟩
  have hs2 : W2.heap.size = W.heap.size + 1 + 1 := by rw [hW2]; simp [hs1]
  rw [← hW2] at ka h4
  rw [hs1] at h4
  have kb := (Kp.refl [] W2).alloc (.cells #[.slice B g.length cb, .int .i64 s', .int .i64 q'] 24)
  have h5 := heap_alloc_new W2 (.cells #[.slice B g.length cb, .int .i64 s', .int .i64 q'] 24)
  obtain ⟨W3, hW3⟩ : ∃ W3, W3 = W2.alloc (.cells #[.slice B g.length cb, .int .i64 s', .int .i64 q'] 24) := ⟨_, rfl⟩
  rw [← hW3] at kb h5
  rw [hs2] at h5
  have kW := (k1.trans ka).trans kb
  replace h3 := kblk (ka.trans kb) h3
  replace h4 := kblk kb h4
  have hWW : W3 = ((W.alloc (.cells #[.int .i64 x0, .int .i64 x1, .int .i64 x2, .int .i64 x3, .int .i64 x4] 35)).alloc (.cells #[.slice A l.length ca, .int .i64 s, .int .i64 q] 24)).alloc (.cells #[.slice B g.length cb, .int .i64 s', .int .i64 q'] 24) := by rw [hW3, hW2, hW1]
  replace hWW := Lib.hid hWW
  clear hW1 hW2 hW3 hs1 hs2 k1 ka kb
  have CW := Lib.hid (show ∀ W2, Kp [] W W2 → Calls Tryd.prog 7 #[] W2 fun e w' => e = .returned (.bool true) ∧ Kp [] W2 w' from fun W2 k => works_calls m W2 (kcell k hm))
  obtain ⟨b0, hb0⟩ : ∃ b, b = W.heap.size := ⟨_, rfl⟩
  rw [← hb0] at h3 h4 h5
  replace hb0 := Lib.hid hb0
  have sOf := Lib.hid (show ∀ w', Kp [] W3 w' → (Kp [] W3 w' ∧ w'.cell? ⟨b0, 0, none⟩ = some (.int .i64 x0) ∧ w'.cell? ⟨b0, 1, none⟩ = some (.int .i64 x1) ∧ w'.cell? ⟨b0, 2, none⟩ = some (.int .i64 x2) ∧ w'.cell? ⟨b0, 3, none⟩ = some (.int .i64 x3) ∧ w'.cell? ⟨b0, 4, none⟩ = some (.int .i64 x4) ∧
      w'.cell? ⟨b0 + 1, 0, none⟩ = some (.slice A l.length ca) ∧ w'.cell? ⟨b0 + 1, 1, none⟩ = some (.int .i64 s) ∧ w'.cell? ⟨b0 + 1, 2, none⟩ = some (.int .i64 q) ∧
      w'.cell? ⟨b0 + 1 + 1, 0, none⟩ = some (.slice B g.length cb) ∧ w'.cell? ⟨b0 + 1 + 1, 1, none⟩ = some (.int .i64 s') ∧ w'.cell? ⟨b0 + 1 + 1, 2, none⟩ = some (.int .i64 q')) from fun w' k => by
    have e3 := kblk k h3
    have e4 := kblk k h4
    have e5 := kblk k h5
    exact ⟨k, cellB e3 0, cellB e3 1, cellB e3 2, cellB e3 3, cellB e3 4, cellB e4 0, cellB e4 1, cellB e4 2, cellB e5 0, cellB e5 1, cellB e5 2⟩)
  have hS := sOf.out W3 (Kp.refl _ _)
  have z0 := hS.2.1; have z1 := hS.2.2.1; have z2 := hS.2.2.2.1; have z3 := hS.2.2.2.2.1; have z4 := hS.2.2.2.2.2.1
  have y0 := hS.2.2.2.2.2.2.1; have y1 := hS.2.2.2.2.2.2.2.1; have y2 := hS.2.2.2.2.2.2.2.2.1
  have v0 := hS.2.2.2.2.2.2.2.2.2.1; have v1 := hS.2.2.2.2.2.2.2.2.2.2.1; have v2 := hS.2.2.2.2.2.2.2.2.2.2.2
  have y5 : decide ((5000 : Int) < (g.length : Int)) = decide (5000 < g.length) := by rw [decide_eq_decide]; omega
  clear y5
  by_cases h1 : 200 < l.length
  · have d1 : decide ((200 : Int) < (l.length : Int)) = true := decide_eq_true (by omega)
    by_cases h2 : l.length ≤ 4000
    · have d2 : decide ((l.length : Int) ≤ 4000) = true := decide_eq_true (by omega)
      clear hm hC hD
      go_enter Tryd.func5, Tryd.ntmps5
      go_wp2_with fail
      rw [← hWW.out]
      refine (CW.out _ kW).mono ?_
      rintro e w1 ⟨rfl, k1⟩
      go_wp2_with fail
      go_ret
      exact ⟨rfl, fin_kp (kW.trans k1)⟩
    have d2 : decide ((l.length : Int) ≤ 4000) = false := decide_eq_false (by omega)
    by_cases h6 : 5000 < g.length
    · have d3 : decide ((5000 : Int) < (g.length : Int)) = true := decide_eq_true (by omega)
      clear hm hC hD
      go_enter Tryd.func5, Tryd.ntmps5
      go_wp2_with fail
      rw [← hWW.out]
      refine (CW.out _ kW).mono ?_
      rintro e w1 ⟨rfl, k1⟩
      go_wp2_with fail
      go_ret
      exact ⟨rfl, fin_kp (kW.trans k1)⟩
    have d3 : decide ((5000 : Int) < (g.length : Int)) = false := decide_eq_false (by omega)
    have hlm : l.length ≤ 1000000 ∨ l.length ≠ g.length := by omega
    have C15 := Lib.hid (show ∀ w', Kp [] W3 w' ∧ w'.cell? ⟨b0, 0, none⟩ = some (Value.int .i64 x0) ∧ w'.cell? ⟨b0, 1, none⟩ = some (Value.int .i64 x1) ∧ w'.cell? ⟨b0, 2, none⟩ = some (Value.int .i64 x2) ∧ w'.cell? ⟨b0, 3, none⟩ = some (Value.int .i64 x3) ∧ w'.cell? ⟨b0, 4, none⟩ = some (Value.int .i64 x4) ∧ w'.cell? ⟨b0 + 1, 0, none⟩ = some (Value.slice A l.length ca) ∧ w'.cell? ⟨b0 + 1, 1, none⟩ = some (Value.int .i64 s) ∧ w'.cell? ⟨b0 + 1, 2, none⟩ = some (Value.int .i64 q) ∧ w'.cell? ⟨b0 + 1 + 1, 0, none⟩ = some (Value.slice B g.length cb) ∧ w'.cell? ⟨b0 + 1 + 1, 1, none⟩ = some (Value.int .i64 s') ∧ w'.cell? ⟨b0 + 1 + 1, 2, none⟩ = some (Value.int .i64 q') → Calls Tryd.prog 15 #[.agg #[.slice A l.length ca, .int .i64 s, .int .i64 q]] w' fun e w2 => e = .returned (.int .i64 (checkB l s q)) ∧ Kp [] w' w2 from fun w' h => check_calls A ca l s q w' (Kd.C_below hC ((kW.trans h.1).below (Nat.le_refl _) (by simp))))
    have C17 := Lib.hid (show ∀ w', Kp [] W3 w' ∧ w'.cell? ⟨b0, 0, none⟩ = some (Value.int .i64 x0) ∧ w'.cell? ⟨b0, 1, none⟩ = some (Value.int .i64 x1) ∧ w'.cell? ⟨b0, 2, none⟩ = some (Value.int .i64 x2) ∧ w'.cell? ⟨b0, 3, none⟩ = some (Value.int .i64 x3) ∧ w'.cell? ⟨b0, 4, none⟩ = some (Value.int .i64 x4) ∧ w'.cell? ⟨b0 + 1, 0, none⟩ = some (Value.slice A l.length ca) ∧ w'.cell? ⟨b0 + 1, 1, none⟩ = some (Value.int .i64 s) ∧ w'.cell? ⟨b0 + 1, 2, none⟩ = some (Value.int .i64 q) ∧ w'.cell? ⟨b0 + 1 + 1, 0, none⟩ = some (Value.slice B g.length cb) ∧ w'.cell? ⟨b0 + 1 + 1, 1, none⟩ = some (Value.int .i64 s') ∧ w'.cell? ⟨b0 + 1 + 1, 2, none⟩ = some (Value.int .i64 q') → Calls Tryd.prog 17 #[.agg #[.slice A l.length ca, .int .i64 s, .int .i64 q]] w' fun e w2 => e = .returned (.int .i64 (checkB l s q)) ∧ Kp [] w' w2 from fun w' h => rcheck_calls A ca l s q w' (Kd.C_below hC ((kW.trans h.1).below (Nat.le_refl _) (by simp))) hca)
    have C18 := Lib.hid (show ∀ w', Kp [] W3 w' ∧ w'.cell? ⟨b0, 0, none⟩ = some (Value.int .i64 x0) ∧ w'.cell? ⟨b0, 1, none⟩ = some (Value.int .i64 x1) ∧ w'.cell? ⟨b0, 2, none⟩ = some (Value.int .i64 x2) ∧ w'.cell? ⟨b0, 3, none⟩ = some (Value.int .i64 x3) ∧ w'.cell? ⟨b0, 4, none⟩ = some (Value.int .i64 x4) ∧ w'.cell? ⟨b0 + 1, 0, none⟩ = some (Value.slice A l.length ca) ∧ w'.cell? ⟨b0 + 1, 1, none⟩ = some (Value.int .i64 s) ∧ w'.cell? ⟨b0 + 1, 2, none⟩ = some (Value.int .i64 q) ∧ w'.cell? ⟨b0 + 1 + 1, 0, none⟩ = some (Value.slice B g.length cb) ∧ w'.cell? ⟨b0 + 1 + 1, 1, none⟩ = some (Value.int .i64 s') ∧ w'.cell? ⟨b0 + 1 + 1, 2, none⟩ = some (Value.int .i64 q') → Calls Tryd.prog 18 #[.agg #[.slice A l.length ca, .int .i64 s, .int .i64 q], .agg #[.slice B g.length cb, .int .i64 s', .int .i64 q']] w' fun e w2 => e = .returned (.bool (sameP l s q g s' q')) ∧ Kp [] w' w2 from fun w' h => same_calls A B ca cb l g s q s' q' hlm hca hcb w' (Kd.C_below hC ((kW.trans h.1).below (Nat.le_refl _) (by simp))) (Kd.C_below hD ((kW.trans h.1).below (Nat.le_refl _) (by simp))))
    have C12 := Lib.hid (show ∀ w', Kp [] W3 w' ∧ w'.cell? ⟨b0, 0, none⟩ = some (Value.int .i64 x0) ∧ w'.cell? ⟨b0, 1, none⟩ = some (Value.int .i64 x1) ∧ w'.cell? ⟨b0, 2, none⟩ = some (Value.int .i64 x2) ∧ w'.cell? ⟨b0, 3, none⟩ = some (Value.int .i64 x3) ∧ w'.cell? ⟨b0, 4, none⟩ = some (Value.int .i64 x4) ∧ w'.cell? ⟨b0 + 1, 0, none⟩ = some (Value.slice A l.length ca) ∧ w'.cell? ⟨b0 + 1, 1, none⟩ = some (Value.int .i64 s) ∧ w'.cell? ⟨b0 + 1, 2, none⟩ = some (Value.int .i64 q) ∧ w'.cell? ⟨b0 + 1 + 1, 0, none⟩ = some (Value.slice B g.length cb) ∧ w'.cell? ⟨b0 + 1 + 1, 1, none⟩ = some (Value.int .i64 s') ∧ w'.cell? ⟨b0 + 1 + 1, 2, none⟩ = some (Value.int .i64 q') → Calls Tryd.prog 12 #[.agg #[.slice A l.length ca, .int .i64 s, .int .i64 q], .agg #[.slice B g.length cb, .int .i64 s', .int .i64 q']] w' fun e w2 => e = .returned (.bool (sameP l s q g s' q')) ∧ Kp [] w' w2 from fun w' h => rsame_calls A B ca cb l g s q s' q' hlm hca hcb w' (Kd.C_below hC ((kW.trans h.1).below (Nat.le_refl _) (by simp))) (Kd.C_below hD ((kW.trans h.1).below (Nat.le_refl _) (by simp))))
    have C14 := Lib.hid F14
    have C16 := Lib.hid F16
    generalize checkB l s q = chk at C15 C17
    generalize sameP l s q g s' q' = sam at C18 C12
    clear F14 F16 hm hC hD h3 h4 h5
    go_enter Tryd.func5, Tryd.ntmps5
    go_upto_region 3 with fail
    rw [← hWW.out, ← hb0.out]
    go_region_held3 (fun (w' : World) => (Kp [] W3 w' ∧ w'.cell? ⟨b0, 0, none⟩ = some (Value.int .i64 x0) ∧ w'.cell? ⟨b0, 1, none⟩ = some (Value.int .i64 x1) ∧ w'.cell? ⟨b0, 2, none⟩ = some (Value.int .i64 x2) ∧ w'.cell? ⟨b0, 3, none⟩ = some (Value.int .i64 x3) ∧ w'.cell? ⟨b0, 4, none⟩ = some (Value.int .i64 x4) ∧ w'.cell? ⟨b0 + 1, 0, none⟩ = some (Value.slice A l.length ca) ∧ w'.cell? ⟨b0 + 1, 1, none⟩ = some (Value.int .i64 s) ∧ w'.cell? ⟨b0 + 1, 2, none⟩ = some (Value.int .i64 q) ∧ w'.cell? ⟨b0 + 1 + 1, 0, none⟩ = some (Value.slice B g.length cb) ∧ w'.cell? ⟨b0 + 1 + 1, 1, none⟩ = some (Value.int .i64 s') ∧ w'.cell? ⟨b0 + 1 + 1, 2, none⟩ = some (Value.int .i64 q'))) (first | assumption | exact ⟨Kp.drew (And.left (by assumption)), And.right (by assumption)⟩)
      (first
       | (go_at_call 14; refine (C14.out _).mono ?_; rintro e wA ⟨rfl, kA⟩; have sA := sOf.out _ (Kp.trans (And.left (by assumption)) kA); clear kA)
       | (go_at_call 16; refine (C16.out _).mono ?_; rintro e wB ⟨rfl, kB⟩; have sB := sOf.out _ (Kp.trans (And.left (by assumption)) kB); clear kB)
       | (go_at_call 15; refine (C15.out _ (by assumption)).mono ?_; rintro e wC ⟨rfl, kC⟩; have sC := sOf.out _ (Kp.trans (And.left (by assumption)) kC); clear kC)
       | (go_at_call 17; refine (C17.out _ (by assumption)).mono ?_; rintro e wD ⟨rfl, kD⟩; have sD := sOf.out _ (Kp.trans (And.left (by assumption)) kD); clear kD)
       | (go_at_call 18; refine (C18.out _ (by assumption)).mono ?_; rintro e wE ⟨rfl, kE⟩; have sE := sOf.out _ (Kp.trans (And.left (by assumption)) kE); clear kE)
       | (go_at_call 12; refine (C12.out _ (by assumption)).mono ?_; rintro e wF ⟨rfl, kF⟩; have sF := sOf.out _ (Kp.trans (And.left (by assumption)) kF); clear kF)
       | (go_at_call 7; refine (CW.out _ (Kp.trans kW (And.left (by assumption)))).mono ?_; rintro e wG ⟨rfl, kG⟩; have sG := sOf.out _ (Kp.trans (And.left (by assumption)) kG); clear kG))
    go_wp2_with fail
    go_ret
    exact ⟨rfl, fin_kp (kW.trans sG.1)⟩
  · have d1 : decide ((200 : Int) < (l.length : Int)) = false := decide_eq_false (by omega)
    by_cases h6 : 5000 < g.length
    · have d3 : decide ((5000 : Int) < (g.length : Int)) = true := decide_eq_true (by omega)
      clear hm hC hD
      go_enter Tryd.func5, Tryd.ntmps5
      go_wp2_with fail
      rw [← hWW.out]
      refine (CW.out _ kW).mono ?_
      rintro e w1 ⟨rfl, k1⟩
      go_wp2_with fail
      go_ret
      exact ⟨rfl, fin_kp (kW.trans k1)⟩
    have d3 : decide ((5000 : Int) < (g.length : Int)) = false := decide_eq_false (by omega)
    have hlm : l.length ≤ 1000000 ∨ l.length ≠ g.length := by omega
    have C15 := Lib.hid (show ∀ w', Kp [] W3 w' ∧ w'.cell? ⟨b0, 0, none⟩ = some (Value.int .i64 x0) ∧ w'.cell? ⟨b0, 1, none⟩ = some (Value.int .i64 x1) ∧ w'.cell? ⟨b0, 2, none⟩ = some (Value.int .i64 x2) ∧ w'.cell? ⟨b0, 3, none⟩ = some (Value.int .i64 x3) ∧ w'.cell? ⟨b0, 4, none⟩ = some (Value.int .i64 x4) ∧ w'.cell? ⟨b0 + 1, 0, none⟩ = some (Value.slice A l.length ca) ∧ w'.cell? ⟨b0 + 1, 1, none⟩ = some (Value.int .i64 s) ∧ w'.cell? ⟨b0 + 1, 2, none⟩ = some (Value.int .i64 q) ∧ w'.cell? ⟨b0 + 1 + 1, 0, none⟩ = some (Value.slice B g.length cb) ∧ w'.cell? ⟨b0 + 1 + 1, 1, none⟩ = some (Value.int .i64 s') ∧ w'.cell? ⟨b0 + 1 + 1, 2, none⟩ = some (Value.int .i64 q') → Calls Tryd.prog 15 #[.agg #[.slice A l.length ca, .int .i64 s, .int .i64 q]] w' fun e w2 => e = .returned (.int .i64 (checkB l s q)) ∧ Kp [] w' w2 from fun w' h => check_calls A ca l s q w' (Kd.C_below hC ((kW.trans h.1).below (Nat.le_refl _) (by simp))))
    have C17 := Lib.hid (show ∀ w', Kp [] W3 w' ∧ w'.cell? ⟨b0, 0, none⟩ = some (Value.int .i64 x0) ∧ w'.cell? ⟨b0, 1, none⟩ = some (Value.int .i64 x1) ∧ w'.cell? ⟨b0, 2, none⟩ = some (Value.int .i64 x2) ∧ w'.cell? ⟨b0, 3, none⟩ = some (Value.int .i64 x3) ∧ w'.cell? ⟨b0, 4, none⟩ = some (Value.int .i64 x4) ∧ w'.cell? ⟨b0 + 1, 0, none⟩ = some (Value.slice A l.length ca) ∧ w'.cell? ⟨b0 + 1, 1, none⟩ = some (Value.int .i64 s) ∧ w'.cell? ⟨b0 + 1, 2, none⟩ = some (Value.int .i64 q) ∧ w'.cell? ⟨b0 + 1 + 1, 0, none⟩ = some (Value.slice B g.length cb) ∧ w'.cell? ⟨b0 + 1 + 1, 1, none⟩ = some (Value.int .i64 s') ∧ w'.cell? ⟨b0 + 1 + 1, 2, none⟩ = some (Value.int .i64 q') → Calls Tryd.prog 17 #[.agg #[.slice A l.length ca, .int .i64 s, .int .i64 q]] w' fun e w2 => e = .returned (.int .i64 (checkB l s q)) ∧ Kp [] w' w2 from fun w' h => rcheck_calls A ca l s q w' (Kd.C_below hC ((kW.trans h.1).below (Nat.le_refl _) (by simp))) hca)
    have C18 := Lib.hid (show ∀ w', Kp [] W3 w' ∧ w'.cell? ⟨b0, 0, none⟩ = some (Value.int .i64 x0) ∧ w'.cell? ⟨b0, 1, none⟩ = some (Value.int .i64 x1) ∧ w'.cell? ⟨b0, 2, none⟩ = some (Value.int .i64 x2) ∧ w'.cell? ⟨b0, 3, none⟩ = some (Value.int .i64 x3) ∧ w'.cell? ⟨b0, 4, none⟩ = some (Value.int .i64 x4) ∧ w'.cell? ⟨b0 + 1, 0, none⟩ = some (Value.slice A l.length ca) ∧ w'.cell? ⟨b0 + 1, 1, none⟩ = some (Value.int .i64 s) ∧ w'.cell? ⟨b0 + 1, 2, none⟩ = some (Value.int .i64 q) ∧ w'.cell? ⟨b0 + 1 + 1, 0, none⟩ = some (Value.slice B g.length cb) ∧ w'.cell? ⟨b0 + 1 + 1, 1, none⟩ = some (Value.int .i64 s') ∧ w'.cell? ⟨b0 + 1 + 1, 2, none⟩ = some (Value.int .i64 q') → Calls Tryd.prog 18 #[.agg #[.slice A l.length ca, .int .i64 s, .int .i64 q], .agg #[.slice B g.length cb, .int .i64 s', .int .i64 q']] w' fun e w2 => e = .returned (.bool (sameP l s q g s' q')) ∧ Kp [] w' w2 from fun w' h => same_calls A B ca cb l g s q s' q' hlm hca hcb w' (Kd.C_below hC ((kW.trans h.1).below (Nat.le_refl _) (by simp))) (Kd.C_below hD ((kW.trans h.1).below (Nat.le_refl _) (by simp))))
    have C12 := Lib.hid (show ∀ w', Kp [] W3 w' ∧ w'.cell? ⟨b0, 0, none⟩ = some (Value.int .i64 x0) ∧ w'.cell? ⟨b0, 1, none⟩ = some (Value.int .i64 x1) ∧ w'.cell? ⟨b0, 2, none⟩ = some (Value.int .i64 x2) ∧ w'.cell? ⟨b0, 3, none⟩ = some (Value.int .i64 x3) ∧ w'.cell? ⟨b0, 4, none⟩ = some (Value.int .i64 x4) ∧ w'.cell? ⟨b0 + 1, 0, none⟩ = some (Value.slice A l.length ca) ∧ w'.cell? ⟨b0 + 1, 1, none⟩ = some (Value.int .i64 s) ∧ w'.cell? ⟨b0 + 1, 2, none⟩ = some (Value.int .i64 q) ∧ w'.cell? ⟨b0 + 1 + 1, 0, none⟩ = some (Value.slice B g.length cb) ∧ w'.cell? ⟨b0 + 1 + 1, 1, none⟩ = some (Value.int .i64 s') ∧ w'.cell? ⟨b0 + 1 + 1, 2, none⟩ = some (Value.int .i64 q') → Calls Tryd.prog 12 #[.agg #[.slice A l.length ca, .int .i64 s, .int .i64 q], .agg #[.slice B g.length cb, .int .i64 s', .int .i64 q']] w' fun e w2 => e = .returned (.bool (sameP l s q g s' q')) ∧ Kp [] w' w2 from fun w' h => rsame_calls A B ca cb l g s q s' q' hlm hca hcb w' (Kd.C_below hC ((kW.trans h.1).below (Nat.le_refl _) (by simp))) (Kd.C_below hD ((kW.trans h.1).below (Nat.le_refl _) (by simp))))
    have C14 := Lib.hid F14
    have C16 := Lib.hid F16
    generalize checkB l s q = chk at C15 C17
    generalize sameP l s q g s' q' = sam at C18 C12
    clear F14 F16 hm hC hD h3 h4 h5
    go_enter Tryd.func5, Tryd.ntmps5
    go_upto_region 3 with fail
    rw [← hWW.out, ← hb0.out]
    go_region_held3 (fun (w' : World) => (Kp [] W3 w' ∧ w'.cell? ⟨b0, 0, none⟩ = some (Value.int .i64 x0) ∧ w'.cell? ⟨b0, 1, none⟩ = some (Value.int .i64 x1) ∧ w'.cell? ⟨b0, 2, none⟩ = some (Value.int .i64 x2) ∧ w'.cell? ⟨b0, 3, none⟩ = some (Value.int .i64 x3) ∧ w'.cell? ⟨b0, 4, none⟩ = some (Value.int .i64 x4) ∧ w'.cell? ⟨b0 + 1, 0, none⟩ = some (Value.slice A l.length ca) ∧ w'.cell? ⟨b0 + 1, 1, none⟩ = some (Value.int .i64 s) ∧ w'.cell? ⟨b0 + 1, 2, none⟩ = some (Value.int .i64 q) ∧ w'.cell? ⟨b0 + 1 + 1, 0, none⟩ = some (Value.slice B g.length cb) ∧ w'.cell? ⟨b0 + 1 + 1, 1, none⟩ = some (Value.int .i64 s') ∧ w'.cell? ⟨b0 + 1 + 1, 2, none⟩ = some (Value.int .i64 q'))) (first | assumption | exact ⟨Kp.drew (And.left (by assumption)), And.right (by assumption)⟩)
      (first
       | (go_at_call 14; refine (C14.out _).mono ?_; rintro e wA ⟨rfl, kA⟩; have sA := sOf.out _ (Kp.trans (And.left (by assumption)) kA); clear kA)
       | (go_at_call 16; refine (C16.out _).mono ?_; rintro e wB ⟨rfl, kB⟩; have sB := sOf.out _ (Kp.trans (And.left (by assumption)) kB); clear kB)
       | (go_at_call 15; refine (C15.out _ (by assumption)).mono ?_; rintro e wC ⟨rfl, kC⟩; have sC := sOf.out _ (Kp.trans (And.left (by assumption)) kC); clear kC)
       | (go_at_call 17; refine (C17.out _ (by assumption)).mono ?_; rintro e wD ⟨rfl, kD⟩; have sD := sOf.out _ (Kp.trans (And.left (by assumption)) kD); clear kD)
       | (go_at_call 18; refine (C18.out _ (by assumption)).mono ?_; rintro e wE ⟨rfl, kE⟩; have sE := sOf.out _ (Kp.trans (And.left (by assumption)) kE); clear kE)
       | (go_at_call 12; refine (C12.out _ (by assumption)).mono ?_; rintro e wF ⟨rfl, kF⟩; have sF := sOf.out _ (Kp.trans (And.left (by assumption)) kF); clear kF)
       | (go_at_call 7; refine (CW.out _ (Kp.trans kW (And.left (by assumption)))).mono ?_; rintro e wG ⟨rfl, kG⟩; have sG := sOf.out _ (Kp.trans (And.left (by assumption)) kG); clear kG))
    go_wp2_with fail
    go_ret
    exact ⟨rfl, fin_kp (kW.trans sG.1)⟩
end Go.Proofs.YtkjkkebaafmheaaDoor
