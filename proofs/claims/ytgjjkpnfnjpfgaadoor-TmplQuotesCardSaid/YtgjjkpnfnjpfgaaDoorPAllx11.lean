-- Laid by print.py over several laws of the seat at once (wip/tools/printmany.sh): one namespace for all
import Derived.Test.YtgjjkpnfnjpfgaaDoorPAllx0
namespace Go.Proofs.YtgjjkpnfnjpfgaaDoor.PAll
open Go.RowKit Go.Proofs.YtgjjkpnfnjpfgaaDoorW.PrintWords Go.Proofs.YtgjjkpnfnjpfgaaDoorW.PrintLast Go.Proofs.YtgjjkpnfnjpfgaaDoorW.PrintMore
attribute [local go_sem] max2_int min2_int max_two min_two max_three min_three max_four min_four   -- for this text's walks alone
set_option linter.unusedVariables false
set_option linter.unusedSimpArgs false

/-! ### tmpl_said: function 15 -/
def tmpl_said.j0 : Nat → Int → ByteArray → List Int → Bool → Option (ByteArray)
  | 0, _, _, _, _ => none
  | k + 1, x0, x1, x2, x17 => if x17 = true then (some (⟨#[]⟩ : ByteArray)) else (if 0 ≤ (wrap64 (2 * x0)) then (if (wrap64 (2 * x0)) < (x2.length : Int) then (if 0 ≤ (wrap64 ((wrap64 (2 * x0)) + 1)) then (if (wrap64 ((wrap64 (2 * x0)) + 1)) < (x2.length : Int) then (if (rd x2 (wrap64 (2 * x0))) < 0 then (some (⟨#[]⟩ : ByteArray)) else (if (rd x2 (wrap64 ((wrap64 (2 * x0)) + 1))) < (rd x2 (wrap64 (2 * x0))) then (some (⟨#[]⟩ : ByteArray)) else (if (rd x2 (wrap64 ((wrap64 (2 * x0)) + 1))) > (x1.size : Int) then (some (⟨#[]⟩ : ByteArray)) else (if 0 ≤ (rd x2 (wrap64 (2 * x0))) then (if (rd x2 (wrap64 (2 * x0))) ≤ (rd x2 (wrap64 ((wrap64 (2 * x0)) + 1))) then (if (rd x2 (wrap64 ((wrap64 (2 * x0)) + 1))) ≤ (x1.size : Int) then (some (x1.extract ((rd x2 (wrap64 (2 * x0))) : Int).toNat ((rd x2 (wrap64 ((wrap64 (2 * x0)) + 1))) : Int).toNat)) else (none)) else (none)) else (none))))) else (none)) else (none)) else (none)) else (none))
def tmpl_said.f (k : Nat) (a0 : Int) (a1 : ByteArray) (l2 : List Int) : Option (ByteArray) := if a0 < 0 then (tmpl_said.j0 k a0 a1 l2 true) else (tmpl_said.j0 k a0 a1 l2 (decide (a0 ≥ (wrap64 ((l2.length : Int) / 2)))))
theorem tmpl_said.mono_l : ∀ k, (∀ y0 y1 y2 y3, LeO (tmpl_said.j0 k y0 y1 y2 y3) (tmpl_said.j0 (k + 1) y0 y1 y2 y3))
  | 0 => fun _ _ _ _ r h => by simp [tmpl_said.j0] at h
  | k + 1 => by
    have ih0 := tmpl_said.mono_l k
    · intro y0 y1 y2 y3
      unfold tmpl_said.j0
      repeat' first
      | (with_reducible exact ih0 _ _ _ _)
      | (with_reducible exact LeO.refl _)
      | (with_reducible exact LeO.none _)
      | (with_reducible refine LeO.ite ?_ ?_)
      | (with_reducible refine LeO.bind ?_ (fun _ => ?_))
      | exact ih0 _ _ _ _
      | exact LeO.none _
      | refine LeO.ite ?_ ?_
      | refine LeO.bind ?_ (fun _ => ?_)
theorem tmpl_said.mono : ∀ a0 a1 a2 k, LeO (tmpl_said.f k a0 a1 a2) (tmpl_said.f (k + 1) a0 a1 a2) := by
  intro a0 a1 a2 k
  have ih0 := tmpl_said.mono_l k
  unfold tmpl_said.f
  repeat' first
      | (with_reducible exact ih0 _ _ _ _)
      | (with_reducible exact LeO.refl _)
      | (with_reducible exact LeO.none _)
      | (with_reducible refine LeO.ite ?_ ?_)
      | (with_reducible refine LeO.bind ?_ (fun _ => ?_))
      | exact ih0 _ _ _ _
      | exact LeO.none _
      | refine LeO.ite ?_ ?_
      | refine LeO.bind ?_ (fun _ => ?_)
set_option maxHeartbeats 8000000 in
set_option maxRecDepth 100000 in
theorem tmpl_said.calls (k : Nat) (a0 : Int) (a1 : ByteArray) (A2 : Option Addr) (c2 : Nat) (l2 : List Int) (r : ByteArray) (w : World) (hr2 : Kd.C (Kd.int .i64) w A2 l2.length l2) (hc2 : l2.length ≤ c2) (h : tmpl_said.f k a0 a1 l2 = some r) :
    Calls Tryd.prog 15 #[.int .i64 a0, .string a1, .slice A2 l2.length c2] w fun e w' => e = .returned (.string r) ∧ Drawn0 w w' := by
  have HR2 := Aside0.mk hr2
  have HC2 := Aside0.mk hc2
  clear hr2 hc2
  have H : (if a0 < 0 then (tmpl_said.j0 k a0 a1 l2 true) else (tmpl_said.j0 k a0 a1 l2 (decide (a0 ≥ (wrap64 ((l2.length : Int) / 2)))))) = some r := h
  clear h
  have HC4 := Aside0.mk H
  clear H
  go_enter Tryd.func15, Tryd.ntmps15
  go_upto_region 1 with (fail)
  repeat (go_quiet (fail); go_upto_region 1 with (fail))
  go_cut [17] (fun v17 wc => ∃ (kq : Nat) (x17_3 : Bool), v17 = .bool x17_3 ∧ Aside0 (tmpl_said.j0 kq a0 a1 l2 x17_3 = some r) ∧ Aside0 (kq ≤ k) ∧ Drawn0 w wc)
  case first =>
    have H := HC4.out
    clear HC4
    by_cases c5 : a0 < 0
    · rw [if_pos c5] at H
      have c5b0 : decide (a0 < 0) = true := decide_eq_true c5
      clear c5
      (first | rw [c5b0] | (simp only [i64_w, i32_w]; rw [c5b0]) | skip)
      have H' := Aside0.mk H
      clear H
      go_wp2
      repeat (go_quiet (fail); try go_wp2)
      go_meet
      case rel => exact ⟨_, (true), (by first | rfl | (simp; done) | (simp [*]; done)), H', ⟨by first | omega | exact Nat.le_refl _⟩, by repeat (first | exact Drawn0.refl _ | apply Drawn0.step)⟩
    · rw [if_neg c5] at H
      have c5b0 : decide (a0 < 0) = false := decide_eq_false c5
      clear c5
      (first | rw [c5b0] | (simp only [i64_w, i32_w]; rw [c5b0]) | skip)
      have H' := Aside0.mk H
      clear H
      go_wp2
      repeat (go_quiet (fail); try go_wp2)
      go_meet
      case rel => exact ⟨_, (decide (a0 ≥ (wrap64 ((l2.length : Int) / 2)))), (by first | rfl | (simp; done) | (simp [*]; done)), H', ⟨by first | omega | exact Nat.le_refl _⟩, by repeat (first | exact Drawn0.refl _ | apply Drawn0.step)⟩
  case rest =>
    clear HC4
    try clear c1
    try clear c2
    try clear p2
    try clear c5
    try clear c5b0
    obtain ⟨kq, x17_3, rfl, HA, HJ3, ⟨mc3, rfl⟩⟩ := hcut
    cases kq with
    | zero => exact absurd HA.out (by simp [tmpl_said.j0])
    | succ kj3 =>
      have H := HA.out
      clear HA
      simp only [tmpl_said.j0] at H
      by_cases c6 : x17_3 = true
      · subst c6
        have H1 : (some (⟨#[]⟩ : ByteArray)) = some r := by rw [if_pos rfl] at H; exact H
        clear H
        have H := H1
        clear H1
        obtain rfl := Option.some.inj H
        go_wp2
        repeat (go_quiet (fail); try go_wp2)
        go_ret
        exact ⟨by first | rfl | (simp; done) | (simp [*]; done), by repeat (first | exact Drawn0.refl _ | apply Drawn0.step)⟩
      · replace c6 := Bool.eq_false_iff.mpr c6
        subst c6
        have H1 : (if 0 ≤ (wrap64 (2 * a0)) then (if (wrap64 (2 * a0)) < (l2.length : Int) then (if 0 ≤ (wrap64 ((wrap64 (2 * a0)) + 1)) then (if (wrap64 ((wrap64 (2 * a0)) + 1)) < (l2.length : Int) then (if (rd l2 (wrap64 (2 * a0))) < 0 then (some (⟨#[]⟩ : ByteArray)) else (if (rd l2 (wrap64 ((wrap64 (2 * a0)) + 1))) < (rd l2 (wrap64 (2 * a0))) then (some (⟨#[]⟩ : ByteArray)) else (if (rd l2 (wrap64 ((wrap64 (2 * a0)) + 1))) > (a1.size : Int) then (some (⟨#[]⟩ : ByteArray)) else (if 0 ≤ (rd l2 (wrap64 (2 * a0))) then (if (rd l2 (wrap64 (2 * a0))) ≤ (rd l2 (wrap64 ((wrap64 (2 * a0)) + 1))) then (if (rd l2 (wrap64 ((wrap64 (2 * a0)) + 1))) ≤ (a1.size : Int) then (some (a1.extract ((rd l2 (wrap64 (2 * a0))) : Int).toNat ((rd l2 (wrap64 ((wrap64 (2 * a0)) + 1))) : Int).toNat)) else (none)) else (none)) else (none))))) else (none)) else (none)) else (none)) else (none)) = some r := by rw [if_neg (show ¬ (false = true) by decide)] at H; exact H
        clear H
        have H := H1
        clear H1
        obtain ⟨ji7, hji7⟩ : ∃ j_ : Int, (wrap64 (2 * a0)) = j_ := ⟨_, rfl⟩
        replace H : (if 0 ≤ (ji7) then (if (ji7) < (l2.length : Int) then (if 0 ≤ (wrap64 ((ji7) + 1)) then (if (wrap64 ((ji7) + 1)) < (l2.length : Int) then (if (rd l2 (ji7)) < 0 then (some (⟨#[]⟩ : ByteArray)) else (if (rd l2 (wrap64 ((ji7) + 1))) < (rd l2 (ji7)) then (some (⟨#[]⟩ : ByteArray)) else (if (rd l2 (wrap64 ((ji7) + 1))) > (a1.size : Int) then (some (⟨#[]⟩ : ByteArray)) else (if 0 ≤ (rd l2 (ji7)) then (if (rd l2 (ji7)) ≤ (rd l2 (wrap64 ((ji7) + 1))) then (if (rd l2 (wrap64 ((ji7) + 1))) ≤ (a1.size : Int) then (some (a1.extract ((rd l2 (ji7)) : Int).toNat ((rd l2 (wrap64 ((ji7) + 1))) : Int).toNat)) else (none)) else (none)) else (none))))) else (none)) else (none)) else (none)) else (none)) = some r := by first | (rw [hji7] at H; exact H) | (simp only [hji7] at H ⊢; exact H)
        have hji7w : (IntKind.i64.wrap (2 * a0)) = ji7 := (i64_w _).trans hji7
        by_cases c8 : 0 ≤ (ji7)
        · rw [if_pos c8] at H
          have c8b0 : decide (0 ≤ (ji7)) = true := decide_eq_true c8
          clear c8
          by_cases c9 : (ji7) < (l2.length : Int)
          · rw [if_pos c9] at H
            have c9b0 : decide ((ji7) < (l2.length : Int)) = true := decide_eq_true c9
            clear c9
            obtain ⟨ji10, hji10⟩ : ∃ j_ : Int, (wrap64 ((ji7) + 1)) = j_ := ⟨_, rfl⟩
            replace H : (if 0 ≤ (ji10) then (if (ji10) < (l2.length : Int) then (if (rd l2 (ji7)) < 0 then (some (⟨#[]⟩ : ByteArray)) else (if (rd l2 (ji10)) < (rd l2 (ji7)) then (some (⟨#[]⟩ : ByteArray)) else (if (rd l2 (ji10)) > (a1.size : Int) then (some (⟨#[]⟩ : ByteArray)) else (if 0 ≤ (rd l2 (ji7)) then (if (rd l2 (ji7)) ≤ (rd l2 (ji10)) then (if (rd l2 (ji10)) ≤ (a1.size : Int) then (some (a1.extract ((rd l2 (ji7)) : Int).toNat ((rd l2 (ji10)) : Int).toNat)) else (none)) else (none)) else (none))))) else (none)) else (none)) = some r := by first | (rw [hji10] at H; exact H) | (simp only [hji10] at H ⊢; exact H)
            have hji10w : (IntKind.i64.wrap ((ji7) + 1)) = ji10 := (i64_w _).trans hji10
            by_cases c11 : 0 ≤ (ji10)
            · rw [if_pos c11] at H
              have c11b0 : decide (0 ≤ (ji10)) = true := decide_eq_true c11
              clear c11
              by_cases c12 : (ji10) < (l2.length : Int)
              · rw [if_pos c12] at H
                have c12b0 : decide ((ji10) < (l2.length : Int)) = true := decide_eq_true c12
                clear c12
                by_cases c13 : (rd l2 (ji7)) < 0
                · rw [if_pos c13] at H
                  have c13b0 : decide ((rd l2 (ji7)) < 0) = true := decide_eq_true c13
                  clear c13
                  obtain rfl := Option.some.inj H
                  have p116 : 0 ≤ ((ji7) : Int) := of_decide_eq_true (by first | (with_reducible assumption) | assumption)
                  have q116 : (ji7) < (l2.length : Int) := of_decide_eq_true (by first | (with_reducible assumption) | assumption)
                  obtain ⟨ad116, e116, hx116_0⟩ := Kd.at_int HR2.out (ji7) p116 q116
                  cases e116
                  replace p116 := eq_true p116
                  replace q116 := eq_true q116
                  have p117 : 0 ≤ ((ji10) : Int) := of_decide_eq_true (by first | (with_reducible assumption) | assumption)
                  have q117 : (ji10) < (l2.length : Int) := of_decide_eq_true (by first | (with_reducible assumption) | assumption)
                  obtain ⟨ad117, e117, hx117_0⟩ := Kd.at_int HR2.out (ji10) p117 q117
                  obtain rfl : ad116 = ad117 := (by injection e117)
                  replace p117 := eq_true p117
                  replace q117 := eq_true q117
                  go_wp2
                  repeat (go_quiet (fail); try go_wp2)
                  go_ret
                  exact ⟨by first | rfl | (simp; done) | (simp only [← hji7, ← hji10] <;> (first | rfl | simp)) | (simp [*]; done), by repeat (first | exact Drawn0.refl _ | apply Drawn0.step)⟩
                · rw [if_neg c13] at H
                  have c13b0 : decide ((rd l2 (ji7)) < 0) = false := decide_eq_false c13
                  clear c13
                  by_cases c14 : (rd l2 (ji10)) < (rd l2 (ji7))
                  · rw [if_pos c14] at H
                    have c14b0 : decide ((rd l2 (ji10)) < (rd l2 (ji7))) = true := decide_eq_true c14
                    clear c14
                    obtain rfl := Option.some.inj H
                    have p116 : 0 ≤ ((ji7) : Int) := of_decide_eq_true (by first | (with_reducible assumption) | assumption)
                    have q116 : (ji7) < (l2.length : Int) := of_decide_eq_true (by first | (with_reducible assumption) | assumption)
                    obtain ⟨ad116, e116, hx116_0⟩ := Kd.at_int HR2.out (ji7) p116 q116
                    cases e116
                    replace p116 := eq_true p116
                    replace q116 := eq_true q116
                    have p117 : 0 ≤ ((ji10) : Int) := of_decide_eq_true (by first | (with_reducible assumption) | assumption)
                    have q117 : (ji10) < (l2.length : Int) := of_decide_eq_true (by first | (with_reducible assumption) | assumption)
                    obtain ⟨ad117, e117, hx117_0⟩ := Kd.at_int HR2.out (ji10) p117 q117
                    obtain rfl : ad116 = ad117 := (by injection e117)
                    replace p117 := eq_true p117
                    replace q117 := eq_true q117
                    go_wp2
                    repeat (go_quiet (fail); try go_wp2)
                    go_ret
                    exact ⟨by first | rfl | (simp; done) | (simp only [← hji7, ← hji10] <;> (first | rfl | simp)) | (simp [*]; done), by repeat (first | exact Drawn0.refl _ | apply Drawn0.step)⟩
                  · rw [if_neg c14] at H
                    have c14b0 : decide ((rd l2 (ji10)) < (rd l2 (ji7))) = false := decide_eq_false c14
                    clear c14
                    by_cases c15 : (rd l2 (ji10)) > (a1.size : Int)
                    · rw [if_pos c15] at H
                      have c15b0 : decide ((a1.size : Int) < (rd l2 (ji10))) = true := decide_eq_true c15
                      clear c15
                      obtain rfl := Option.some.inj H
                      have p116 : 0 ≤ ((ji7) : Int) := of_decide_eq_true (by first | (with_reducible assumption) | assumption)
                      have q116 : (ji7) < (l2.length : Int) := of_decide_eq_true (by first | (with_reducible assumption) | assumption)
                      obtain ⟨ad116, e116, hx116_0⟩ := Kd.at_int HR2.out (ji7) p116 q116
                      cases e116
                      replace p116 := eq_true p116
                      replace q116 := eq_true q116
                      have p117 : 0 ≤ ((ji10) : Int) := of_decide_eq_true (by first | (with_reducible assumption) | assumption)
                      have q117 : (ji10) < (l2.length : Int) := of_decide_eq_true (by first | (with_reducible assumption) | assumption)
                      obtain ⟨ad117, e117, hx117_0⟩ := Kd.at_int HR2.out (ji10) p117 q117
                      obtain rfl : ad116 = ad117 := (by injection e117)
                      replace p117 := eq_true p117
                      replace q117 := eq_true q117
                      go_wp2
                      repeat (go_quiet (fail); try go_wp2)
                      go_ret
                      exact ⟨by first | rfl | (simp; done) | (simp only [← hji7, ← hji10] <;> (first | rfl | simp)) | (simp [*]; done), by repeat (first | exact Drawn0.refl _ | apply Drawn0.step)⟩
                    · rw [if_neg c15] at H
                      have c15b0 : decide ((a1.size : Int) < (rd l2 (ji10))) = false := decide_eq_false c15
                      clear c15
                      by_cases c16 : 0 ≤ (rd l2 (ji7))
                      · rw [if_pos c16] at H
                        have c16b0 := eq_true c16
                        have c16b1 : decide (0 ≤ (rd l2 (ji7))) = true := decide_eq_true c16
                        clear c16
                        by_cases c17 : (rd l2 (ji7)) ≤ (rd l2 (ji10))
                        · rw [if_pos c17] at H
                          have c17b0 := eq_true c17
                          have c17b1 : decide ((rd l2 (ji7)) ≤ (rd l2 (ji10))) = true := decide_eq_true c17
                          clear c17
                          by_cases c18 : (rd l2 (ji10)) ≤ (a1.size : Int)
                          · rw [if_pos c18] at H
                            have c18b0 := eq_true c18
                            have c18b1 : decide ((rd l2 (ji10)) ≤ (a1.size : Int)) = true := decide_eq_true c18
                            clear c18
                            obtain rfl := Option.some.inj H
                            have p116 : 0 ≤ ((ji7) : Int) := of_decide_eq_true (by first | (with_reducible assumption) | assumption)
                            have q116 : (ji7) < (l2.length : Int) := of_decide_eq_true (by first | (with_reducible assumption) | assumption)
                            obtain ⟨ad116, e116, hx116_0⟩ := Kd.at_int HR2.out (ji7) p116 q116
                            cases e116
                            replace p116 := eq_true p116
                            replace q116 := eq_true q116
                            have p117 : 0 ≤ ((ji10) : Int) := of_decide_eq_true (by first | (with_reducible assumption) | assumption)
                            have q117 : (ji10) < (l2.length : Int) := of_decide_eq_true (by first | (with_reducible assumption) | assumption)
                            obtain ⟨ad117, e117, hx117_0⟩ := Kd.at_int HR2.out (ji10) p117 q117
                            obtain rfl : ad116 = ad117 := (by injection e117)
                            replace p117 := eq_true p117
                            replace q117 := eq_true q117
                            go_wp2
                            repeat (go_quiet (fail); try go_wp2)
                            go_ret
                            exact ⟨by first | rfl | (simp; done) | (simp only [← hji7, ← hji10] <;> (first | rfl | simp)) | (simp [*]; done), by repeat (first | exact Drawn0.refl _ | apply Drawn0.step)⟩
                          · rw [if_neg c18] at H
                            exact absurd H (by simp)
                        · rw [if_neg c17] at H
                          exact absurd H (by simp)
                      · rw [if_neg c16] at H
                        exact absurd H (by simp)
              · rw [if_neg c12] at H
                exact absurd H (by simp)
            · rw [if_neg c11] at H
              exact absurd H (by simp)
          · rw [if_neg c9] at H
            exact absurd H (by simp)
        · rw [if_neg c8] at H
          exact absurd H (by simp)

end Go.Proofs.YtgjjkpnfnjpfgaaDoor.PAll
