-- Laid by print.py over several laws of the seat at once (wip/tools/printmany.sh): one namespace for all
import Derived.Test.YtkjkkebaafmheaaDoorPAllx0
namespace Go.Proofs.YtkjkkebaafmheaaDoor.PAll
open Go.RowKit Go.Proofs.YtkjkkebaafmheaaDoorW.PrintWords Go.Proofs.YtkjkkebaafmheaaDoorW.PrintLast Go.Proofs.YtkjkkebaafmheaaDoorW.PrintMore
attribute [local go_sem] max2_int min2_int max_two min_two max_three min_three max_four min_four   -- for this text's walks alone
set_option linter.unusedVariables false
set_option linter.unusedSimpArgs false

/-! ### prog_place: function 31 -/
def prog_place.f (a0 : Int) : Option (Bool) := if a0 ≥ 0 then (some (decide (a0 < 4000))) else (some false)
set_option maxHeartbeats 8000000 in
set_option maxRecDepth 100000 in
theorem prog_place.calls (a0 : Int) (r : Bool) (w : World) (h : prog_place.f a0 = some r) :
    Calls Tryd.prog 31 #[.int .i64 a0] w fun e w' => e = .returned (.bool r) ∧ Drawn0 w w' := by
  have H : (if a0 ≥ 0 then (some (decide (a0 < 4000))) else (some false)) = some r := h
  clear h
  by_cases c2 : a0 ≥ 0
  · rw [if_pos c2] at H
    have c2b0 : decide (0 ≤ a0) = true := decide_eq_true c2
    clear c2
    obtain rfl := Option.some.inj H
    go_enter Tryd.func31, Tryd.ntmps31
    go_wp2
    go_ret
    exact ⟨by first | rfl | (simp; done) | (simp [*]; done), by repeat (first | exact Drawn0.refl _ | apply Drawn0.step)⟩
  · rw [if_neg c2] at H
    have c2b0 : decide (0 ≤ a0) = false := decide_eq_false c2
    clear c2
    obtain rfl := Option.some.inj H
    go_enter Tryd.func31, Tryd.ntmps31
    go_wp2
    go_ret
    exact ⟨by first | rfl | (simp; done) | (simp [*]; done), by repeat (first | exact Drawn0.refl _ | apply Drawn0.step)⟩

-- NOT PRINTED: function 46 (api_Inst_46)

-- NOT PRINTED: function 34 (api_Inst_34)

-- NOT PRINTED: function 15 (prog_Check)

-- NOT PRINTED: function 47 (abi_NoEscape)

-- NOT PRINTED: function 37 (strings_Builder_copyCheck)

-- NOT PRINTED: function 19 (strings_Builder_WriteString)

end Go.Proofs.YtkjkkebaafmheaaDoor.PAll
