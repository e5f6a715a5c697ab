/- burinlaw32.works: it answers true. -/
import Derived.Test.YtlahjieodcoecaaC2
namespace Go.Proofs.Ytlahjieodcoecaa
open Go.RowKit
set_option linter.unusedVariables false

theorem works_any (w : World) : Calls Try.prog 9 #[] w fun e w' => e = .returned (.bool true) ∧ Kp [] w w' := by
  have Hc := fun w => choose_any 10 5 0 false (by decide) (by decide) (by decide) w
  rw [show lst (costs 10 5 0 false) 5 = 1 from by decide +kernel] at Hc
  have Hl := fun (w : World) a (h : FRow w a 4 [9221120237041090561, 4611686018427387904, 9223372036854775808, 0]) => least_any w a 4 4 _ h
  rw [show lst [9221120237041090561, 4611686018427387904, 9223372036854775808, 0] 4 = 2 from by decide +kernel] at Hl
  have Ho1 := fun w => order_any 9223372036854775808 0 (by omega) (by omega) w
  rw [show ord 9223372036854775808 0 = -1 from by decide +kernel] at Ho1
  have Ho2 := fun w => order_any 9221120237041090561 9218868437227405312 (by omega) (by omega) w
  rw [show ord 9221120237041090561 9218868437227405312 = 1 from by decide +kernel] at Ho2
  go_enter Try.func9, Try.ntmps9
  go_wp2_with fail
  refine (minus_any _).mono ?_
  rintro e w1 ⟨rfl, rfl⟩
  go_wp2_with fail
  refine (nan_any _).mono ?_
  rintro e w1 ⟨rfl, rfl⟩
  go_wp2_with fail
  refine (Hl _ _ ?_).mono ?_
  · refine ⟨rfl, fun j hj => ?_, fun _ => ⟨_, _, rfl, fun j hj => ?_⟩, by omega⟩
    · rcases j with _ | _ | _ | _ | _ <;> simp
    · rw [cellB (heap_alloc_new w _)]
      rcases j with _ | _ | _ | _ | _ <;> first | rfl | omega
  rintro e w1 ⟨rfl, hw1⟩
  have k1 : Kp [] w w1 := by rw [← hw1]; exact (Kp.refl _ _).alloc _
  clear hw1 Hl
  go_wp2_with fail
  refine (rate0_any _).mono ?_
  rintro e w2 ⟨⟨b, rfl, hb, hn⟩, rfl⟩
  have H3 := isNaN_any b w1.drew
  rw [hn] at H3
  clear hn
  go_wp2_with fail
  refine H3.mono ?_
  rintro e w2 ⟨rfl, hw2⟩
  have k2 : Kp [] w w2 := by rw [← hw2]; exact k1.drew
  clear hw2 H3
  go_wp2_with fail
  refine (Hc _).mono ?_
  rintro e w3 ⟨rfl, k3⟩
  have k4 := k2.trans k3
  clear k1 k2 k3 Hc
  go_wp2_with fail
  refine (Ho1 _).mono ?_
  rintro e w1 ⟨rfl, rfl⟩
  go_wp2_with fail
  refine (nan_any _).mono ?_
  rintro e w1 ⟨rfl, rfl⟩
  go_wp2_with fail
  refine (inf_any _).mono ?_
  rintro e w1 ⟨rfl, rfl⟩
  go_wp2_with fail
  refine (Ho2 _).mono ?_
  rintro e w1 ⟨rfl, rfl⟩
  go_wp2
  go_ret
  exact ⟨rfl, k4⟩
end Go.Proofs.Ytlahjieodcoecaa
