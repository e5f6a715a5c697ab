/- The chapter's example, and the law UtfTells: it returns true for every integer and every text. -/
import Derived.Test.YtbcmjpmnljfolaaG
import Derived.ProofKit
namespace Go.Proofs.Ytbcmjpmnljfolaa
open Go.RowKit PUtfPieces Go.Proofs.YtbcmjpmnljfolaaW.PrintWords Go.Proofs.YtbcmjpmnljfolaaW.PrintLast Go.Proofs.YtbcmjpmnljfolaaW.PrintMore
set_option linter.unusedVariables false

theorem enc_233 : strOfNums (encL 233) = ⟨#[195, 169]⟩ := by decide +kernel
theorem code_233 : codeE 233 = 0 := by decide +kernel
theorem dec_ex1 : (dec ⟨#[195, 169, 120]⟩).1 = 233 := by decide +kernel
theorem dec_ex2 : (dec ⟨#[195, 169, 120]⟩).2 = 2 := by decide +kernel
theorem pcs_ex : (pcs ⟨#[192, 128]⟩).length = 2 := by decide +kernel
theorem val_ex : validL (pcs ⟨#[192, 128]⟩) = false := by decide +kernel

theorem works_any (w : World) : Calls Try.prog 15 #[] w fun e w' => e = .returned (.bool true) ∧ Kp [] w w' := by
  have HE := Lib.hid (fun w => encode_any 233 w)
  rw [enc_233, code_233] at HE
  have HD := Lib.hid (fun w => decode_any ⟨#[195, 169, 120]⟩ w)
  rw [dec_ex1, dec_ex2] at HD
  have HC := Lib.hid (fun w => count_any ⟨#[192, 128]⟩ (by decide) w)
  rw [pcs_ex] at HC
  have HV := Lib.hid (fun w => valid_any ⟨#[192, 128]⟩ (by decide) w)
  rw [val_ex] at HV
  go_enter Try.func15, Try.ntmps15
  go_wp2_with fail
  refine (HE.out _).mono ?_
  rintro e w1 ⟨rfl, k1⟩
  go_wp2_with fail
  refine (HD.out _).mono ?_
  rintro e w2 ⟨rfl, k2⟩
  go_wp2_with fail
  refine (HC.out _).mono ?_
  rintro e w3 ⟨rfl, k3⟩
  go_wp2_with fail
  refine (HV.out _).mono ?_
  rintro e w4 ⟨rfl, k4⟩
  go_wp2_with fail
  go_ret
  exact ⟨rfl, ((k1.trans k2).trans (Kp.ofBelow k3)).trans (Kp.ofBelow k4)⟩

theorem tells_walk (W : World) (r : Int) (s : ByteArray) (wr : (Lit.int .i64 r).wf = true) (ws : s.size ≤ 140737488351232) :
    Calls Try.prog 3 #[.int .i64 r, .string s] W fun e w' => e = .returned (.bool true) ∧ Below W.heap.size W w' := by
  have HE := Lib.hid (fun w => encode_any r w)
  have HF := Lib.hid (fun w => burinref01_Encode.calls 1 r (strOfNums (encL r)) (codeE r) w (refEncode 0 r))
  have HD := Lib.hid (fun w => decode_any s w)
  have HG := Lib.hid (fun w => burinref01_Decode.calls 12 s (dec s).1 (dec s).2 w (refDecode 0 s))
  have HW := Lib.hid (fun w => width_any r w)
  have HX := Lib.hid (fun w => burinref01_Width.calls 1 r (wid r) w (refWidth 0 r))
  obtain ⟨d1, h1⟩ : ∃ d1, d1 = (dec s).1 := ⟨_, rfl⟩
  obtain ⟨d2, h2⟩ : ∃ d2, d2 = (dec s).2 := ⟨_, rfl⟩
  obtain ⟨es, h3⟩ : ∃ es, es = strOfNums (encL r) := ⟨_, rfl⟩
  obtain ⟨ec, h4⟩ : ∃ ec, ec = codeE r := ⟨_, rfl⟩
  obtain ⟨ew, h5⟩ : ∃ ew, ew = wid r := ⟨_, rfl⟩
  rw [← h1, ← h2] at HD HG
  rw [← h3, ← h4] at HE HF
  rw [← h5] at HW HX
  clear h1 h2 h3 h4 h5
  go_enter Try.func3, Try.ntmps3
  go_wp2_with fail
  refine (HE.out _).mono ?_
  rintro e w1 ⟨rfl, k1⟩
  go_wp2_with fail
  refine (HF.out _).mono ?_
  rintro e w2 ⟨rfl, k2⟩
  go_wp2_with fail
  refine (HD.out _).mono ?_
  rintro e w3 ⟨rfl, k3⟩
  go_wp2_with fail
  refine (HG.out _).mono ?_
  rintro e w4 ⟨rfl, k4⟩
  go_wp2_with fail
  refine (HW.out _).mono ?_
  rintro e w5 ⟨rfl, rfl⟩
  go_wp2_with fail
  refine (HX.out _).mono ?_
  rintro e w6 ⟨rfl, k6⟩
  go_wp2_with fail
  refine (works_any _).mono ?_
  rintro e w7 ⟨rfl, k7⟩
  go_wp2_with fail
  go_ret
  exact ⟨rfl, (((((k1.trans (Kp.ofBelow k2)).trans k3).trans (Kp.ofBelow k4)).trans (Kp.ofBelow k6.below)).trans k7).below (Nat.le_refl _) (by simp)⟩
end Go.Proofs.Ytbcmjpmnljfolaa
