/- Package utf: Decode, for every text, in every world: its answer is dec's. -/
import Derived.Test.YtbcmjpmnljfolaaC
import Derived.Test.YtbcmjpmnljfolaaD
namespace Go.Proofs.Ytbcmjpmnljfolaa
open Go.RowKit PUtfPieces Go.Proofs.YtbcmjpmnljfolaaW.PrintWords Go.Proofs.YtbcmjpmnljfolaaW.PrintLast Go.Proofs.YtbcmjpmnljfolaaW.PrintMore
set_option linter.unusedVariables false

theorem empty_eq (s : ByteArray) (h : s.size = 0) : s = ⟨#[]⟩ := by
  obtain ⟨a⟩ := s
  have : a = #[] := Array.eq_empty_of_size_eq_zero h
  rw [this]
theorem r2_wid (s : ByteArray) (h : 194 ≤ bt s 0 ∧ bt s 0 < 224) (h1 : isC (bt s 1)) : wid ((bt s 0 - 192) * 64 + bt s 1 % 64) = 2 := by
  have := wid_range ((bt s 0 - 192) * 64 + bt s 1 % 64)
  unfold isC at h1
  omega

theorem decode_any (s : ByteArray) (w : World) : Calls Try.prog 11 #[.string s] w fun e w' => e = .returned (.tuple #[.int .i64 (dec s).1, .int .i64 (dec s).2]) ∧ Kp [] w w' := by
  have b0 := bt_range s 0
  have b1 := bt_range s 1
  have b2 := bt_range s 2
  have b3 := bt_range s 3
  unfold dec
  by_cases h0 : s.size = 0
  · rw [if_pos h0, empty_eq s h0]
    exact decE_any w
  rw [if_neg h0]
  by_cases h1 : bt s 0 < 128
  · rw [if_pos h1]
    have hw := wid_range (bt s 0)
    exact dec1_good s (by omega) (bt s 0) rfl ⟨by omega, h1⟩ (by omega) w
  rw [if_neg h1]
  by_cases h2 : g2 s
  · rw [if_pos h2]
    obtain ⟨z, hr, c1⟩ := h2
    exact dec2_good s z (bt s 0) (bt s 1) rfl rfl hr c1 (r2_wid s hr c1) w
  rw [if_neg h2]
  by_cases h3 : g3 s
  · rw [if_pos h3]
    obtain ⟨z, hr, c1, c2, hw⟩ := h3
    exact dec3_good s z (bt s 0) (bt s 1) (bt s 2) rfl rfl rfl hr c1 c2 hw w
  rw [if_neg h3]
  by_cases h4 : g4 s
  · rw [if_pos h4]
    obtain ⟨z, hr, c1, c2, c3, hw⟩ := h4
    exact dec4_good s z (bt s 0) (bt s 1) (bt s 2) (bt s 3) rfl rfl rfl rfl hr c1 c2 c3 hw w
  rw [if_neg h4]
  by_cases k0 : bt s 0 < 194 ∨ 245 ≤ bt s 0
  · exact dec0_any s (by omega) (bt s 0) rfl ⟨by omega, by omega⟩ (by omega) w
  by_cases k2 : bt s 0 < 224
  · by_cases z : 2 ≤ s.size
    · by_cases c1 : isC (bt s 1)
      · exact absurd ⟨z, ⟨by omega, k2⟩, c1⟩ h2
      · exact dec2_bad0 s z (bt s 0) (bt s 1) rfl rfl ⟨by omega, k2⟩ ⟨by omega, by omega⟩ c1 w
    · exact dec2_short s (by omega) (by omega) (bt s 0) rfl ⟨by omega, k2⟩ w
  by_cases k3 : bt s 0 < 240
  · by_cases z : 3 ≤ s.size
    · by_cases c1 : isC (bt s 1)
      · by_cases c2 : isC (bt s 2)
        · by_cases hw : wid (r3 s) = 3
          · exact absurd ⟨z, ⟨by omega, k3⟩, c1, c2, hw⟩ h3
          · exact dec3_wid s z (bt s 0) (bt s 1) (bt s 2) rfl rfl rfl ⟨by omega, k3⟩ c1 c2 hw w
        · exact dec3_bad1 s z (bt s 0) (bt s 1) (bt s 2) rfl rfl rfl ⟨by omega, k3⟩ c1 ⟨by omega, by omega⟩ c2 w
      · exact dec3_bad0 s z (bt s 0) (bt s 1) rfl rfl ⟨by omega, k3⟩ ⟨by omega, by omega⟩ c1 w
    · exact dec3_short s (by omega) (by omega) (bt s 0) rfl ⟨by omega, k3⟩ w
  · by_cases z : 4 ≤ s.size
    · by_cases c1 : isC (bt s 1)
      · by_cases c2 : isC (bt s 2)
        · by_cases c3 : isC (bt s 3)
          · by_cases hw : wid (r4 s) = 4
            · exact absurd ⟨z, ⟨by omega, by omega⟩, c1, c2, c3, hw⟩ h4
            · exact dec4_wid s z (bt s 0) (bt s 1) (bt s 2) (bt s 3) rfl rfl rfl rfl ⟨by omega, by omega⟩ c1 c2 c3 hw w
          · exact dec4_bad2 s z (bt s 0) (bt s 1) (bt s 2) (bt s 3) rfl rfl rfl rfl ⟨by omega, by omega⟩ c1 c2 ⟨by omega, by omega⟩ c3 w
        · exact dec4_bad1 s z (bt s 0) (bt s 1) (bt s 2) rfl rfl rfl ⟨by omega, by omega⟩ c1 ⟨by omega, by omega⟩ c2 w
      · exact dec4_bad0 s z (bt s 0) (bt s 1) rfl rfl ⟨by omega, by omega⟩ ⟨by omega, by omega⟩ c1 w
    · exact dec4_short s (by omega) (by omega) (bt s 0) rfl ⟨by omega, by omega⟩ w
end Go.Proofs.Ytbcmjpmnljfolaa
