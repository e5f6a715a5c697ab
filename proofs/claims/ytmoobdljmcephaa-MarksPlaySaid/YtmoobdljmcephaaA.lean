/- math/bits.OnesCount64: it answers the number of bits, for every word. -/
import Derived.Test.YtmoobdljmcephaaP
namespace Go.Proofs.Ytmoobdljmcephaa
open Go.RowKit
set_option linter.unusedVariables false
set_option linter.unusedSimpArgs false

theorem wraps_u64 (n : Int) (h0 : 0 ≤ n) (h1 : n < 2 ^ 64) : IntKind.u64.wrap n = n := by
  simp [IntKind.wrap, IntKind.bits, IntKind.signed]
  omega
theorem and_u64 (a b : Nat) (ha : a < 2 ^ 64) (hb : b < 2 ^ 64) : bits .and .u64 (a : Int) (b : Int) = ((a &&& b : Nat) : Int) := (bits_nat .u64 64 (by decide) wraps_u64 a b ha hb).1
theorem or_u64 (a b : Nat) (ha : a < 2 ^ 64) (hb : b < 2 ^ 64) : bits .or .u64 (a : Int) (b : Int) = ((a ||| b : Nat) : Int) := (bits_nat .u64 64 (by decide) wraps_u64 a b ha hb).2

theorem m85 : msk 85 8 = 6148914691236517205 := by decide
theorem m51 : msk 51 8 = 3689348814741910323 := by decide
theorem m15 : msk 15 8 = 1085102592571150095 := by decide

theorem q1 (x : Nat) (hx : x < 2 ^ 64) : IntKind.u64.wrap (bits .and .u64 ((x : Int) / 2) 6148914691236517205 + bits .and .u64 (x : Int) 6148914691236517205) = ((s1 8 x : Nat) : Int) := by
  have h1 := and_u64 (x / 2) (msk 85 8) (by omega) (by rw [m85]; omega)
  have h2 := and_u64 x (msk 85 8) hx (by rw [m85]; omega)
  rw [m85] at h1 h2
  rw [show (((6148914691236517205 : Nat)) : Int) = 6148914691236517205 from rfl] at h1 h2
  rw [show (x : Int) / 2 = ((x / 2 : Nat) : Int) from by omega, h1, h2]
  have l1 : x / 2 &&& 6148914691236517205 ≤ 6148914691236517205 := Nat.and_le_right
  have l2 : x &&& 6148914691236517205 ≤ 6148914691236517205 := Nat.and_le_right
  rw [wraps_u64 _ (by omega) (by omega)]
  unfold s1; rw [m85]
  omega
theorem s1_lt (x : Nat) : s1 8 x < 2 ^ 64 := by
  unfold s1; rw [m85]
  have l1 : x / 2 &&& 6148914691236517205 ≤ 6148914691236517205 := Nat.and_le_right
  have l2 : x &&& 6148914691236517205 ≤ 6148914691236517205 := Nat.and_le_right
  omega
theorem q2 (x : Nat) (hx : x < 2 ^ 64) : IntKind.u64.wrap (bits .and .u64 ((x : Int) / 4) 3689348814741910323 + bits .and .u64 (x : Int) 3689348814741910323) = ((s2 8 x : Nat) : Int) := by
  have h1 := and_u64 (x / 4) (msk 51 8) (by omega) (by rw [m51]; omega)
  have h2 := and_u64 x (msk 51 8) hx (by rw [m51]; omega)
  rw [m51] at h1 h2
  rw [show (((3689348814741910323 : Nat)) : Int) = 3689348814741910323 from rfl] at h1 h2
  rw [show (x : Int) / 4 = ((x / 4 : Nat) : Int) from by omega, h1, h2]
  have l1 : x / 4 &&& 3689348814741910323 ≤ 3689348814741910323 := Nat.and_le_right
  have l2 : x &&& 3689348814741910323 ≤ 3689348814741910323 := Nat.and_le_right
  rw [wraps_u64 _ (by omega) (by omega)]
  unfold s2; rw [m51]
  omega
theorem s2_lt (x : Nat) : s2 8 x < 2 ^ 63 := by
  unfold s2; rw [m51]
  have l1 : x / 4 &&& 3689348814741910323 ≤ 3689348814741910323 := Nat.and_le_right
  have l2 : x &&& 3689348814741910323 ≤ 3689348814741910323 := Nat.and_le_right
  omega
theorem q3 (x : Nat) (hx : x < 2 ^ 63) : bits .and .u64 (IntKind.u64.wrap ((x : Int) / 16 + (x : Int))) 1085102592571150095 = ((s3 8 x : Nat) : Int) := by
  have h1 := and_u64 (x / 16 + x) (msk 15 8) (by omega) (by rw [m15]; omega)
  rw [m15] at h1
  rw [show (((1085102592571150095 : Nat)) : Int) = 1085102592571150095 from rfl] at h1
  rw [wraps_u64 _ (by omega) (by omega), show (x : Int) / 16 + (x : Int) = ((x / 16 + x : Nat) : Int) from by omega, h1]
  unfold s3; rw [m15]
theorem s3_lt (x : Nat) : s3 8 x ≤ 1085102592571150095 := by
  unfold s3; rw [m15]
  exact Nat.and_le_right

theorem ones_any (x : Nat) (hx : x < 2 ^ 64) (w : World) : Calls Try.prog 20 #[.int .u64 (x : Nat)] w fun e w' => e = .returned (.int .i64 (pop x : Nat)) ∧ w = w' := by
  have hp := ones_pop x hx
  unfold ones at hp
  simp only [] at hp
  have e1 := q1 x hx
  obtain ⟨y1, hy1⟩ : ∃ y, y = s1 8 x := ⟨_, rfl⟩
  have l1 : y1 < 2 ^ 64 := hy1 ▸ s1_lt x
  rw [← hy1] at e1 hp
  have e2 := q2 y1 l1
  obtain ⟨y2, hy2⟩ : ∃ y, y = s2 8 y1 := ⟨_, rfl⟩
  have l2 : y2 < 2 ^ 63 := hy2 ▸ s2_lt y1
  rw [← hy2] at e2 hp
  have e3 := q3 y2 l2
  obtain ⟨y3, hy3⟩ : ∃ y, y = s3 8 y2 := ⟨_, rfl⟩
  have l3 : y3 ≤ 1085102592571150095 := hy3 ▸ s3_lt y2
  rw [← hy3] at e3 hp
  have e4 : IntKind.u64.wrap ((y3 : Int) + (y3 : Int) / 256) = ((y3 + y3 / 256 : Nat) : Int) := by rw [wraps_u64 _ (by omega) (by omega)]; omega
  have l4 : y3 + y3 / 256 ≤ 2 * 1085102592571150095 := by omega
  obtain ⟨y4, hy4⟩ : ∃ y, y = y3 + y3 / 256 := ⟨_, rfl⟩
  rw [← hy4] at e4 hp l4
  have e5 : IntKind.u64.wrap ((y4 : Int) + (y4 : Int) / 65536) = ((y4 + y4 / 65536 : Nat) : Int) := by rw [wraps_u64 _ (by omega) (by omega)]; omega
  have l5 : y4 + y4 / 65536 ≤ 3 * 1085102592571150095 := by omega
  obtain ⟨y5, hy5⟩ : ∃ y, y = y4 + y4 / 65536 := ⟨_, rfl⟩
  rw [← hy5] at e5 hp l5
  have e6 : IntKind.u64.wrap ((y5 : Int) + (y5 : Int) / 4294967296) = ((y5 + y5 / 4294967296 : Nat) : Int) := by rw [wraps_u64 _ (by omega) (by omega)]; omega
  have l6 : y5 + y5 / 4294967296 ≤ 4 * 1085102592571150095 := by omega
  obtain ⟨y6, hy6⟩ : ∃ y, y = y5 + y5 / 4294967296 := ⟨_, rfl⟩
  rw [← hy6] at e6 hp l6
  have e7 : bits .and .i64 (wrap64 (y6 : Int)) 127 = ((pop x : Nat) : Int) := by
    have := bits_mask .i64 63 (by decide) (fun n h0 h1 => by rw [IntKind.wrap_i64]; omega) 7 (by decide) (y6 : Int) (by omega) (by omega)
    rw [show ((2 : Int) ^ 7 - 1) = 127 from rfl, show ((2 : Int) ^ 7) = 128 from rfl] at this
    rw [show wrap64 (y6 : Int) = y6 from by unfold wrap64; omega, this, ← hp]
    omega
  clear l1 l2 l3 l4 l5 l6 hy1 hy2 hy3 hy4 hy5 hy6 hp hx
  go_enter Try.func20, Try.ntmps20
  go_wp2
  go_ret
  exact ⟨rfl, rfl⟩
end Go.Proofs.Ytmoobdljmcephaa
