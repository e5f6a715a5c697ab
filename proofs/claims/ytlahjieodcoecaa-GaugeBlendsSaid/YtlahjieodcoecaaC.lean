/- gauge.Costs, gauge.Choose: what they compute, for every case (the walk). -/
import Derived.Test.YtlahjieodcoecaaL
namespace Go.Proofs.Ytlahjieodcoecaa
open Go.RowKit
set_option linter.unusedVariables false

def fm (x y : Nat) : Nat := (FloatKind.f64.format.mul x y).getD 0
def fa (x y : Nat) : Nat := (FloatKind.f64.format.add x y).getD 0

theorem near_pos (mag : Nat) (place : Int) : FloatKind.f64.format.nearest false mag place ≤ 9218868437227405312 := by
  unfold Ieee.Format.nearest
  simp only [infR]
  split
  · simp [Ieee.Format.word]
  · simp only [Ieee.Format.word, Bool.false_eq_true, if_false]; exact Nat.min_le_right _ _

theorem read_fin (x : Nat) (h : x < 9218868437227405312) : ∃ m i, FloatKind.f64.format.read x = .number false m i ∧ (0 < x → 0 < m) := by
  rw [read_eq x (by omega)]
  have hs : sB x = false := by unfold sB; simp; omega
  have hr : rung x = x := by unfold rung; omega
  rw [hs, hr]
  by_cases h1 : x < 4503599627370496
  · rw [if_pos h1]; exact ⟨_, _, rfl, fun h => h⟩
  · rw [if_neg h1, if_pos h]; exact ⟨_, _, rfl, fun h => by omega⟩
theorem read_inf : FloatKind.f64.format.read 9218868437227405312 = .infinity false := by decide +kernel

theorem mul_fin (x y : Nat) (hx : x < 9218868437227405312) (hy : y < 9218868437227405312) : floatBits .mul .f64 x y = some (fm x y) ∧ fm x y ≤ 9218868437227405312 := by
  obtain ⟨m, i, e1, _⟩ := read_fin x hx
  obtain ⟨n, j, e2, _⟩ := read_fin y hy
  unfold fm floatBits Ieee.Format.mul
  simp only [e1, e2, Ieee.Datum.product, Option.map, Option.getD, Ieee.Format.write]
  exact ⟨trivial, near_pos _ _⟩
theorem mul_pos' (x y : Nat) (hx : x < 9218868437227405312) (h0 : 0 < x) (hy : y ≤ 9218868437227405312) : floatBits .mul .f64 x y = some (fm x y) ∧ fm x y ≤ 9218868437227405312 := by
  by_cases h : y < 9218868437227405312
  · exact mul_fin x y hx h
  · obtain rfl : y = 9218868437227405312 := by omega
    obtain ⟨m, i, e1, hm⟩ := read_fin x hx
    have hm := hm h0
    unfold fm floatBits Ieee.Format.mul
    have hm' : m ≠ 0 := by omega
    simp only [e1, read_inf, Ieee.Datum.product, hm', if_false, Option.map, Option.getD, Ieee.Format.write]
    exact ⟨trivial, by decide +kernel⟩
theorem signed_pos (m n : Nat) : Ieee.signed false m n = ((m <<< n : Nat) : Int) := rfl
theorem sum_sign (m a n b : Nat) : (if Ieee.signed false m a + Ieee.signed false n b = 0 then (false && false) else decide (Ieee.signed false m a + Ieee.signed false n b < 0)) = false := by
  have h1 : 0 ≤ Ieee.signed false m a := by rw [signed_pos]; exact Int.natCast_nonneg _
  have h2 : 0 ≤ Ieee.signed false n b := by rw [signed_pos]; exact Int.natCast_nonneg _
  split
  · rfl
  · simp; omega
theorem add_pos' (x y : Nat) (hx : x ≤ 9218868437227405312) (hy : y ≤ 9218868437227405312) : floatBits .add .f64 x y = some (fa x y) ∧ fa x y ≤ 9218868437227405312 := by
  unfold fa floatBits Ieee.Format.add
  by_cases h : x < 9218868437227405312
  · obtain ⟨m, i, e1, _⟩ := read_fin x h
    by_cases k : y < 9218868437227405312
    · obtain ⟨n, j, e2, _⟩ := read_fin y k
      simp only [e1, e2, Ieee.Datum.sum, Option.map, Option.getD, Ieee.Format.write]
      refine ⟨trivial, ?_⟩
      rw [sum_sign]
      exact near_pos _ _
    · obtain rfl : y = 9218868437227405312 := by omega
      simp only [e1, read_inf, Ieee.Datum.sum, Option.map, Option.getD, Ieee.Format.write]
      exact ⟨trivial, by decide +kernel⟩
  · obtain rfl : x = 9218868437227405312 := by omega
    by_cases k : y < 9218868437227405312
    · obtain ⟨n, j, e2, _⟩ := read_fin y k
      simp only [e2, read_inf, Ieee.Datum.sum, Option.map, Option.getD, Ieee.Format.write]
      exact ⟨trivial, by decide +kernel⟩
    · obtain rfl : y = 9218868437227405312 := by omega
      exact ⟨by decide +kernel, by decide +kernel⟩

theorem cut_le (neg : Bool) (n drop : Nat) : Ieee.Toward.even.cut neg n drop ≤ n / (1 <<< min drop (n.log2 + 2)) + 1 := by
  unfold Ieee.Toward.cut
  simp only []
  generalize (decide (1 <<< min drop (n.log2 + 2) < 2 * (n % 1 <<< min drop (n.log2 + 2))) || _) = q
  cases q <;> simp

theorem near_fin (k : Nat) (hk : k < 18446744073709551616) : FloatKind.f64.format.nearest false k 0 < 9218868437227405312 := by
  unfold Ieee.Format.nearest
  simp only [infR, binW, leastP]
  split
  · simp [Ieee.Format.word]
  · rename_i h0
    have hL : k.log2 < 64 := (Nat.log2_lt h0).2 hk
    have hk2 : k < 2 ^ (k.log2 + 1) := Nat.lt_log2_self
    simp only [Ieee.Format.word, Bool.false_eq_true, if_false]
    have hfb : FloatKind.f64.format.fractionBits = 52 := rfl
    rw [hfb]
    have hc := cut_le false (k <<< (0 - max (0 + (k.log2 : Int) - (52 : Nat)) (-1074)).toNat) (max (0 + (k.log2 : Int) - (52 : Nat)) (-1074) - 0).toNat
    have hb : (k <<< (0 - max (0 + (k.log2 : Int) - (52 : Nat)) (-1074)).toNat) / (1 <<< min (max (0 + (k.log2 : Int) - (52 : Nat)) (-1074) - 0).toNat ((k <<< (0 - max (0 + (k.log2 : Int) - (52 : Nat)) (-1074)).toNat).log2 + 2)) < 9007199254740992 := by
      generalize hL' : k.log2 = L at hk2 hL ⊢
      by_cases hs : L ≤ 52
      · rw [show (0 - max (0 + (L : Int) - (52 : Nat)) (-1074)).toNat = 52 - L from by omega, show (max (0 + (L : Int) - (52 : Nat)) (-1074) - 0).toNat = 0 from by omega]
        rw [Nat.zero_min, Nat.shiftLeft_eq, Nat.shiftLeft_eq]
        have : k * 2 ^ (52 - L) < 2 ^ (L + 1) * 2 ^ (52 - L) := Nat.mul_lt_mul_of_pos_right hk2 (Nat.two_pow_pos _)
        rw [← Nat.pow_add, show L + 1 + (52 - L) = 53 from by omega] at this
        simpa using this
      · rw [show (0 - max (0 + (L : Int) - (52 : Nat)) (-1074)).toNat = 0 from by omega, show (max (0 + (L : Int) - (52 : Nat)) (-1074) - 0).toNat = L - 52 from by omega]
        rw [Nat.shiftLeft_zero, hL', Nat.min_eq_left (by omega), Nat.shiftLeft_eq, Nat.one_mul]
        rw [Nat.div_lt_iff_lt_mul (Nat.two_pow_pos _)]
        rw [show 9007199254740992 = 2 ^ 53 from rfl, ← Nat.pow_add, show 53 + (L - 52) = L + 1 from by omega]
        exact hk2
    have hp : (max (0 + (k.log2 : Int) - (52 : Nat)) (-1074) - -1074).toNat ≤ 1085 := by omega
    refine Nat.lt_of_le_of_lt (Nat.min_le_left _ _) ?_
    omega

theorem ofInt_fin (n : Int) (h0 : 0 ≤ n) (hk : n < 18446744073709551616) : floatOfInt .f64 n < 9218868437227405312 := by
  have := near_fin n.natAbs (by omega)
  have e : floatOfInt .f64 n = FloatKind.f64.format.nearest (decide (n < 0)) n.natAbs 0 := rfl
  rw [e, show decide (n < 0) = false from by simp; omega]
  exact this
end Go.Proofs.Ytlahjieodcoecaa
