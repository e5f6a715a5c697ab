/- The order of floats by their bits: what compares less has the lesser key. (No program in sight.) -/
import Derived.Test.YtlahjieodcoecaaG
namespace Go.Proofs.Ytlahjieodcoecaa
set_option linter.unusedVariables false

/-- A finite word's magnitude, in units of the least place. -/
def vr (r : Nat) : Nat := if r < 4503599627370496 then r else (4503599627370496 + r % 4503599627370496) * 2 ^ (r / 4503599627370496 - 1)

theorem vr_mono (r s : Nat) (h : r < s) : vr r < vr s := by
  unfold vr
  by_cases h1 : s < 4503599627370496
  · rw [if_pos h1, if_pos (by omega)]; exact h
  · rw [if_neg h1]
    have hp : 0 < 2 ^ (s / 4503599627370496 - 1) := Nat.two_pow_pos _
    by_cases h2 : r < 4503599627370496
    · rw [if_pos h2]
      have : (4503599627370496 + s % 4503599627370496) * 1 ≤ (4503599627370496 + s % 4503599627370496) * 2 ^ (s / 4503599627370496 - 1) := Nat.mul_le_mul_left _ hp
      omega
    · rw [if_neg h2]
      by_cases h3 : r / 4503599627370496 = s / 4503599627370496
      · rw [h3]
        exact Nat.mul_lt_mul_of_pos_right (by omega) hp
      · have hq : r / 4503599627370496 - 1 + 1 ≤ s / 4503599627370496 - 1 := by omega
        have h4 : 2 ^ (r / 4503599627370496 - 1 + 1) ≤ 2 ^ (s / 4503599627370496 - 1) := Nat.pow_le_pow_right (by omega) hq
        have h5 : (4503599627370496 + r % 4503599627370496) * 2 ^ (r / 4503599627370496 - 1) < 9007199254740992 * 2 ^ (r / 4503599627370496 - 1) := Nat.mul_lt_mul_of_pos_right (by omega) (Nat.two_pow_pos _)
        have h6 : 4503599627370496 * 2 ^ (r / 4503599627370496 - 1 + 1) ≤ (4503599627370496 + s % 4503599627370496) * 2 ^ (s / 4503599627370496 - 1) := Nat.mul_le_mul (by omega) h4
        rw [Nat.pow_succ] at h6
        omega

/-- A finite word: its magnitude and its place. -/
theorem read_vr (b : Nat) (hb : b < 18446744073709551616) (hf : rung b < 9218868437227405312) :
    ∃ (m k : Nat), FloatKind.f64.format.read b = .number (sB b) m (-1074 + (k : Int)) ∧ m * 2 ^ k = vr (rung b) := by
  rw [read_eq b hb]
  unfold vr
  by_cases h1 : rung b < 4503599627370496
  · rw [if_pos h1, if_pos h1]
    exact ⟨_, 0, rfl, by simp⟩
  · rw [if_neg h1, if_pos hf, if_neg h1]
    exact ⟨_, _, rfl, rfl⟩

def sg (s : Bool) (n : Nat) : Int := if s then -(n : Int) else n

theorem signed_sg (s : Bool) (m k : Nat) : Ieee.signed s m k = sg s (m * 2 ^ k) := by
  unfold Ieee.signed sg
  rw [Nat.shiftLeft_eq]

theorem sg_mul (s : Bool) (n k : Nat) : sg s (n * k) = sg s n * (k : Int) := by
  unfold sg
  cases s <;> simp [Int.neg_mul]

/-- Two finite numbers are ordered as their signed magnitudes. -/
theorem order_num (s t : Bool) (m n k j : Nat) : Ieee.Datum.order (.number s m (-1074 + (k : Int))) (.number t n (-1074 + (j : Int))) = some (compare (sg s (m * 2 ^ k)) (sg t (n * 2 ^ j))) := by
  simp only [Ieee.Datum.order]
  congr 1
  obtain ⟨c, hc⟩ : ∃ c, c = min k j := ⟨_, rfl⟩
  rw [show ((-1074 : Int) + (k : Int) - min (-1074 + (k : Int)) (-1074 + (j : Int))).toNat = k - c from by omega]
  rw [show ((-1074 : Int) + (j : Int) - min (-1074 + (k : Int)) (-1074 + (j : Int))).toNat = j - c from by omega]
  rw [signed_sg, signed_sg]
  have e1 : m * 2 ^ k = m * 2 ^ (k - c) * 2 ^ c := by rw [Nat.mul_assoc, ← Nat.pow_add, show k - c + c = k from by omega]
  have e2 : n * 2 ^ j = n * 2 ^ (j - c) * 2 ^ c := by rw [Nat.mul_assoc, ← Nat.pow_add, show j - c + c = j from by omega]
  rw [e1, e2, sg_mul s (m * 2 ^ (k - c)) (2 ^ c), sg_mul t (n * 2 ^ (j - c)) (2 ^ c)]
  generalize sg s (m * 2 ^ (k - c)) = x
  generalize sg t (n * 2 ^ (j - c)) = y
  have hp : (0 : Int) < ((2 ^ c : Nat) : Int) := by have := Nat.two_pow_pos c; omega
  generalize ((2 ^ c : Nat) : Int) = p at hp
  rcases Int.lt_trichotomy x y with h | h | h
  · rw [Int.compare_eq_lt.2 h, Int.compare_eq_lt.2 (Int.mul_lt_mul_of_pos_right h hp)]
  · subst h; rw [Int.compare_eq_eq.2 rfl, Int.compare_eq_eq.2 rfl]
  · rw [Int.compare_eq_gt.2 h, Int.compare_eq_gt.2 (Int.mul_lt_mul_of_pos_right h hp)]

theorem key_num (b : Nat) (hb : b < 18446744073709551616) (hf : rung b ≤ 9218868437227405312) : key b = if sB b then 9223372036854775807 - (rung b : Int) else 9223372036854775808 + (rung b : Int) := by
  unfold key
  rw [fN_eq b hb, if_neg (by simp; omega)]
  unfold sB rung
  by_cases h : 9223372036854775808 ≤ b
  · simp only [h, decide_true, if_true]; omega
  · simp only [h, decide_false, Bool.false_eq_true, if_false]; omega

theorem read_inf' (b : Nat) (hb : b < 18446744073709551616) (h : rung b = 9218868437227405312) : FloatKind.f64.format.read b = .infinity (sB b) := by
  rw [read_eq b hb, if_neg (by omega), if_neg (by omega), if_pos h]
theorem read_nan' (b : Nat) (hb : b < 18446744073709551616) (h : 9218868437227405312 < rung b) : ∃ s f, FloatKind.f64.format.read b = .nan s f := by
  rw [read_eq b hb, if_neg (by omega), if_neg (by omega), if_neg (by omega)]
  exact ⟨_, _, rfl⟩

/-- What compares less has the lesser key. -/
theorem lt_key (a b : Nat) (ha : a < 18446744073709551616) (hb : b < 18446744073709551616) (h : FloatKind.f64.format.order a b = some .lt) : key a < key b := by
  unfold Ieee.Format.order at h
  by_cases na : 9218868437227405312 < rung a
  · obtain ⟨s, f, e⟩ := read_nan' a ha na
    rw [e] at h; simp [Ieee.Datum.order] at h
  by_cases nb : 9218868437227405312 < rung b
  · obtain ⟨s, f, e⟩ := read_nan' b hb nb
    rw [e] at h
    cases hr : FloatKind.f64.format.read a <;> rw [hr] at h <;> simp [Ieee.Datum.order] at h
  rw [key_num a ha (by omega), key_num b hb (by omega)]
  by_cases ia : rung a = 9218868437227405312
  · rw [read_inf' a ha ia] at h
    by_cases ib : rung b = 9218868437227405312
    · rw [read_inf' b hb ib] at h
      cases hs : sB a <;> cases ht : sB b <;> rw [hs, ht] at h <;> simp [Ieee.Datum.order] at h ⊢ <;> first | omega | exact absurd h (by decide)
    · obtain ⟨m, k, e, _⟩ := read_vr b hb (by omega)
      rw [e] at h
      cases hs : sB a <;> cases ht : sB b <;> rw [hs, ht] at h <;> simp [Ieee.Datum.order] at h ⊢ <;> omega
  · obtain ⟨m, k, e, hm⟩ := read_vr a ha (by omega)
    rw [e] at h
    by_cases ib : rung b = 9218868437227405312
    · rw [read_inf' b hb ib] at h
      cases hs : sB a <;> cases ht : sB b <;> rw [hs, ht] at h <;> simp [Ieee.Datum.order] at h ⊢ <;> omega
    · obtain ⟨n, j, e', hn⟩ := read_vr b hb (by omega)
      rw [e', order_num, hm, hn] at h
      have h := Int.compare_eq_lt.1 (Option.some.inj h)
      cases hs : sB a <;> cases ht : sB b <;> rw [hs, ht] at h <;> simp [sg] at h ⊢
      · apply Classical.byContradiction; intro hc
        rcases Nat.lt_or_eq_of_le (show rung b ≤ rung a by omega) with q | q
        · have := vr_mono _ _ q; omega
        · rw [q] at h; omega
      · omega
      · omega
      · apply Classical.byContradiction; intro hc
        rcases Nat.lt_or_eq_of_le (show rung a ≤ rung b by omega) with q | q
        · have := vr_mono _ _ q; omega
        · rw [q] at h; omega
end Go.Proofs.Ytlahjieodcoecaa
