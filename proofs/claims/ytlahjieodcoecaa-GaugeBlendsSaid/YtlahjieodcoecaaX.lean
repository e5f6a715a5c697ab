/- Exact arithmetic on floats that stand for whole numbers below 2^53. (No program in sight.) -/
import Derived.Test.YtlahjieodcoecaaO
import Derived.Test.YtlahjieodcoecaaC2
namespace Go.Proofs.Ytlahjieodcoecaa
set_option linter.unusedVariables false

theorem cut_zero (n : Nat) : Ieee.Toward.even.cut false n 0 = n := by
  unfold Ieee.Toward.cut
  simp [Nat.mod_one]
theorem cut_exact (s d : Nat) (hs : 0 < s) : Ieee.Toward.even.cut false (s * 2 ^ d) d = s := by
  unfold Ieee.Toward.cut
  have hl : d ≤ (s * 2 ^ d).log2 := by
    rw [Nat.le_log2 (by have := Nat.two_pow_pos d; exact Nat.ne_of_gt (Nat.mul_pos hs this))]
    exact Nat.le_mul_of_pos_left _ hs
  simp only [Nat.min_eq_left (show d ≤ (s * 2 ^ d).log2 + 2 by omega), Nat.shiftLeft_eq, Nat.one_mul, Nat.mul_mod_left, Nat.mul_div_cancel _ (Nat.two_pow_pos d)]
  have := Nat.two_pow_pos d
  simp

/-- A number that the format has is written as it stands: s * 2^e units (of the least place), 's' below 2^53, and at least 2^52 if e is above 0. -/
theorem near_exact (mag A B s e : Nat) (place : Int) (hp : (A : Int) - B = place + 1074) (hs : 0 < s) (hs1 : s < 9007199254740992) (he : e = 0 ∨ 4503599627370496 ≤ s) (heq : mag * 2 ^ A = s * 2 ^ (e + B)) (htop : e * 4503599627370496 + s ≤ 9218868437227405312) :
    FloatKind.f64.format.nearest false mag place = e * 4503599627370496 + s := by
  have hmag : mag ≠ 0 := by
    intro h; rw [h, Nat.zero_mul] at heq
    have := Nat.mul_pos hs (Nat.two_pow_pos (e + B)); omega
  obtain ⟨L, hL⟩ : ∃ L, L = mag.log2 := ⟨_, rfl⟩
  have hL1 : 2 ^ L ≤ mag := hL ▸ Nat.log2_self_le hmag
  have hL2 : mag < 2 ^ (L + 1) := hL ▸ Nat.lt_log2_self
  have up : L + A < 53 + (e + B) := by
    have h1 : 2 ^ (L + A) < 2 ^ (53 + (e + B)) := by
      rw [Nat.pow_add, Nat.pow_add]
      calc 2 ^ L * 2 ^ A ≤ mag * 2 ^ A := Nat.mul_le_mul_right _ hL1
        _ = s * 2 ^ (e + B) := heq
        _ < 2 ^ 53 * 2 ^ (e + B) := Nat.mul_lt_mul_of_pos_right hs1 (Nat.two_pow_pos _)
    exact (Nat.pow_lt_pow_iff_right (by omega)).1 h1
  have hlast : max (place + (L : Int) - (52 : Nat)) (-1074) = (e : Int) - 1074 := by
    rcases he with rfl | he
    · omega
    · have lo : 52 + (e + B) < L + 1 + A := by
        have h1 : 2 ^ (52 + (e + B)) < 2 ^ (L + 1 + A) := by
          rw [Nat.pow_add, Nat.pow_add 2 (L + 1)]
          calc 2 ^ 52 * 2 ^ (e + B) ≤ s * 2 ^ (e + B) := Nat.mul_le_mul_right _ he
            _ = mag * 2 ^ A := heq.symm
            _ < 2 ^ (L + 1) * 2 ^ A := Nat.mul_lt_mul_of_pos_right hL2 (Nat.two_pow_pos _)
        exact (Nat.pow_lt_pow_iff_right (by omega)).1 h1
      omega
  unfold Ieee.Format.nearest
  rw [if_neg hmag]
  simp only [infR, binW, leastP]
  rw [← hL, show FloatKind.f64.format.fractionBits = 52 from rfl, hlast]
  have hk : Ieee.Toward.even.cut false (mag <<< (place - ((e : Int) - 1074)).toNat) ((e : Int) - 1074 - place).toNat = s := by
    by_cases h : e + B ≤ A
    · rw [show ((e : Int) - 1074 - place).toNat = 0 from by omega, cut_zero, show (place - ((e : Int) - 1074)).toNat = A - (e + B) from by omega, Nat.shiftLeft_eq]
      have h2 : mag * 2 ^ (A - (e + B)) * 2 ^ (e + B) = s * 2 ^ (e + B) := by rw [Nat.mul_assoc, ← Nat.pow_add, show A - (e + B) + (e + B) = A from by omega]; exact heq
      exact Nat.eq_of_mul_eq_mul_right (Nat.two_pow_pos _) h2
    · rw [show (place - ((e : Int) - 1074)).toNat = 0 from by omega, Nat.shiftLeft_zero, show ((e : Int) - 1074 - place).toNat = e + B - A from by omega]
      have h2 : mag * 2 ^ A = s * 2 ^ (e + B - A) * 2 ^ A := by rw [heq, Nat.mul_assoc, ← Nat.pow_add, show e + B - A + A = e + B from by omega]
      have h3 := Nat.eq_of_mul_eq_mul_right (Nat.two_pow_pos _) h2
      rw [h3, cut_exact s _ hs]
  rw [hk]
  simp only [Ieee.Format.word, Bool.false_eq_true, if_false]
  rw [show ((e : Int) - 1074 - -1074).toNat = e from by omega]
  exact Nat.min_eq_left htop

/-- The float of a whole number. -/
def fl (k : Nat) : Nat := floatOfInt .f64 (k : Int)
theorem fl_near (k : Nat) : fl k = FloatKind.f64.format.nearest false k 0 := by
  have e : fl k = FloatKind.f64.format.nearest (decide ((k : Int) < 0)) (k : Int).natAbs 0 := rfl
  rw [e, show decide ((k : Int) < 0) = false from by simp]
  rfl

theorem fl_eq (k : Nat) (h0 : 0 < k) (h1 : k < 9007199254740992) : ∃ s e : Nat, fl k = e * 4503599627370496 + s ∧ 4503599627370496 ≤ s ∧ s < 9007199254740992 ∧ e ≤ 1074 ∧ s * 2 ^ e = k * 2 ^ 1074 := by
  obtain ⟨L, hL⟩ : ∃ L, L = k.log2 := ⟨_, rfl⟩
  have hL1 : 2 ^ L ≤ k := hL ▸ Nat.log2_self_le (by omega)
  have hL2 : k < 2 ^ (L + 1) := hL ▸ Nat.lt_log2_self
  have hL3 : L ≤ 52 := by
    have : L < 53 := (Nat.pow_lt_pow_iff_right (a := 2) (by omega)).1 (Nat.lt_of_le_of_lt hL1 h1)
    omega
  have s1 : 4503599627370496 ≤ k * 2 ^ (52 - L) := by
    have h := Nat.mul_le_mul_right (2 ^ (52 - L)) hL1
    rw [← Nat.pow_add, show L + (52 - L) = 52 from by omega] at h
    exact h
  have s2 : k * 2 ^ (52 - L) < 9007199254740992 := by
    have h := Nat.mul_lt_mul_of_pos_right hL2 (Nat.two_pow_pos (52 - L))
    rw [← Nat.pow_add, show L + 1 + (52 - L) = 53 from by omega] at h
    exact h
  have s3 : k * 2 ^ (52 - L) * 2 ^ (1022 + L) = k * 2 ^ 1074 := by rw [Nat.mul_assoc, ← Nat.pow_add, show 52 - L + (1022 + L) = 1074 from by omega]
  refine ⟨k * 2 ^ (52 - L), 1022 + L, ?_, s1, s2, by omega, s3⟩
  rw [fl_near]
  exact near_exact k 1074 0 _ (1022 + L) 0 (by omega) (by omega) s2 (.inr s1) (by rw [Nat.add_zero, s3]) (by omega)

theorem fl_vr (k : Nat) (h0 : 0 < k) (h1 : k < 9007199254740992) : fl k < 9218868437227405312 ∧ 0 < fl k ∧ vr (fl k) = k * 2 ^ 1074 := by
  obtain ⟨s, e, h, s1, s2, he, hv⟩ := fl_eq k h0 h1
  rw [h]
  refine ⟨by omega, by omega, ?_⟩
  unfold vr
  rw [if_neg (by omega), show (e * 4503599627370496 + s) / 4503599627370496 - 1 = e from by omega, show 4503599627370496 + (e * 4503599627370496 + s) % 4503599627370496 = s from by omega]
  exact hv

theorem rung_pos (b : Nat) (h : b < 9223372036854775808) : rung b = b ∧ sB b = false := ⟨by unfold rung; omega, by unfold sB; simp; omega⟩

theorem read_pos (b : Nat) (h : b < 9218868437227405312) : ∃ m k : Nat, FloatKind.f64.format.read b = .number false m (-1074 + (k : Int)) ∧ m * 2 ^ k = vr b := by
  obtain ⟨r, s⟩ := rung_pos b (by omega)
  have := read_vr b (by omega) (by omega)
  rwa [r, s] at this

theorem fm_fl (a b : Nat) (ha : 0 < a) (hb : 0 < b) (h : a * b < 9007199254740992) : fm (fl a) (fl b) = fl (a * b) := by
  have ha1 : a < 9007199254740992 := Nat.lt_of_le_of_lt (Nat.le_mul_of_pos_right _ hb) h
  have hb1 : b < 9007199254740992 := Nat.lt_of_le_of_lt (Nat.le_mul_of_pos_left _ ha) h
  obtain ⟨a1, _, av⟩ := fl_vr a ha ha1
  obtain ⟨b1, _, bv⟩ := fl_vr b hb hb1
  obtain ⟨m, i, e1, v1⟩ := read_pos _ a1
  obtain ⟨n, j, e2, v2⟩ := read_pos _ b1
  obtain ⟨s, e, hs, s1, s2, he, hv⟩ := fl_eq (a * b) (Nat.mul_pos ha hb) h
  rw [hs]
  unfold fm Ieee.Format.mul
  simp only [e1, e2, Ieee.Datum.product, Option.map, Option.getD, Ieee.Format.write]
  rw [av] at v1
  rw [bv] at v2
  refine near_exact (m * n) (i + j) 1074 s e _ (by omega) (by omega) s2 (.inr s1) ?_ (by omega)
  rw [Nat.pow_add 2 e 1074, Nat.pow_add 2 i j]
  generalize 2 ^ 1074 = T at v1 v2 hv
  rw [show s * (2 ^ e * T) = (s * 2 ^ e) * T from by rw [Nat.mul_assoc], hv, show m * n * (2 ^ i * 2 ^ j) = (m * 2 ^ i) * (n * 2 ^ j) from by ac_rfl, v1, v2]
  ac_rfl

theorem fa_fl (a b : Nat) (ha : 0 < a) (hb : 0 < b) (h : a + b < 9007199254740992) : fa (fl a) (fl b) = fl (a + b) := by
  obtain ⟨a1, _, av⟩ := fl_vr a ha (by omega)
  obtain ⟨b1, _, bv⟩ := fl_vr b hb (by omega)
  obtain ⟨m, i, e1, v1⟩ := read_pos _ a1
  obtain ⟨n, j, e2, v2⟩ := read_pos _ b1
  obtain ⟨s, e, hs, s1, s2, he, hv⟩ := fl_eq (a + b) (by omega) h
  rw [hs]
  unfold fa Ieee.Format.add
  simp only [e1, e2, Ieee.Datum.sum, Option.map, Option.getD, Ieee.Format.write]
  rw [av] at v1
  rw [bv] at v2
  rw [sum_sign]
  obtain ⟨c, hc⟩ : ∃ c, c = min i j := ⟨_, rfl⟩
  rw [show ((-1074 : Int) + (i : Int) - min (-1074 + (i : Int)) (-1074 + (j : Int))).toNat = i - c from by omega]
  rw [show ((-1074 : Int) + (j : Int) - min (-1074 + (i : Int)) (-1074 + (j : Int))).toNat = j - c from by omega]
  rw [show min (-1074 + (i : Int)) (-1074 + (j : Int)) = -1074 + (c : Int) from by omega]
  rw [show (Ieee.signed false m (i - c) + Ieee.signed false n (j - c)).natAbs = m * 2 ^ (i - c) + n * 2 ^ (j - c) from by
    rw [signed_pos, signed_pos, Nat.shiftLeft_eq, Nat.shiftLeft_eq, ← Int.natCast_add, Int.natAbs_natCast]]
  refine near_exact _ c 0 s e _ (by omega) (by omega) s2 (.inr s1) ?_ (by omega)
  rw [Nat.add_zero, hv, Nat.add_mul, Nat.mul_assoc, Nat.mul_assoc, ← Nat.pow_add, ← Nat.pow_add, show i - c + c = i from by omega, show j - c + c = j from by omega, v1, v2, Nat.add_mul]

/-- Words that are no less than nought stand as their bits. -/
theorem order_pos (b c : Nat) (hb : b ≤ 9218868437227405312) (hc : c ≤ 9218868437227405312) : FloatKind.f64.format.order b c = some (compare b c) := by
  unfold Ieee.Format.order
  by_cases h1 : b < 9218868437227405312
  · obtain ⟨m, i, e1, v1⟩ := read_pos b h1
    by_cases h2 : c < 9218868437227405312
    · obtain ⟨n, j, e2, v2⟩ := read_pos c h2
      rw [e1, e2, order_num, v1, v2]
      congr 1
      show compare ((vr b : Nat) : Int) ((vr c : Nat) : Int) = _
      rcases Nat.lt_trichotomy b c with h | h | h
      · rw [Nat.compare_eq_lt.2 h, Int.compare_eq_lt.2 (by have := vr_mono _ _ h; omega)]
      · subst h; rw [Int.compare_eq_eq.2 rfl, Nat.compare_eq_eq.2 rfl]
      · rw [Nat.compare_eq_gt.2 h, Int.compare_eq_gt.2 (by have := vr_mono _ _ h; omega)]
    · obtain rfl : c = 9218868437227405312 := by omega
      rw [e1, read_inf, Nat.compare_eq_lt.2 h1]
      rfl
  · obtain rfl : b = 9218868437227405312 := by omega
    by_cases h2 : c < 9218868437227405312
    · obtain ⟨n, j, e2, v2⟩ := read_pos c h2
      rw [e2, read_inf, Nat.compare_eq_gt.2 h2]
      rfl
    · obtain rfl : c = 9218868437227405312 := by omega
      rw [read_inf, Nat.compare_eq_eq.2 rfl]
      rfl

theorem fl_mono (a b : Nat) (ha : 0 < a) (ha1 : a < 9007199254740992) (hb : 0 < b) (hb1 : b < 9007199254740992) (h : a < b) : fl a < fl b := by
  obtain ⟨_, _, av⟩ := fl_vr a ha ha1
  obtain ⟨_, _, bv⟩ := fl_vr b hb hb1
  apply Classical.byContradiction; intro hc
  have hle : vr (fl b) ≤ vr (fl a) := by
    rcases Nat.lt_or_eq_of_le (show fl b ≤ fl a by omega) with q | q
    · exact Nat.le_of_lt (vr_mono _ _ q)
    · rw [q]; exact Nat.le_refl _
  rw [av, bv] at hle
  have := Nat.le_of_mul_le_mul_right hle (Nat.two_pow_pos 1074)
  omega

theorem fl_big (b : Nat) (h0 : 9007199254740992 ≤ b) (h1 : b < 18446744073709551616) : 4845873199050653696 ≤ fl b := by
  rw [fl_near]
  unfold Ieee.Format.nearest
  rw [if_neg (by omega)]
  obtain ⟨L, hL⟩ : ∃ L, L = b.log2 := ⟨_, rfl⟩
  have hL1 : 2 ^ L ≤ b := hL ▸ Nat.log2_self_le (by omega)
  have hL2 : b < 2 ^ (L + 1) := hL ▸ Nat.lt_log2_self
  have hL3 : 53 ≤ L := by
    have h : 2 ^ 53 < 2 ^ (L + 1) := Nat.lt_of_le_of_lt h0 hL2
    have := (Nat.pow_lt_pow_iff_right (a := 2) (by omega)).1 h
    omega
  simp only [infR, binW, leastP]
  rw [← hL, show FloatKind.f64.format.fractionBits = 52 from rfl]
  rw [show max (0 + (L : Int) - (52 : Nat)) (-1074) = (L : Int) - 52 from by omega]
  rw [show ((L : Int) - 52 - -1074).toNat = L + 1022 from by omega, show (0 - ((L : Int) - 52)).toNat = 0 from by omega, Nat.shiftLeft_zero, show ((L : Int) - 52 - 0).toNat = L - 52 from by omega]
  have hc : 4503599627370496 ≤ Ieee.Toward.even.cut false b (L - 52) := by
    unfold Ieee.Toward.cut
    simp only []
    rw [← hL, Nat.min_eq_left (by omega), Nat.shiftLeft_eq, Nat.one_mul]
    have : 4503599627370496 ≤ b / 2 ^ (L - 52) := by
      rw [Nat.le_div_iff_mul_le (Nat.two_pow_pos _), show 4503599627370496 = 2 ^ 52 from rfl, ← Nat.pow_add, show 52 + (L - 52) = L from by omega]
      exact hL1
    omega
  simp only [Ieee.Format.word, Bool.false_eq_true, if_false]
  refine Nat.le_min.2 ⟨by omega, by omega⟩

theorem fl_le (a b : Nat) (ha : 0 < a) (ha1 : a < 9007199254740992) (hb1 : b < 18446744073709551616) : fl a ≤ fl b ↔ a ≤ b := by
  by_cases hb : b = 0
  · subst hb
    have h0 : fl 0 = 0 := by decide +kernel
    have := (fl_vr a ha ha1).2.1
    omega
  · by_cases h : b < 9007199254740992
    · constructor
      · intro h'
        apply Classical.byContradiction; intro hc
        have := fl_mono b a (by omega) h ha ha1 (by omega)
        omega
      · intro h'
        rcases Nat.lt_or_eq_of_le h' with q | q
        · exact Nat.le_of_lt (fl_mono a b ha ha1 (by omega) h q)
        · rw [q]; exact Nat.le_refl _
    · have h2 := fl_big b (by omega) hb1
      obtain ⟨s, e, hs, s1, s2, he, hv⟩ := fl_eq a ha ha1
      constructor
      · intro; omega
      · intro; rw [hs]; omega
end Go.Proofs.Ytlahjieodcoecaa
