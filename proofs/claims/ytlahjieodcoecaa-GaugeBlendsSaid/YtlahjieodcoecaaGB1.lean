/- How far the rounding of one operation may lead from the exact number. (No program in sight.) -/
import Derived.Test.YtlahjieodcoecaaRO
import Derived.Test.YtlahjieodcoecaaX
namespace Go.Proofs.Ytlahjieodcoecaa
set_option linter.unusedVariables false

theorem cut_bounds (neg : Bool) (n d : Nat) : Ieee.Toward.even.cut neg n d * 2 ^ d ≤ n + 2 ^ d ∧ n < (Ieee.Toward.even.cut neg n d + 1) * 2 ^ d ∧ (n / 2 ^ d ≤ Ieee.Toward.even.cut neg n d ∧ Ieee.Toward.even.cut neg n d ≤ n / 2 ^ d + 1) := by
  unfold Ieee.Toward.cut
  simp only [Nat.shiftLeft_eq, Nat.one_mul]
  by_cases h : d ≤ n.log2 + 2
  · rw [Nat.min_eq_left h]
    have hp := Nat.two_pow_pos d
    have hdm := Nat.div_add_mod n (2 ^ d)
    have hml := Nat.mod_lt n hp
    have hle : ∀ b : Bool, b.toNat ≤ 1 := fun b => by cases b <;> decide
    generalize (decide (2 ^ d < 2 * (n % 2 ^ d)) || 2 ^ d == 2 * (n % 2 ^ d) && n / 2 ^ d % 2 == 1) = m
    have h1 := hle m
    generalize m.toNat = k at h1
    generalize n / 2 ^ d = q at *
    generalize n % 2 ^ d = r at *
    generalize 2 ^ d = g at *
    have e : (q + k) * g = g * q + k * g := by rw [Nat.add_mul, Nat.mul_comm q]
    have e2 : (q + k + 1) * g = g * q + k * g + g := by rw [Nat.add_mul, e, Nat.one_mul]
    have hk : k = 0 ∨ k = 1 := by omega
    rcases hk with rfl | rfl
    · refine ⟨?_, ?_, ?_, ?_⟩
      · rw [e, ← hdm]; simp; omega
      · rw [e2, ← hdm]; simp; omega
      · omega
      · omega
    · refine ⟨?_, ?_, ?_, ?_⟩
      · rw [e, ← hdm]; simp <;> omega
      · rw [e2, ← hdm]; simp; omega
      · omega
      · omega
  · rw [Nat.min_eq_right (by omega)]
    have hlt : n < 2 ^ (n.log2 + 1) := Nat.lt_log2_self
    have h2 : 2 ^ (n.log2 + 2) = 2 * 2 ^ (n.log2 + 1) := by rw [Nat.pow_succ 2 (n.log2 + 1)]; omega
    have h3 : n < 2 ^ d := Nat.lt_of_lt_of_le hlt (Nat.pow_le_pow_right (by omega) (by omega))
    have h4 : n / 2 ^ (n.log2 + 2) = 0 := Nat.div_eq_of_lt (by omega)
    have h5 : n % 2 ^ (n.log2 + 2) = n := Nat.mod_eq_of_lt (by omega)
    rw [h4, h5]
    have h6 : (decide (2 ^ (n.log2 + 2) < 2 * n) || 2 ^ (n.log2 + 2) == 2 * n && 0 % 2 == 1) = false := by
      simp; omega
    rw [h6]
    have h7 : n / 2 ^ d = 0 := Nat.div_eq_of_lt h3
    rw [h7]
    simp
    omega

theorem vr_word (e k : Nat) (h : k ≤ 9007199254740992) (he : e = 0 ∨ 4503599627370496 ≤ k) : vr (e * 4503599627370496 + k) = k * 2 ^ e := by
  unfold vr
  by_cases h0 : e * 4503599627370496 + k < 4503599627370496
  · rw [if_pos h0]
    have : e = 0 := by omega
    subst this
    simp
  · rw [if_neg h0]
    by_cases hk : k = 9007199254740992
    · subst hk
      rw [show (e * 4503599627370496 + 9007199254740992) / 4503599627370496 - 1 = e + 1 by omega, show 4503599627370496 + (e * 4503599627370496 + 9007199254740992) % 4503599627370496 = 4503599627370496 by omega, Nat.pow_succ]
      omega
    · have hk1 : 4503599627370496 ≤ k := by omega
      rw [show (e * 4503599627370496 + k) / 4503599627370496 - 1 = e by omega, show 4503599627370496 + (e * 4503599627370496 + k) % 4503599627370496 = k by omega]

/-- The error of one rounding, in units of the least place times 2^B. -/
theorem near_err (neg : Bool) (mag A B : Nat) (place : Int) (hp : (A : Int) - B = place + 1074) (hm : mag ≠ 0) (hbig : mag * 2 ^ A ≤ 2 ^ (2090 + B)) :
    ∃ r : Nat, FloatKind.f64.format.nearest neg mag place = FloatKind.f64.format.word neg r ∧ r < 9218868437227405312 ∧
      4503599627370496 * (vr r * 2 ^ B) ≤ 4503599627370496 * (mag * 2 ^ A) + mag * 2 ^ A + 4503599627370496 * 2 ^ B ∧
      4503599627370496 * (mag * 2 ^ A) ≤ 4503599627370496 * (vr r * 2 ^ B) + mag * 2 ^ A + 4503599627370496 * 2 ^ B := by
  obtain ⟨L, hL⟩ : ∃ L, L = mag.log2 := ⟨_, rfl⟩
  have hL1 : 2 ^ L ≤ mag := hL ▸ Nat.log2_self_le hm
  have hL2 : mag < 2 ^ (L + 1) := hL ▸ Nat.lt_log2_self
  obtain ⟨e, he⟩ : ∃ e : Nat, (e : Int) = max (place + (L : Int) - (52 : Nat)) (-1074) + 1074 := ⟨(max (place + (L : Int) - (52 : Nat)) (-1074) + 1074).toNat, by omega⟩
  have hlast : max (place + (L : Int) - (52 : Nat)) (-1074) = (e : Int) - 1074 := by omega
  obtain ⟨u, hu⟩ : ∃ u, u = (place - ((e : Int) - 1074)).toNat := ⟨_, rfl⟩
  obtain ⟨d, hd⟩ : ∃ d, d = ((e : Int) - 1074 - place).toNat := ⟨_, rfl⟩
  have hud : u + (B + e) = A + d := by omega
  obtain ⟨k, hk⟩ : ∃ k, k = Ieee.Toward.even.cut neg (mag <<< u) d := ⟨_, rfl⟩
  have hcb := cut_bounds neg (mag <<< u) d
  rw [← hk, Nat.shiftLeft_eq] at hcb
  obtain ⟨c1, c2, c3, c4⟩ := hcb
  have hn : mag * 2 ^ u * 2 ^ (B + e) = mag * 2 ^ A * 2 ^ d := by rw [Nat.mul_assoc, ← Nat.pow_add, hud, Nat.pow_add, Nat.mul_assoc]
  have pd := Nat.two_pow_pos d
  have pBe := Nat.two_pow_pos (B + e)
  -- in units
  have k1 : k * 2 ^ (B + e) ≤ mag * 2 ^ A + 2 ^ (B + e) := by
    have h1 := Nat.mul_le_mul_right (2 ^ (B + e)) c1
    rw [Nat.add_mul, hn] at h1
    have h2 : (k * 2 ^ (B + e)) * 2 ^ d ≤ (mag * 2 ^ A + 2 ^ (B + e)) * 2 ^ d := by
      rw [Nat.add_mul]
      calc k * 2 ^ (B + e) * 2 ^ d = k * 2 ^ d * 2 ^ (B + e) := by ac_rfl
        _ ≤ _ := h1
        _ = _ := by ac_rfl
    exact Nat.le_of_mul_le_mul_right h2 pd
  have k2 : mag * 2 ^ A ≤ k * 2 ^ (B + e) + 2 ^ (B + e) := by
    have h1 := Nat.mul_le_mul_right (2 ^ (B + e)) (Nat.le_of_lt c2)
    rw [hn] at h1
    have h2 : (mag * 2 ^ A) * 2 ^ d ≤ (k * 2 ^ (B + e) + 2 ^ (B + e)) * 2 ^ d := by
      calc mag * 2 ^ A * 2 ^ d ≤ (k + 1) * 2 ^ d * 2 ^ (B + e) := h1
        _ = (k + 1) * 2 ^ (B + e) * 2 ^ d := by ac_rfl
        _ = _ := by rw [Nat.add_mul k 1, Nat.one_mul]
    exact Nat.le_of_mul_le_mul_right h2 pd
  have gap : 4503599627370496 * 2 ^ (B + e) ≤ mag * 2 ^ A + 4503599627370496 * 2 ^ B := by
    rcases Nat.eq_zero_or_pos e with h0 | h0
    · rw [h0, Nat.add_zero]; omega
    · have : B + e + 52 = A + L := by omega
      have h1 : 2 ^ (B + e + 52) ≤ mag * 2 ^ A := by
        rw [this, Nat.pow_add, Nat.mul_comm]
        exact Nat.mul_le_mul_right _ hL1
      rw [Nat.pow_add] at h1
      have : (2 : Nat) ^ 52 = 4503599627370496 := by decide
      omega
  have kr : k ≤ 9007199254740992 ∧ (e = 0 ∨ 4503599627370496 ≤ k) := by
    have up : mag * 2 ^ u < 9007199254740992 * 2 ^ d := by
      have h1 : mag * 2 ^ A < 2 ^ (L + 1 + A) := by rw [Nat.pow_add]; exact Nat.mul_lt_mul_of_pos_right hL2 (Nat.two_pow_pos _)
      have h2 : 2 ^ (L + 1 + A) ≤ 2 ^ (53 + (B + e)) := Nat.pow_le_pow_right (by omega) (by omega)
      have h3 : mag * 2 ^ A * 2 ^ d < 2 ^ (53 + (B + e)) * 2 ^ d := Nat.mul_lt_mul_of_pos_right (Nat.lt_of_lt_of_le h1 h2) pd
      rw [← hn, Nat.pow_add 2 53] at h3
      have h4 : mag * 2 ^ u * 2 ^ (B + e) < (9007199254740992 * 2 ^ d) * 2 ^ (B + e) := by
        calc mag * 2 ^ u * 2 ^ (B + e) < 2 ^ 53 * 2 ^ (B + e) * 2 ^ d := h3
          _ = _ := by rw [show (2 : Nat) ^ 53 = 9007199254740992 by decide]; ac_rfl
      exact Nat.lt_of_mul_lt_mul_right h4
    have q1 : mag * 2 ^ u / 2 ^ d < 9007199254740992 := (Nat.div_lt_iff_lt_mul pd).2 up
    refine ⟨by omega, ?_⟩
    rcases Nat.eq_zero_or_pos e with h0 | h0
    · exact .inl h0
    · right
      have hBe : B + e + 52 = A + L := by omega
      have h1 : 2 ^ (B + e + 52) * 2 ^ d ≤ mag * 2 ^ A * 2 ^ d := Nat.mul_le_mul_right _ (by
        rw [hBe, Nat.pow_add, Nat.mul_comm]
        exact Nat.mul_le_mul_right _ hL1)
      rw [← hn, Nat.pow_add 2 (B + e) 52] at h1
      have h2 : (4503599627370496 * 2 ^ d) * 2 ^ (B + e) ≤ mag * 2 ^ u * 2 ^ (B + e) := by
        calc (4503599627370496 * 2 ^ d) * 2 ^ (B + e) = 2 ^ (B + e) * 2 ^ 52 * 2 ^ d := by rw [show (2 : Nat) ^ 52 = 4503599627370496 by decide]; ac_rfl
          _ ≤ _ := h1
      have h3 := Nat.le_of_mul_le_mul_right h2 pBe
      have := (Nat.le_div_iff_mul_le pd).2 h3
      omega
  have hv := vr_word e k kr.1 kr.2
  have htop : e ≤ 2043 := by
    rcases Nat.eq_zero_or_pos e with h0 | h0
    · omega
    · have hBe : B + e + 52 = A + L := by omega
      have h1 : 2 ^ (B + e + 52) ≤ mag * 2 ^ A := by
        rw [hBe, Nat.pow_add, Nat.mul_comm]
        exact Nat.mul_le_mul_right _ hL1
      have h2 := Nat.le_trans h1 hbig
      have := (Nat.pow_le_pow_iff_right (a := 2) (by omega)).1 h2
      omega
  refine ⟨e * 4503599627370496 + k, ?_, by omega, ?_, ?_⟩
  · unfold Ieee.Format.nearest
    rw [if_neg hm]
    simp only [infR, binW, leastP]
    rw [← hL, show FloatKind.f64.format.fractionBits = 52 from rfl, hlast, ← hu, ← hd, ← hk]
    rw [show ((e : Int) - 1074 - -1074).toNat = e by omega, Nat.min_eq_left (by omega)]
  · rw [hv, show k * 2 ^ e * 2 ^ B = k * 2 ^ (B + e) by rw [Nat.pow_add]; ac_rfl]
    omega
  · rw [hv, show k * 2 ^ e * 2 ^ B = k * 2 ^ (B + e) by rw [Nat.pow_add]; ac_rfl]
    omega

/-- A finite word's value, with its sign, in units of the least place. -/
def sv (b : Nat) : Int := sg (sB b) (vr (rung b))
def Fin' (b : Nat) : Prop := b < 18446744073709551616 ∧ rung b < 9218868437227405312
theorem word_parts (neg : Bool) (r : Nat) (hr : r < 9223372036854775808) : FloatKind.f64.format.word neg r < 18446744073709551616 ∧ rung (FloatKind.f64.format.word neg r) = r ∧ sB (FloatKind.f64.format.word neg r) = neg := by
  unfold Ieee.Format.word rung sB
  rw [signW]
  cases neg
  · simp; omega
  · simp; omega
theorem sv_word (neg : Bool) (r : Nat) (hr : r < 9218868437227405312) : Fin' (FloatKind.f64.format.word neg r) ∧ sv (FloatKind.f64.format.word neg r) = sg neg (vr r) := by
  obtain ⟨h1, h2, h3⟩ := word_parts neg r (by omega)
  exact ⟨⟨h1, by rw [h2]; exact hr⟩, by unfold sv; rw [h2, h3]⟩
theorem nearest_zero (neg : Bool) (place : Int) : FloatKind.f64.format.nearest neg 0 place = FloatKind.f64.format.word neg 0 := by
  unfold Ieee.Format.nearest; rw [if_pos rfl]
theorem sg_abs (s : Bool) (n : Nat) : (sg s n).natAbs = n := by unfold sg; cases s <;> simp
/-- A number of the exact value m * 2^A / 2^B units, with a sign, is written with a small error. -/
theorem write_err (neg : Bool) (mag A B : Nat) (place : Int) (hp : (A : Int) - B = place + 1074) (hbig : mag * 2 ^ A ≤ 2 ^ (2090 + B)) :
    ∃ z : Nat, FloatKind.f64.format.nearest neg mag place = z ∧ Fin' z ∧ (mag = 0 → sv z = 0) ∧ ∃ y : Nat, sv z = sg neg y ∧
      4503599627370496 * (y * 2 ^ B) ≤ 4503599627370496 * (mag * 2 ^ A) + mag * 2 ^ A + 4503599627370496 * 2 ^ B ∧
      4503599627370496 * (mag * 2 ^ A) ≤ 4503599627370496 * (y * 2 ^ B) + mag * 2 ^ A + 4503599627370496 * 2 ^ B := by
  by_cases hm : mag = 0
  · subst hm
    obtain ⟨h1, h2⟩ := sv_word neg 0 (by omega)
    have hv : vr 0 = 0 := rfl
    rw [hv] at h2
    refine ⟨_, nearest_zero neg place, h1, fun _ => by rw [h2]; unfold sg; cases neg <;> rfl, 0, h2, by simp, by simp⟩
  · obtain ⟨r, e, hr, h1, h2⟩ := near_err neg mag A B place hp hm hbig
    obtain ⟨f1, f2⟩ := sv_word neg r hr
    exact ⟨_, e, f1, fun h => absurd h hm, vr r, f2, h1, h2⟩
theorem read_sv (b : Nat) (h : Fin' b) : ∃ m k : Nat, FloatKind.f64.format.read b = .number (sB b) m (-1074 + (k : Int)) ∧ m * 2 ^ k = vr (rung b) := read_vr b h.1 h.2
/-- Times a constant c / 2^1074. -/
theorem mul_err (x c : Nat) (hx : Fin' x) (hc : Fin' c) (hcs : sB c = false) (hbig : vr (rung x) * vr (rung c) ≤ 2 ^ (2090 + 1074)) :
    Fin' (fm x c) ∧ (sv x = 0 → sv (fm x c) = 0) ∧ ∃ y : Nat, sv (fm x c) = sg (sB x) y ∧
      4503599627370496 * (y * 2 ^ 1074) ≤ 4503599627370496 * (vr (rung x) * vr (rung c)) + vr (rung x) * vr (rung c) + 4503599627370496 * 2 ^ 1074 ∧
      4503599627370496 * (vr (rung x) * vr (rung c)) ≤ 4503599627370496 * (y * 2 ^ 1074) + vr (rung x) * vr (rung c) + 4503599627370496 * 2 ^ 1074 := by
  obtain ⟨m, i, e1, v1⟩ := read_sv x hx
  obtain ⟨n, j, e2, v2⟩ := read_sv c hc
  have hv : m * n * 2 ^ (i + j) = vr (rung x) * vr (rung c) := by rw [← v1, ← v2, Nat.pow_add]; ac_rfl
  have hf : fm x c = FloatKind.f64.format.nearest (sB x) (m * n) (-1074 + (i : Int) + (-1074 + (j : Int))) := by
    unfold fm Ieee.Format.mul
    rw [e1, e2, hcs]
    simp only [Ieee.Datum.product, Option.map, Option.getD, Ieee.Format.write, Bool.xor_false]
  obtain ⟨z, hz, fz, z0, y, hy, h1, h2⟩ := write_err (sB x) (m * n) (i + j) 1074 (-1074 + (i : Int) + (-1074 + (j : Int))) (by omega) (by rw [hv]; exact hbig)
  rw [hf, hz]
  rw [hv] at h1 h2
  refine ⟨fz, ?_, y, hy, h1, h2⟩
  intro h0
  apply z0
  have : vr (rung x) = 0 := by
    have := sg_abs (sB x) (vr (rung x))
    unfold sv at h0
    rw [h0] at this
    simpa using this.symm
  rw [← v1] at this
  rcases Nat.mul_eq_zero.1 this with h | h
  · rw [h, Nat.zero_mul]
  · have := Nat.two_pow_pos i; omega
theorem signed_sum (s t : Bool) (m n k j : Nat) : (Ieee.signed s m (k - min k j) + Ieee.signed t n (j - min k j)) * ((2 ^ (min k j) : Nat) : Int) = sg s (m * 2 ^ k) + sg t (n * 2 ^ j) := by
  rw [signed_sg, signed_sg, Int.add_mul, ← sg_mul, ← sg_mul, Nat.mul_assoc, ← Nat.pow_add, Nat.mul_assoc, ← Nat.pow_add, show k - min k j + min k j = k by omega, show j - min k j + min k j = j by omega]
/-- The sum of two data that are numbers. -/
theorem sum_err (s t : Bool) (m n k j : Nat) (hbig : (sg s (m * 2 ^ k) + sg t (n * 2 ^ j)).natAbs ≤ 2 ^ 2090) :
    ∃ z : Nat, ((Ieee.Datum.number s m (-1074 + (k : Int))).sum (.number t n (-1074 + (j : Int)))).map FloatKind.f64.format.write = some z ∧ Fin' z ∧
      (sg s (m * 2 ^ k) + sg t (n * 2 ^ j) = 0 → sv z = 0) ∧
      4503599627370496 * sv z ≤ 4503599627370496 * (sg s (m * 2 ^ k) + sg t (n * 2 ^ j)) + (sg s (m * 2 ^ k) + sg t (n * 2 ^ j)).natAbs + 4503599627370496 ∧
      4503599627370496 * (sg s (m * 2 ^ k) + sg t (n * 2 ^ j)) ≤ 4503599627370496 * sv z + (sg s (m * 2 ^ k) + sg t (n * 2 ^ j)).natAbs + 4503599627370496 := by
  have hs := signed_sum s t m n k j
  obtain ⟨c, hc⟩ : ∃ c, c = min k j := ⟨_, rfl⟩
  rw [← hc] at hs
  obtain ⟨T, hT⟩ : ∃ T, T = Ieee.signed s m (k - c) + Ieee.signed t n (j - c) := ⟨_, rfl⟩
  rw [← hT] at hs
  obtain ⟨V, hV⟩ : ∃ V, V = sg s (m * 2 ^ k) + sg t (n * 2 ^ j) := ⟨_, rfl⟩
  rw [← hV] at hs hbig ⊢
  have hab : T.natAbs * 2 ^ c = V.natAbs := by rw [← hs, Int.natAbs_mul]; simp
  obtain ⟨z, hz, fz, z0, y, hy, h1, h2⟩ := write_err (if T = 0 then s && t else decide (T < 0)) T.natAbs c 0 (-1074 + (c : Int)) (by omega) (by rw [hab, Nat.add_zero]; exact hbig)
  rw [hab] at h1 h2
  simp only [Nat.pow_zero, Nat.mul_one] at h1 h2
  refine ⟨z, ?_, fz, ?_, ?_⟩
  · simp only [Ieee.Datum.sum, Option.map, Ieee.Format.write]
    rw [show ((-1074 : Int) + (k : Int) - min (-1074 + (k : Int)) (-1074 + (j : Int))).toNat = k - c by omega,
      show ((-1074 : Int) + (j : Int) - min (-1074 + (k : Int)) (-1074 + (j : Int))).toNat = j - c by omega,
      show min (-1074 + (k : Int)) (-1074 + (j : Int)) = -1074 + (c : Int) by omega, ← hT, hz]
  · intro h0
    apply z0
    rw [h0] at hab
    rcases Nat.mul_eq_zero.1 (show T.natAbs * 2 ^ c = 0 by simpa using hab) with h | h
    · exact h
    · have := Nat.two_pow_pos c; omega
  · have hp : (0 : Int) < ((2 ^ c : Nat) : Int) := by have := Nat.two_pow_pos c; omega
    by_cases hT0 : T = 0
    · have hV0 : V = 0 := by rw [← hs, hT0]; simp
      have hz0 := z0 (by rw [hT0]; rfl)
      rw [hz0, hV0]
      simp
    · rw [if_neg hT0] at hy
      by_cases hneg : T < 0
      · rw [decide_eq_true hneg] at hy
        have hVn : V < 0 := by rw [← hs]; exact Int.mul_neg_of_neg_of_pos hneg hp
        rw [hy]
        simp only [sg, if_true]
        omega
      · rw [decide_eq_false hneg] at hy
        have hVp : 0 ≤ V := by rw [← hs]; exact Int.mul_nonneg (by omega) (by omega)
        rw [hy]
        simp only [sg, if_false, Bool.false_eq_true]
        omega
theorem add_err (x y : Nat) (hx : Fin' x) (hy : Fin' y) (hbig : (sv x + sv y).natAbs ≤ 2 ^ 2090) :
    ∃ z : Nat, FloatKind.f64.format.add x y = some z ∧ Fin' z ∧ (sv x + sv y = 0 → sv z = 0) ∧
      4503599627370496 * sv z ≤ 4503599627370496 * (sv x + sv y) + (sv x + sv y).natAbs + 4503599627370496 ∧
      4503599627370496 * (sv x + sv y) ≤ 4503599627370496 * sv z + (sv x + sv y).natAbs + 4503599627370496 := by
  obtain ⟨m, i, e1, v1⟩ := read_sv x hx
  obtain ⟨n, j, e2, v2⟩ := read_sv y hy
  have h1 : sv x = sg (sB x) (m * 2 ^ i) := by unfold sv; rw [v1]
  have h2 : sv y = sg (sB y) (n * 2 ^ j) := by unfold sv; rw [v2]
  rw [h1, h2] at hbig ⊢
  unfold Ieee.Format.add
  rw [e1, e2]
  exact sum_err _ _ m n i j hbig
theorem sg_not (s : Bool) (n : Nat) : sg (!s) n = - sg s n := by unfold sg; cases s <;> simp
theorem sub_err (x y : Nat) (hx : Fin' x) (hy : Fin' y) (hbig : (sv x - sv y).natAbs ≤ 2 ^ 2090) :
    ∃ z : Nat, FloatKind.f64.format.sub x y = some z ∧ Fin' z ∧ (sv x - sv y = 0 → sv z = 0) ∧
      4503599627370496 * sv z ≤ 4503599627370496 * (sv x - sv y) + (sv x - sv y).natAbs + 4503599627370496 ∧
      4503599627370496 * (sv x - sv y) ≤ 4503599627370496 * sv z + (sv x - sv y).natAbs + 4503599627370496 := by
  obtain ⟨m, i, e1, v1⟩ := read_sv x hx
  obtain ⟨n, j, e2, v2⟩ := read_sv y hy
  have h1 : sv x = sg (sB x) (m * 2 ^ i) := by unfold sv; rw [v1]
  have h2 : sv y = sg (sB y) (n * 2 ^ j) := by unfold sv; rw [v2]
  have h3 : sv x - sv y = sg (sB x) (m * 2 ^ i) + sg (!(sB y)) (n * 2 ^ j) := by rw [h1, h2, sg_not]; omega
  rw [h3] at hbig ⊢
  unfold Ieee.Format.sub
  rw [e1, e2]
  exact sum_err _ _ m n i j hbig
theorem order_sv (x y : Nat) (hx : Fin' x) (hy : Fin' y) : FloatKind.f64.format.order x y = some (compare (sv x) (sv y)) := by
  obtain ⟨m, i, e1, v1⟩ := read_sv x hx
  obtain ⟨n, j, e2, v2⟩ := read_sv y hy
  unfold Ieee.Format.order sv
  rw [e1, e2, order_num, v1, v2]
end Go.Proofs.Ytlahjieodcoecaa
