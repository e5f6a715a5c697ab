/- Blend lies between, within wide: the errors of its five roundings, added up. (No program in sight.) -/
import Derived.Test.YtlahjieodcoecaaGB1
namespace Go.Proofs.Ytlahjieodcoecaa
set_option linter.unusedVariables false

/-- What is known of a product with 7/8. -/
theorem near78 (A y S D : Nat) (hA : A ≤ S) (hD : S ≤ 4503599627370496 * D)
    (h1 : 4503599627370496 * (y * 8) ≤ 4503599627370496 * (A * 7) + A * 7 + 4503599627370496 * 8)
    (h2 : 4503599627370496 * (A * 7) ≤ 4503599627370496 * (y * 8) + A * 7 + 4503599627370496 * 8) : 8 * y ≤ 7 * A + 7 * D + 8 ∧ 7 * A ≤ 8 * y + 7 * D + 8 := by omega
theorem near18 (B y S D : Nat) (hB : B ≤ S) (hD : S ≤ 4503599627370496 * D)
    (h1 : 4503599627370496 * (y * 8) ≤ 4503599627370496 * (B * 1) + B * 1 + 4503599627370496 * 8)
    (h2 : 4503599627370496 * (B * 1) ≤ 4503599627370496 * (y * 8) + B * 1 + 4503599627370496 * 8) : 8 * y ≤ B + D + 8 ∧ B ≤ 8 * y + D + 8 := by omega
theorem nearSum (t x : Int) (n S D : Nat) (hn : n = t.natAbs) (hD : S ≤ 4503599627370496 * D) (h0 : 64 ≤ D) (ht : n ≤ S + 6 * D + 6)
    (h1 : 4503599627370496 * x ≤ 4503599627370496 * t + n + 4503599627370496)
    (h2 : 4503599627370496 * t ≤ 4503599627370496 * x + n + 4503599627370496) : 16 * x ≤ 16 * t + 17 * D + 16 ∧ 16 * t ≤ 16 * x + 17 * D + 16 := by omega
theorem wideLow (s yw S D : Nat) (hD : S ≤ 4503599627370496 * D) (hD2 : 4503599627370496 * D ≤ S + 4503599627370496) (h0 : 64 ≤ D)
    (hs1 : 4503599627370496 * s ≤ 4503599627370496 * S + S + 4503599627370496) (hs2 : 4503599627370496 * S ≤ 4503599627370496 * s + S + 4503599627370496)
    (h1 : 4503599627370496 * (yw * 5070602400912917605986812821504) ≤ 4503599627370496 * (s * 5070602400912918) + s * 5070602400912918 + 4503599627370496 * 5070602400912917605986812821504)
    (h2 : 4503599627370496 * (s * 5070602400912918) ≤ 4503599627370496 * (yw * 5070602400912917605986812821504) + s * 5070602400912918 + 4503599627370496 * 5070602400912917605986812821504) : 70 * D ≤ 16 * yw + 200 ∧ yw ≤ 5 * D + 5 := by
  have a1 : s ≤ 4503599627370496 * D + D + 1 := by omega
  have a2 : 4503599627370496 * D ≤ s + D + 1 + 4503599627370496 := by omega
  omega

theorem fin78 : Fin' 4606056518893174784 ∧ sB 4606056518893174784 = false ∧ vr (rung 4606056518893174784) = 7 * 2 ^ 1071 := by refine ⟨⟨by decide, by decide⟩, by decide, by decide +kernel⟩
theorem fin18 : Fin' 4593671619917905920 ∧ sB 4593671619917905920 = false ∧ vr (rung 4593671619917905920) = 2 ^ 1071 := by refine ⟨⟨by decide, by decide⟩, by decide, by decide +kernel⟩
theorem fin15 : Fin' 4382569440205035030 ∧ sB 4382569440205035030 = false ∧ vr (rung 4382569440205035030) = 5070602400912918 * 2 ^ 972 := by refine ⟨⟨by decide, by decide⟩, by decide, by decide +kernel⟩
theorem fm_comm (x c : Nat) (hx : Fin' x) (hc : Fin' c) : fm x c = fm c x := by
  obtain ⟨m, i, e1, v1⟩ := read_sv x hx
  obtain ⟨n, j, e2, v2⟩ := read_sv c hc
  unfold fm Ieee.Format.mul
  rw [e1, e2]
  simp only [Ieee.Datum.product]
  rw [Bool.xor_comm, Nat.mul_comm, Int.add_comm]
theorem pw (n k m : Nat) (h : n = k + m) : (2 : Nat) ^ n = 2 ^ k * 2 ^ m := by rw [h, Nat.pow_add]
/-- A word's magnitude: nought, or neither too small nor too great. -/
def Mid (b : Nat) : Prop := Fin' b ∧ vr (rung b) ≤ 2 ^ 2071 ∧ (vr (rung b) = 0 ∨ 151115727451828646838272 ≤ vr (rung b))
theorem strip1 (K y V c q T : Nat) (hT : 0 < T) (h : K * (y * (q * T)) ≤ K * (V * (c * T)) + V * (c * T) + K * (q * T)) : K * (y * q) ≤ K * (V * c) + V * c + K * q := by
  refine Nat.le_of_mul_le_mul_right (c := T) ?_ hT
  rw [Nat.add_mul, Nat.add_mul]
  calc K * (y * q) * T = K * (y * (q * T)) := by ac_rfl
    _ ≤ _ := h
    _ = _ := by ac_rfl
theorem strip2 (K y V c q T : Nat) (hT : 0 < T) (h : K * (V * (c * T)) ≤ K * (y * (q * T)) + V * (c * T) + K * (q * T)) : K * (V * c) ≤ K * (y * q) + V * c + K * q := by
  refine Nat.le_of_mul_le_mul_right (c := T) ?_ hT
  rw [Nat.add_mul, Nat.add_mul]
  calc K * (V * c) * T = K * (V * (c * T)) := by ac_rfl
    _ ≤ _ := h
    _ = _ := by ac_rfl
def MulC (x cw c q : Nat) : Prop := Fin' (fm x cw) ∧ (vr (rung x) = 0 → sv (fm x cw) = 0) ∧ ∃ y : Nat, sv (fm x cw) = sg (sB x) y ∧
    4503599627370496 * (y * q) ≤ 4503599627370496 * (vr (rung x) * c) + vr (rung x) * c + 4503599627370496 * q ∧ 4503599627370496 * (vr (rung x) * c) ≤ 4503599627370496 * (y * q) + vr (rung x) * c + 4503599627370496 * q
theorem pos2 (n : Nat) : 0 < 2 ^ n := Nat.two_pow_pos n
def Big (x : Nat) : Prop := ∃ k, k = 2090 + 1074 ∧ x ≤ 2 ^ k
theorem big_le (V c n m k : Nat) (hk : k = 2090 + 1074) (hV : V ≤ 2 ^ n) (hc : c ≤ 2 ^ m) (h : n + m ≤ k) : Big (V * c) :=
  ⟨k, hk, Nat.le_trans (Nat.mul_le_mul hV hc) (by rw [← Nat.pow_add]; exact Nat.pow_le_pow_right (by decide) h)⟩
theorem bigAux (z : Nat) (h : 0 < z) : 1000000 ≤ 2 ^ 20 * z := by
  have : (2 : Nat) ^ 20 = 1048576 := by decide
  omega
theorem bigZ (a b : Nat) (h : a = 20 + b) : 1000000 ≤ 2 ^ a := by rw [h, Nat.pow_add]; exact bigAux _ (pos2 b)
/-- A product with a constant c * T, where a unit is q * T. -/
theorem mulC (x cw c q T : Nat) (hx : Fin' x) (hc : Fin' cw) (hcs : sB cw = false) (hv : vr (rung cw) = c * T) (hq : 2 ^ 1074 = q * T) (hT : 0 < T) (hbig : Big (vr (rung x) * (c * T))) : MulC x cw c q := by
  obtain ⟨k, hk, hb⟩ := hbig
  obtain ⟨g1, g2, y, g3, g4, g5⟩ := mul_err x cw hx hc hcs (by rw [hv, ← hk]; exact hb)
  rw [hv, hq] at g4 g5
  exact ⟨g1, fun h0 => g2 (by unfold sv; rw [h0]; unfold sg; cases sB x <;> rfl), y, g3, strip1 _ _ _ _ _ _ hT g4, strip2 _ _ _ _ _ _ hT g5⟩
theorem c_le (c n k m : Nat) (hc : c ≤ 2 ^ n) (h : n + k = m) : c * 2 ^ k ≤ 2 ^ m := by
  rw [← h, Nat.pow_add]; exact Nat.mul_le_mul_right _ hc
/-- The value of a word without its sign. -/
theorem abs_sv (a : Nat) (h : Fin' a) : Fin' (a % 9223372036854775808) ∧ sv (a % 9223372036854775808) = (vr (rung a) : Int) := by
  have e : rung (a % 9223372036854775808) = rung a := by unfold rung; omega
  have e2 : sB (a % 9223372036854775808) = false := by unfold sB; simp; omega
  refine ⟨⟨by omega, by rw [e]; exact h.2⟩, ?_⟩
  unfold sv
  rw [e, e2]; rfl
theorem sg_cases (s : Bool) (n : Nat) : (s = false ∧ sg s n = (n : Int)) ∨ (s = true ∧ sg s n = -(n : Int)) := by cases s; exact .inl ⟨rfl, rfl⟩; exact .inr ⟨rfl, rfl⟩
theorem pw8 : (2 : Nat) ^ 1074 = 8 * 2 ^ 1071 := by rw [pw 1074 3 1071 rfl, show (2 : Nat) ^ 3 = 8 from rfl]
theorem pw102 : (2 : Nat) ^ 1074 = 5070602400912917605986812821504 * 2 ^ 972 := by rw [pw 1074 102 972 rfl, show (2 : Nat) ^ 102 = 5070602400912917605986812821504 from by decide]
theorem big7 : 7 * (2 : Nat) ^ 1071 ≤ 2 ^ 1074 := by rw [pw8]; omega
theorem big1 : 1 * (2 : Nat) ^ 1071 ≤ 2 ^ 1074 := by rw [pw8]; omega
theorem big15 : 5070602400912918 * (2 : Nat) ^ 972 ≤ 2 ^ 1074 := by rw [pw102]; omega
theorem mul7 (a : Nat) (h : Fin' a) (hz : vr (rung a) ≤ 2 ^ 2071) : MulC a 4606056518893174784 7 8 := mulC a 4606056518893174784 7 8 (2 ^ 1071) h fin78.1 fin78.2.1 fin78.2.2 pw8 (pos2 1071) (big_le _ _ 2071 1074 _ rfl hz big7 (by omega))
theorem mul1 (a : Nat) (h : Fin' a) (hz : vr (rung a) ≤ 2 ^ 2071) : MulC a 4593671619917905920 1 8 := by
  obtain ⟨T, hT⟩ : ∃ T, T = 2 ^ 1071 := ⟨_, rfl⟩
  have h8 := pw8
  have f := fin18.2.2
  have p := pos2 1071
  have bg := big1
  rw [← hT] at h8 f p bg
  exact mulC a 4593671619917905920 1 8 T h fin18.1 fin18.2.1 (by rw [f, Nat.one_mul]) h8 p (big_le _ _ 2071 1074 _ rfl hz bg (by omega))
theorem mul15 (a : Nat) (h : Fin' a) (hz : vr (rung a) ≤ 2 ^ 2075) : MulC a 4382569440205035030 5070602400912918 5070602400912917605986812821504 := mulC a 4382569440205035030 5070602400912918 5070602400912917605986812821504 (2 ^ 972) h fin15.1 fin15.2.1 fin15.2.2 pw102 (pos2 972) (big_le _ _ 2075 1074 _ rfl hz big15 (by omega))
theorem bigM : ∃ M : Nat, (2 : Nat) ^ 2071 = M ∧ (2 : Nat) ^ 2090 = 524288 * M ∧ (2 : Nat) ^ 2075 = 16 * M ∧ 1000000 ≤ M := by
  refine ⟨2 ^ 2071, rfl, ?_, ?_, ?_⟩
  · rw [pw 2090 19 2071 (by omega), show (2 : Nat) ^ 19 = 524288 from by decide]
  · rw [pw 2075 4 2071 (by omega), show (2 : Nat) ^ 4 = 16 from by decide]
  · exact bigZ 2071 2051 (by omega)
theorem pqB (s t : Bool) (A B yp yq D : Nat) (u1 : 8 * yp ≤ 7 * A + 7 * D + 8) (u2 : 7 * A ≤ 8 * yp + 7 * D + 8) (u3 : 8 * yq ≤ B + D + 8) (u4 : B ≤ 8 * yq + D + 8) :
    (sg s yp + sg t yq).natAbs ≤ A + B + 6 * D + 6 ∧ 8 * (sg s yp + sg t yq) ≤ 7 * sg s A + sg t B + 8 * D + 16 ∧ 7 * sg s A + sg t B ≤ 8 * (sg s yp + sg t yq) + 8 * D + 16 := by
  cases s <;> cases t <;> simp only [sg, if_true, if_false, Bool.false_eq_true] <;> omega
theorem closeUp (D yw : Nat) (α β pq x lo hi mn mx : Int) (h0 : 64 ≤ D) (u5 : 70 * D ≤ 16 * yw + 200) (r1 : 8 * pq ≤ 7 * α + β + 8 * D + 16) (r2 : 7 * α + β ≤ 8 * pq + 8 * D + 16)
    (t1 : 16 * x ≤ 16 * pq + 17 * D + 16) (t2 : 16 * pq ≤ 16 * x + 17 * D + 16) (t5 : 16 * lo ≤ 16 * (mn - yw) + 17 * D + 16) (t8 : 16 * (mx + yw) ≤ 16 * hi + 17 * D + 16)
    (h1 : mn ≤ α) (h2 : mn ≤ β) (h3 : α ≤ mx) (h4 : β ≤ mx) : lo ≤ x ∧ x ≤ hi := by omega
theorem sumS (m y : Int) (n A B D yw : Nat) (hy : y = (yw : Int) ∨ y = -(yw : Int)) (hm : m.natAbs ≤ A + B) (hw : yw ≤ 5 * D + 5) : (m + y).natAbs ≤ A + B + 6 * D + 6 := by omega
theorem natS (s A B : Nat) (s1 : 4503599627370496 * (s : Int) ≤ 4503599627370496 * ((A : Int) + B) + (((A : Int) + B).natAbs : Nat) + 4503599627370496) (s2 : 4503599627370496 * ((A : Int) + B) ≤ 4503599627370496 * (s : Int) + (((A : Int) + B).natAbs : Nat) + 4503599627370496) :
    4503599627370496 * s ≤ 4503599627370496 * (A + B) + (A + B) + 4503599627370496 ∧ 4503599627370496 * (A + B) ≤ 4503599627370496 * s + (A + B) + 4503599627370496 := by omega
theorem dGet (A B D : Nat) (h1 : A + B ≤ 4503599627370496 * D) (h2 : 4503599627370496 * D ≤ A + B + 4503599627370496) (ha : A = 0 ∨ 151115727451828646838272 ≤ A) (hb : B = 0 ∨ 151115727451828646838272 ≤ B) (h : ¬ A + B = 0) : 64 ≤ D := by omega
set_option maxHeartbeats 1000000 in
/-- All of it: what is blended lies between, within wide. -/
theorem between (a b : Nat) (ha : Mid a) (hb : Mid b) (mn : Nat) (hmn : mn = a ∨ mn = b) (mx : Nat) (hmx : mx = a ∨ mx = b) (h1 : sv mn ≤ sv a ∧ sv mn ≤ sv b) (h2 : sv a ≤ sv mx ∧ sv b ≤ sv mx) :
    ∃ x s lo hi : Nat, FloatKind.f64.format.add (fm a 4606056518893174784) (fm b 4593671619917905920) = some x ∧ Fin' x ∧
      FloatKind.f64.format.add (a % 9223372036854775808) (b % 9223372036854775808) = some s ∧ Fin' s ∧
      Fin' (fm s 4382569440205035030) ∧
      FloatKind.f64.format.sub mn (fm s 4382569440205035030) = some lo ∧ Fin' lo ∧ FloatKind.f64.format.add mx (fm s 4382569440205035030) = some hi ∧ Fin' hi ∧ sv lo ≤ sv x ∧ sv x ≤ sv hi := by
  obtain ⟨A, hA⟩ : ∃ A, A = vr (rung a) := ⟨_, rfl⟩
  obtain ⟨B, hB⟩ : ∃ B, B = vr (rung b) := ⟨_, rfl⟩
  obtain ⟨fa', za, za0⟩ := ha
  obtain ⟨fb', zb, zb0⟩ := hb
  have va : sv a = sg (sB a) A := by unfold sv; rw [hA]
  have vb : sv b = sg (sB b) B := by unfold sv; rw [hB]
  obtain ⟨p1, p0, yp, pv, p2, p3⟩ := mul7 a fa' za
  obtain ⟨q1, q0, yq, qv, q2, q3⟩ := mul1 b fb' zb
  obtain ⟨sa1, sa2⟩ := abs_sv a fa'
  obtain ⟨sb1, sb2⟩ := abs_sv b fb'
  rw [← hA] at p0 p2 p3 za za0 sa2
  rw [← hB] at q0 q2 q3 zb zb0 sb2
  generalize fm a 4606056518893174784 = P at *
  generalize fm b 4593671619917905920 = Q at *
  obtain ⟨M, hM, hM2, hM4, hM3⟩ := bigM
  rw [hM] at za zb
  have hyp : yp ≤ 2 * M + 2 := by omega
  have hyq : yq ≤ 2 * M + 2 := by omega
  have spq : (sv P + sv Q).natAbs ≤ 2 ^ 2090 := by
    rw [hM2, pv, qv]
    rcases sg_cases (sB a) yp with ⟨_, e⟩ | ⟨_, e⟩ <;> rcases sg_cases (sB b) yq with ⟨_, e'⟩ | ⟨_, e'⟩ <;> rw [e, e'] <;> omega
  obtain ⟨x, hx, fx, x0, x1, x2⟩ := add_err P Q p1 q1 spq
  obtain ⟨s, hs, fs, s0, s1, s2⟩ := add_err (a % 9223372036854775808) (b % 9223372036854775808) sa1 sb1 (by rw [hM2, sa2, sb2]; omega)
  rw [sa2, sb2] at s0 s1 s2
  -- s is no less than nought
  obtain ⟨D, hD1, hD2⟩ : ∃ D : Nat, A + B ≤ 4503599627370496 * D ∧ 4503599627370496 * D ≤ A + B + 4503599627370496 := ⟨(A + B) / 4503599627370496 + 1, by omega, by omega⟩
  obtain ⟨sn, hsn⟩ : ∃ sn : Nat, sv s = (sn : Int) ∧ sn ≤ 3 * M := by
    refine ⟨(sv s).toNat, ?_, ?_⟩
    · by_cases h0 : (A : Int) + B = 0
      · rw [s0 h0]; rfl
      · omega
    · omega
  have hvs : vr (rung s) = sn := by
    have := sg_abs (sB s) (vr (rung s))
    have h3 : sv s = sg (sB s) (vr (rung s)) := rfl
    rw [← h3, hsn.1] at this
    omega
  obtain ⟨w1, w0, yw, wv, w2, w3⟩ := mul15 s fs (by rw [hvs, hM4]; omega)
  rw [hvs] at w0 w2 w3
  have wv' : sv (fm s 4382569440205035030) = (yw : Int) := by
    by_cases h0 : sn = 0
    · have h4 := w0 h0
      rw [h4]
      rw [wv] at h4
      rcases sg_cases (sB s) yw with ⟨_, e⟩ | ⟨_, e⟩ <;> rw [e] at h4 <;> omega
    · rw [wv]
      have : sB s = false := by
        have h3 : sv s = sg (sB s) (vr (rung s)) := rfl
        rw [hvs, hsn.1] at h3
        rcases sg_cases (sB s) sn with ⟨e, _⟩ | ⟨_, e'⟩
        · exact e
        · rw [e'] at h3; omega
      rw [this]; rfl
  obtain ⟨W, hW⟩ : ∃ W, W = fm s 4382569440205035030 := ⟨_, rfl⟩
  rw [← hW] at w1 wv'
  have e5f : sn = 0 → yw = 0 := by
    intro h0
    have h4 := w0 h0
    rw [← hW, wv'] at h4
    omega
  have hmnF : Fin' mn := by rcases hmn with h | h <;> rw [h] <;> assumption
  have hmxF : Fin' mx := by rcases hmx with h | h <;> rw [h] <;> assumption
  have hmnB : -(M : Int) ≤ sv mn ∧ sv mn ≤ M := by
    rcases hmn with h | h
    · rw [h, va]; rcases sg_cases (sB a) A with ⟨_, e⟩ | ⟨_, e⟩ <;> rw [e] <;> omega
    · rw [h, vb]; rcases sg_cases (sB b) B with ⟨_, e⟩ | ⟨_, e⟩ <;> rw [e] <;> omega
  have hmxB : -(M : Int) ≤ sv mx ∧ sv mx ≤ M := by
    rcases hmx with h | h
    · rw [h, va]; rcases sg_cases (sB a) A with ⟨_, e⟩ | ⟨_, e⟩ <;> rw [e] <;> omega
    · rw [h, vb]; rcases sg_cases (sB b) B with ⟨_, e⟩ | ⟨_, e⟩ <;> rw [e] <;> omega
  have hywM : yw ≤ 4 * M + 4 := by omega
  obtain ⟨lo, hlo, flo, lo0, lo1, lo2⟩ := sub_err mn W hmnF w1 (by rw [hM2, wv']; omega)
  obtain ⟨hi, hhi, fhi, hi0, hi1, hi2⟩ := add_err mx W hmxF w1 (by rw [hM2, wv']; omega)
  refine ⟨x, s, lo, hi, hx, fx, hs, fs, by rw [← hW]; exact w1, by rw [← hW]; exact hlo, flo, by rw [← hW]; exact hhi, fhi, ?_⟩
  rw [wv'] at lo0 lo1 lo2 hi0 hi1 hi2
  clear hlo hhi hW wv wv' hx hs
  by_cases hS : A + B = 0
  · have e1 := p0 (by omega)
    have e2 := q0 (by omega)
    have e3 := x0 (by rw [e1, e2]; rfl)
    have e4 : sn = 0 := by have := s0 (by omega); omega
    have e5 : yw = 0 := e5f e4
    have ea : sv a = 0 := by rw [va]; rcases sg_cases (sB a) A with ⟨_, e⟩ | ⟨_, e⟩ <;> rw [e] <;> omega
    have eb : sv b = 0 := by rw [vb]; rcases sg_cases (sB b) B with ⟨_, e⟩ | ⟨_, e⟩ <;> rw [e] <;> omega
    have en : sv mn = 0 := by rcases hmn with h | h <;> rw [h] <;> assumption
    have em : sv mx = 0 := by rcases hmx with h | h <;> rw [h] <;> assumption
    rw [lo0 (by rw [en, e5]; rfl), hi0 (by rw [em, e5]; rfl), e3]
    exact ⟨by omega, by omega⟩
  have hD64 : 64 ≤ D := dGet A B D hD1 hD2 za0 zb0 hS
  obtain ⟨u1, u2⟩ := near78 A yp (A + B) D (Nat.le_add_right _ _) hD1 p2 p3
  obtain ⟨u3, u4⟩ := near18 B yq (A + B) D (Nat.le_add_left _ _) hD1 q2 q3
  obtain ⟨hsn1, _⟩ := hsn
  rw [hsn1] at s1 s2
  obtain ⟨u5, u6⟩ := wideLow sn yw (A + B) D hD1 hD2 hD64 (natS sn A B s1 s2).1 (natS sn A B s1 s2).2 w2 w3
  rw [va, vb] at h1 h2
  have hmnS : (sv mn).natAbs ≤ A + B := by
    rcases hmn with h | h
    · rw [h, va, sg_abs]; exact Nat.le_add_right _ _
    · rw [h, vb, sg_abs]; exact Nat.le_add_left _ _
  have hmxS : (sv mx).natAbs ≤ A + B := by
    rcases hmx with h | h
    · rw [h, va, sg_abs]; exact Nat.le_add_right _ _
    · rw [h, vb, sg_abs]; exact Nat.le_add_left _ _
  obtain ⟨t5, t6⟩ := nearSum (sv mn - yw) (sv lo) _ (A + B) D rfl hD1 hD64 (sumS (sv mn) (-(yw : Int)) 0 A B D yw (.inr rfl) hmnS u6) lo1 lo2
  obtain ⟨t7, t8⟩ := nearSum (sv mx + yw) (sv hi) _ (A + B) D rfl hD1 hD64 (sumS (sv mx) (yw : Int) 0 A B D yw (.inl rfl) hmxS u6) hi1 hi2
  have hpq := pqB (sB a) (sB b) A B yp yq D u1 u2 u3 u4
  rw [← pv, ← qv] at hpq
  obtain ⟨t1, t2⟩ := nearSum (sv P + sv Q) (sv x) _ (A + B) D rfl hD1 hD64 hpq.1 x1 x2
  exact closeUp D yw _ _ _ _ _ _ _ _ hD64 u5 hpq.2.1 hpq.2.2 t1 t2 t5 t8 h1.1 h1.2 h2.1 h2.2
end Go.Proofs.Ytlahjieodcoecaa
