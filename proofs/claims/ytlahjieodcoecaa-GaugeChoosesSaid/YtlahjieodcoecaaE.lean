/- What gauge.Choose answers for a case within the bounds (plain law). -/
import Derived.Test.YtlahjieodcoecaaX
import Derived.Test.YtlahjieodcoecaaS
namespace Go.Proofs.Ytlahjieodcoecaa
open Go.RowKit
set_option linter.unusedVariables false

theorem pos_skip (x : Nat) (h : x ≤ 9218868437227405312) : (fN x || pI x) = decide (x = 9218868437227405312) := by
  rw [fN_eq x (by omega), (rung_pos x (by omega)).1]
  unfold pI
  rw [order_pos x _ h (by omega)]
  by_cases e : x = 9218868437227405312
  · subst e; decide +kernel
  · have h1 : decide (9218868437227405312 < x) = false := by simp; omega
    have h2 : compare x 9218868437227405311 ≠ .gt := by rw [ne_eq, Nat.compare_eq_gt]; omega
    rw [h1]
    simp [e, h2]

theorem inF_eq (P : Nat) (b : Int) (h0 : 0 < P) (h1 : P < 9007199254740992) (hb : b ≤ 9223372036854775807) : inF (fl P) b = decide ((P : Int) ≤ b) := by
  have e : nF b = fl b.toNat := by unfold nF fl; congr 1; omega
  have hb2 : nF b ≤ 9218868437227405312 := Nat.le_of_lt (by unfold nF; exact ofInt_fin _ (by omega) (by omega))
  have ha := (fl_vr P h0 h1).1
  unfold inF
  rw [order_pos _ _ (Nat.le_of_lt ha) hb2]
  rw [e]
  have hm := fl_le P b.toNat h0 h1 (by omega)
  by_cases h : (P : Int) ≤ b
  · have : fl P ≤ fl b.toNat := hm.2 (by omega)
    rcases Nat.lt_or_eq_of_le this with q | q
    · rw [Nat.compare_eq_lt.2 q]; simp [h]
    · rw [q, Nat.compare_eq_eq.2 rfl]; simp [h]
  · have : ¬ fl P ≤ fl b.toNat := fun c => h (by have := hm.1 c; omega)
    rw [Nat.compare_eq_gt.2 (by omega)]; simp [h]

theorem costs_eq (i n b : Int) (s : Bool) (i0 : 1 ≤ i) (i1 : i ≤ 4000) (n0 : 0 ≤ n) (n1 : n ≤ 1048576) (hb : b ≤ 9223372036854775807) :
    ∃ P : Nat, (P : Int) = i * (n + 1) ∧ 1 ≤ P ∧ P ≤ 4194308000 ∧
    costs i n b s = [PINF, fl (8 * P), if (P : Int) ≤ b then fl (3 * P) else PINF, if s then fl (2 * (n.toNat + 1) + 64 * i.toNat) else PINF, if (P : Int) ≤ b then fl (1 * P + 2000) else PINF] := by
  obtain ⟨I, rfl⟩ : ∃ I : Nat, i = I := ⟨i.toNat, by omega⟩
  obtain ⟨M, rfl⟩ : ∃ M : Nat, n = M := ⟨n.toNat, by omega⟩
  have hP1 : 1 ≤ I * (M + 1) := Nat.mul_pos (by omega) (by omega)
  have hP2 : I * (M + 1) ≤ 4000 * 1048577 := Nat.mul_le_mul (by omega) (by omega)
  refine ⟨I * (M + 1), by push_cast; rfl, hP1, by omega, ?_⟩
  have e1 : nF (I : Int) = fl I := by unfold nF fl; congr 1; omega
  have e2 : mF (M : Int) = fl (M + 1) := by unfold mF fl; congr 1; omega
  unfold costs
  rw [e1, e2, fm_fl I (M + 1) (by omega) (by omega) (by omega)]
  generalize I * (M + 1) = P at hP1 hP2
  have c8 : 4620693217682128896 = fl 8 := by decide +kernel
  have c3 : 4613937818241073152 = fl 3 := by decide +kernel
  have c1 : 4607182418800017408 = fl 1 := by decide +kernel
  have c2 : 4611686018427387904 = fl 2 := by decide +kernel
  have c64 : 4634204016564240384 = fl 64 := by decide +kernel
  have c2k : 4656510908468559872 = fl 2000 := by decide +kernel
  rw [inF_eq P b hP1 (by omega) hb, c8, c3, c1, c2, c64, c2k]
  rw [fm_fl 8 P (by omega) (by omega) (by omega), fm_fl 3 P (by omega) (by omega) (by omega), fm_fl 1 P (by omega) (by omega) (by omega), fm_fl 2 (M + 1) (by omega) (by omega) (by omega), fm_fl 64 I (by omega) (by omega) (by omega)]
  rw [fa_fl (1 * P) 2000 (by omega) (by omega) (by omega), fa_fl (2 * (M + 1)) (64 * I) (by omega) (by omega) (by omega)]
  simp

theorem fl_in (k : Nat) (h0 : 0 < k) (h1 : k < 9007199254740992) : 0 < fl k ∧ fl k < 9218868437227405312 := ⟨(fl_vr k h0 h1).2.1, (fl_vr k h0 h1).1⟩

/-- The engine that is chosen. -/
structure Chosen (i n b : Int) (s : Bool) (l : List Nat) (y : Int) : Prop where
  lo : 1 ≤ y
  hi : y ≤ 4
  within : y = 2 ∨ y = 4 → i * (n + 1) ≤ b
  spans : y = 3 → s = true
  none : ∀ j, j < 5 → (FloatKind.f64.format.order (l.getD j 0) (l.getD y.toNat 0) == some .lt) = false
  pos : (FloatKind.f64.format.order (l.getD y.toNat 0) 0 == some .gt) = true
  fin : pI (l.getD y.toNat 0 % 9223372036854775808) = false
  wf : l.getD y.toNat 0 < 18446744073709551616

theorem chosen (i n b : Int) (s : Bool) (i0 : 1 ≤ i) (i1 : i ≤ 4000) (n0 : 0 ≤ n) (n1 : n ≤ 1048576) (hb : b ≤ 9223372036854775807) : Chosen i n b s (costs i n b s) (lst (costs i n b s) 5) := by
  obtain ⟨P, hP, p0, p1, hc⟩ := costs_eq i n b s i0 i1 n0 n1 hb
  have f1 := fl_in (8 * P) (by omega) (by omega)
  have f2 := fl_in (3 * P) (by omega) (by omega)
  have f3 := fl_in (2 * (n.toNat + 1) + 64 * i.toNat) (by omega) (by omega)
  have f4 := fl_in (1 * P + 2000) (by omega) (by omega)
  obtain ⟨l, hl⟩ : ∃ l, l = costs i n b s := ⟨_, rfl⟩
  rw [← hl] at hc ⊢
  clear hl
  generalize fl (8 * P) = A at f1 hc
  generalize fl (3 * P) = B at f2 hc
  generalize fl (2 * (n.toNat + 1) + 64 * i.toNat) = C at f3 hc
  generalize fl (1 * P + 2000) = D at f4 hc
  have g0 : l.getD 0 0 = 9218868437227405312 := by rw [hc]; rfl
  have g1 : l.getD 1 0 = A := by rw [hc]; rfl
  have g2 : l.getD 2 0 = if (P : Int) ≤ b then B else 9218868437227405312 := by rw [hc]; rfl
  have g3 : l.getD 3 0 = if s = true then C else 9218868437227405312 := by rw [hc]; rfl
  have g4 : l.getD 4 0 = if (P : Int) ≤ b then D else 9218868437227405312 := by rw [hc]; rfl
  have all : ∀ j, j < 5 → 0 < l.getD j 0 ∧ l.getD j 0 ≤ 9218868437227405312 := by
    intro j hj
    rcases j with _ | _ | _ | _ | _ | _
    · rw [g0]; omega
    · rw [g1]; omega
    · rw [g2]; split <;> omega
    · rw [g3]; split <;> omega
    · rw [g4]; split <;> omega
    · omega
  obtain ⟨s1, s2⟩ := lst_spec l 5
  have hlt := lst_lt l 5
  generalize lst l 5 = y at s1 s2 hlt
  have hy0 : 0 ≤ y := by
    apply Classical.byContradiction; intro hn
    have := s1 (by omega) 1 (by omega)
    rw [pos_skip _ (all 1 (by omega)).2, g1] at this
    have := of_decide_eq_true this; omega
  obtain ⟨q1, q2⟩ := s2 hy0
  obtain ⟨t, rfl⟩ : ∃ t : Nat, y = t := ⟨y.toNat, by omega⟩
  rw [Int.toNat_natCast] at q1 q2
  have ht : t < 5 := by omega
  rw [pos_skip _ (all t ht).2] at q1
  have q1 := of_decide_eq_false q1
  have ht0 : t ≠ 0 := by rintro rfl; exact q1 g0
  have hat := all t ht
  refine ⟨by omega, by omega, ?_, ?_, ?_, ?_, ?_, ?_⟩
  · intro h
    rw [← hP]
    apply Classical.byContradiction; intro hn
    rcases h with h | h
    · obtain rfl : t = 2 := by omega
      exact q1 (by rw [g2, if_neg hn])
    · obtain rfl : t = 4 := by omega
      exact q1 (by rw [g4, if_neg hn])
  · intro h
    obtain rfl : t = 3 := by omega
    apply Classical.byContradiction; intro hn
    exact q1 (by rw [g3, if_neg hn])
  · intro j hj
    rw [Int.toNat_natCast, order_pos _ _ (all j hj).2 hat.2]
    have : l.getD t 0 ≤ l.getD j 0 := by
      by_cases hs : l.getD j 0 = 9218868437227405312
      · rw [hs]; exact hat.2
      · have := (q2 j hj (by rw [pos_skip _ (all j hj).2]; simpa using hs)).1
        have r1 := rung_pos (l.getD t 0) (by omega)
        have hj2 := all j hj
        have r2 := rung_pos (l.getD j 0) (by omega)
        rw [key_num _ (by omega) (by rw [r1.1]; omega), key_num _ (by omega) (by rw [r2.1]; omega), r1.1, r1.2, r2.1, r2.2] at this
        simp only [Bool.false_eq_true, if_false] at this
        omega
    have h2 : compare (l.getD j 0) (l.getD t 0) ≠ .lt := by rw [ne_eq, Nat.compare_eq_lt]; omega
    simpa using h2
  · rw [Int.toNat_natCast, order_pos _ _ hat.2 (by omega), Nat.compare_eq_gt.2 hat.1]
    rfl
  · rw [Int.toNat_natCast, show l.getD t 0 % 9223372036854775808 = l.getD t 0 from by omega]
    have := pos_skip _ hat.2
    rw [decide_eq_false q1] at this
    simp at this
    exact this.2
  · rw [Int.toNat_natCast]; omega
end Go.Proofs.Ytlahjieodcoecaa
