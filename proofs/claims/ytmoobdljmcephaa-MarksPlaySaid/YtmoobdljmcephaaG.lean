/- Package marks, the law MarksOnce: it returns true, for every two integers. -/
import Derived.Test.YtmoobdljmcephaaF
namespace Go.Proofs.Ytmoobdljmcephaa
open Go.RowKit
set_option linter.unusedVariables false
set_option linter.unusedSimpArgs false

theorem over2000 (a b : Int) (h2 : 1 ≤ b) : 2000 / b < a ↔ 2000 < a * b := by
  rw [Int.ediv_lt_iff_lt_mul (by omega)]

set_option maxRecDepth 100000 in
set_option maxHeartbeats 800000 in
theorem once_main (W : World) (R C : Nat) (hR : 1 ≤ R) (hC : 1 ≤ C) (hRC : R * C ≤ 2000) : Calls Try.prog 6 #[.int .i64 R, .int .i64 C] W fun e w' => e = .returned (.bool true) ∧ Kp [] W w' := by
  have hq : ¬ 2000 / (C : Int) < R := by
    rw [over2000 _ _ (by omega)]
    have e : (R : Int) * C = ((R * C : Nat) : Int) := by simp
    omega
  obtain ⟨q, hqq⟩ : ∃ q, q = 2000 / (C : Int) := ⟨_, rfl⟩
  have hq' : 2000 / (C : Int) = q := hqq.symm
  rw [← hqq] at hq
  clear hqq
  have hC2 : C ≤ 2000 := by have := Nat.mul_le_mul_right C hR; omega
  have hR2 : R ≤ 2000 := by have := Nat.mul_le_mul_left R hC; omega
  have HN := Lib.hid (fun w => new_yes w R C hR hC (by omega))
  go_enter Try.func6, Try.ntmps6
  go_wp2_with fail
  refine (works_any W).mono ?_
  rintro e w1 ⟨rfl, k1⟩
  have ks := k1.size
  go_wp2_with fail
  refine (HN.out w1).mono ?_
  rintro e w2 ⟨m, wb, rfl, h2, hm, hwb, k2⟩
  have K2 := k1.trans k2
  have HT : Hid (∀ x ∈ [wb], W.heap.size ≤ x ∨ x ∈ ([] : List Nat)) := by intro x hx; simp at hx; subst hx; left; omega
  clear k1 k2 HN ks
  go_wp2_with fail
  go_loopw [32] (fun i wr => ∃ row : Nat, row ≤ R ∧ i = .int .i64 row ∧ IsM wr m wb R C (List.range (row * C)) ∧ Kp [] W wr) (fun i _ => R - (intOf i).toNat)
  case atStart => exact ⟨0, by omega, rfl, by simpa using h2, K2⟩
  case round =>
    obtain ⟨row, hrow, rfl, hM, hK⟩ := hrel
    by_cases hlt : row < R
    · have hd1 : decide ((row : Int) < (R : Int)) = true := by simp; omega
      go_wp2_with fail
      obtain ⟨wo, rfl⟩ : ∃ wo : World, wo = wr := ⟨_, rfl⟩
      go_loopw [36] (fun i wr => ∃ col : Nat, col ≤ C ∧ i = .int .i64 col ∧ IsM wr m wb R C (List.range (row * C + col)) ∧ Kp [] W wr) (fun i _ => C - (intOf i).toNat)
      case atStart => exact ⟨0, by omega, rfl, hM, hK⟩
      case round =>
        obtain ⟨col, hcol, rfl, hM, hK⟩ := hrel
        by_cases hlt2 : col < C
        · have H1 := has_in wr m wb R C _ hM row col hlt hlt2
          rw [show decide (row * C + col ∈ List.range (row * C + col)) = false from by simp] at H1
          go_wp2_with fail
          refine H1.mono ?_
          rintro e w3 ⟨rfl, rfl⟩
          go_wp2_with fail
          refine (mark_yes wr m wb R C _ hM row col hlt hlt2 (by simp)).mono ?_
          rintro e w3 ⟨rfl, h3, k3⟩
          rw [← List.range_succ] at h3
          have hK3 := hK.into k3 HT.out
          go_wp2_with fail
          refine (mark_in w3 m wb R C _ h3 row col hlt hlt2 (by simp)).mono ?_
          rintro e w4 ⟨rfl, rfl⟩
          have H4 := has_in w3 m wb R C _ h3 row col hlt hlt2
          rw [show decide (row * C + col ∈ List.range (row * C + col + 1)) = true from by simp] at H4
          go_wp2_with fail
          refine H4.mono ?_
          rintro e w4 ⟨rfl, rfl⟩
          go_wp2_with fail
          go_roundw
          case rel => exact ⟨col + 1, by omega, by go_num, h3, hK3⟩
          case measure => simp [intOf]; omega
        · obtain rfl : col = C := by omega
          have hM' : IsM wr m wb R col (List.range ((row + 1) * col)) := by rw [Nat.add_mul, Nat.one_mul]; exact hM
          have e1 : ((row : Int) + 1) * (col : Int) = (((row + 1) * col : Nat) : Int) := by simp
          have hl : (List.range ((row + 1) * col)).length = (row + 1) * col := by simp
          have hle : (row + 1) * col ≤ R * col := Nat.mul_le_mul_right col hlt
          have HF1 := Lib.hid (first_yes' wr m wb R col _ hM' row 0 (by omega) (by omega) (by omega) (by omega) (by simp [Nat.add_mul]; omega) (by intro c hc; simp at hc))
          have HF2 := Lib.hid (first_no wr m wb R col _ hM' ((row : Int) + 1) (by
            intro _ _ c hc hmem
            rw [List.mem_range] at hmem
            rw [show ((row : Int) + 1).toNat = row + 1 by omega] at hmem
            omega))
          have HC := count_any wr m wb R col _ hM'
          rw [hl] at HC
          obtain ⟨z, hz⟩ : ∃ z, z = (row + 1) * col := ⟨_, rfl⟩
          rw [← hz] at e1 HC hle
          have HC' := Lib.hid HC
          have HM := Lib.hid hM'
          clear hz hl HC hM hM'
          go_wp2_with fail
          refine HC'.out.mono ?_
          rintro e w3 ⟨rfl, rfl⟩
          go_wp2_with fail
          refine HF1.out.mono ?_
          rintro e w3 ⟨rfl, rfl⟩
          go_wp2_with fail
          refine HF2.out.mono ?_
          rintro e w3 ⟨rfl, rfl⟩
          go_wp2_with fail
          go_roundw
          case rel => exact ⟨row + 1, by omega, by go_num, HM.out, hK⟩
          case measure => simp [intOf]; omega
    · go_wp2_with fail
      refine (clear_any wr m wb R C _ hM).mono ?_
      rintro e w3 ⟨rfl, h3, k3⟩
      have hK3 := hK.into k3 HT.out
      go_wp2_with fail
      refine (count_any w3 m wb R C _ h3).mono ?_
      rintro e w4 ⟨rfl, rfl⟩
      have H1 := has_in' w3 m wb R C _ h3 0 0 (by omega) (by omega) (by omega) (by omega)
      rw [show decide ((0 : Int).toNat * C + (0 : Int).toNat ∈ ([] : List Nat)) = false from by simp] at H1
      go_wp2_with fail
      refine H1.mono ?_
      rintro e w4 ⟨rfl, rfl⟩
      go_wp2_with fail
      refine (first_no w3 m wb R C _ h3 0 (by intro _ _ c _; simp)).mono ?_
      rintro e w4 ⟨rfl, rfl⟩
      go_wp2_with fail
      go_ret
      exact ⟨rfl, hK3⟩

theorem once_any (W : World) (r c : Int) (_ : (Lit.int .i64 r).wf = true) (_ : (Lit.int .i64 c).wf = true) : Calls Try.prog 6 #[.int .i64 r, .int .i64 c] W fun e w' => e = .returned (.bool true) ∧ Below W.heap.size W w' := by
  by_cases h : 1 ≤ r ∧ 1 ≤ c ∧ r * c ≤ 2000
  · obtain ⟨a, rfl⟩ : ∃ a : Nat, r = a := ⟨r.toNat, by omega⟩
    obtain ⟨b, rfl⟩ : ∃ b : Nat, c = b := ⟨c.toNat, by omega⟩
    have e : (a : Int) * b = ((a * b : Nat) : Int) := by simp
    exact (once_main W a b (by omega) (by omega) (by omega)).mono fun e w' ⟨h1, h2⟩ => ⟨h1, h2.below (Nat.le_refl _) (by simp)⟩
  · have hc : r < 1 ∨ (1 ≤ r ∧ c < 1) ∨ (1 ≤ r ∧ 1 ≤ c ∧ 2000 / c < r) := by
      by_cases h1 : r < 1
      · exact .inl h1
      · by_cases h2 : c < 1
        · exact .inr (.inl ⟨by omega, h2⟩)
        · refine .inr (.inr ⟨by omega, by omega, (over2000 r c (by omega)).2 ?_⟩)
          have := fun h3 => h ⟨by omega, by omega, h3⟩
          omega
    clear h
    rcases hc with h | ⟨h, h'⟩ | ⟨h, h', h2⟩
    · go_enter Try.func6, Try.ntmps6
      go_wp2_with fail
      refine (works_any W).mono ?_
      rintro e w1 ⟨rfl, k1⟩
      go_wp2_with fail
      go_ret
      exact ⟨rfl, k1.below (Nat.le_refl _) (by simp)⟩
    · go_enter Try.func6, Try.ntmps6
      go_wp2_with fail
      refine (works_any W).mono ?_
      rintro e w1 ⟨rfl, k1⟩
      go_wp2_with fail
      go_ret
      exact ⟨rfl, k1.below (Nat.le_refl _) (by simp)⟩
    · obtain ⟨q, hqq⟩ : ∃ q, q = 2000 / c := ⟨_, rfl⟩
      have hq' : 2000 / c = q := hqq.symm
      rw [← hqq] at h2
      clear hqq
      go_enter Try.func6, Try.ntmps6
      go_wp2_with fail
      refine (works_any W).mono ?_
      rintro e w1 ⟨rfl, k1⟩
      go_wp2_with fail
      go_ret
      exact ⟨rfl, k1.below (Nat.le_refl _) (by simp)⟩
end Go.Proofs.Ytmoobdljmcephaa
