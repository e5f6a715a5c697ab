/- Package marks: the chapter's example, and the law MarksRoom: it returns true, for every two integers. -/
import Derived.Test.YtmoobdljmcephaaD
namespace Go.Proofs.Ytmoobdljmcephaa
open Go.RowKit
set_option linter.unusedVariables false
set_option linter.unusedSimpArgs false

def BelowPost (w : World) (most : Int) (e : Ending) (w' : World) : Prop := ∃ r : Nat, (r : Int) < most ∧ e = .returned (.int .i64 r) ∧ w = w'

theorem below_any (n most : Int) (hn : (Lit.int .i64 n).wf = true) (h1 : 1 ≤ most) (h2 : most ≤ 262144) (w : World) : Calls Try.prog 9 #[.int .i64 n, .int .i64 most] w (BelowPost w most) := by
  have hb := Int.tmod_lt_of_pos n (show 0 < most by omega)
  have hb2 : -most < n.tmod most := by
    have := Int.tmod_lt_of_pos (-n) (show 0 < most by omega)
    rw [Int.neg_tmod] at this; omega
  by_cases h0 : 0 ≤ n
  · have e : n.tmod most = n % most := Int.tmod_eq_emod_of_nonneg h0
    rw [e] at hb hb2
    have h3 : 0 ≤ n % most := Int.emod_nonneg _ (by omega)
    obtain ⟨r, hr⟩ : ∃ r : Nat, n % most = r := ⟨(n % most).toNat, by omega⟩
    rw [hr] at hb hb2 h3
    clear e
    go_enter Try.func9, Try.ntmps9
    go_wp2
    go_ret
    exact ⟨r, hb, by rw [← hr]; rfl, rfl⟩
  · by_cases h3 : n.tmod most < 0
    · obtain ⟨r, hr⟩ : ∃ r : Nat, n.tmod most = (r : Int) - most := ⟨(n.tmod most + most).toNat, by omega⟩
      rw [hr] at hb hb2 h3
      go_enter Try.func9, Try.ntmps9
      go_wp2
      go_ret
      exact ⟨r, by omega, rfl, rfl⟩
    · obtain ⟨r, hr⟩ : ∃ r : Nat, n.tmod most = r := ⟨(n.tmod most).toNat, by omega⟩
      rw [hr] at hb hb2 h3
      go_enter Try.func9, Try.ntmps9
      go_wp2
      go_ret
      exact ⟨r, hb, rfl, rfl⟩

theorem new_yes' (w : World) (R C : Int) (h1 : 1 ≤ R) (h2 : 1 ≤ C) (h : R * C ≤ 262144) :
    Calls Try.prog 8 #[.int .i64 R, .int .i64 C] w (NewPost w R.toNat C.toNat) := by
  obtain ⟨R, rfl⟩ : ∃ r : Nat, R = r := ⟨R.toNat, by omega⟩
  obtain ⟨C, rfl⟩ : ∃ r : Nat, C = r := ⟨C.toNat, by omega⟩
  have e : (R : Int) * C = ((R * C : Nat) : Int) := by simp
  exact new_yes w R C (by omega) (by omega) (by omega)
theorem mark_yes' (w : World) (m wb R C L) (h : IsM w m wb R C L) (row col : Int) (h0 : 0 ≤ row) (hr : row < R) (h1 : 0 ≤ col) (hc : col < C) (hm : row.toNat * C + col.toNat ∉ L) :
    Calls Try.prog 10 #[.pointer (some ⟨m, 0, none⟩), .int .i64 row, .int .i64 col] w fun e w' => e = .returned (.bool true) ∧ IsM w' m wb R C (L ++ [row.toNat * C + col.toNat]) ∧ Kp [wb] w w' := by
  obtain ⟨row, rfl⟩ : ∃ r : Nat, row = r := ⟨row.toNat, by omega⟩
  obtain ⟨col, rfl⟩ : ∃ r : Nat, col = r := ⟨col.toNat, by omega⟩
  exact mark_yes w m wb R C L h row col (by omega) (by omega) (by simpa using hm)
theorem mark_in' (w : World) (m wb R C L) (h : IsM w m wb R C L) (row col : Int) (h0 : 0 ≤ row) (hr : row < R) (h1 : 0 ≤ col) (hc : col < C) (hm : row.toNat * C + col.toNat ∈ L) :
    Calls Try.prog 10 #[.pointer (some ⟨m, 0, none⟩), .int .i64 row, .int .i64 col] w fun e w' => e = .returned (.bool false) ∧ w = w' := by
  obtain ⟨row, rfl⟩ : ∃ r : Nat, row = r := ⟨row.toNat, by omega⟩
  obtain ⟨col, rfl⟩ : ∃ r : Nat, col = r := ⟨col.toNat, by omega⟩
  exact mark_in w m wb R C L h row col (by omega) (by omega) (by simpa using hm)
theorem has_in' (w : World) (m wb R C L) (h : IsM w m wb R C L) (row col : Int) (h0 : 0 ≤ row) (hr : row < R) (h1 : 0 ≤ col) (hc : col < C) :
    Calls Try.prog 11 #[.pointer (some ⟨m, 0, none⟩), .int .i64 row, .int .i64 col] w fun e w' => e = .returned (.bool (decide (row.toNat * C + col.toNat ∈ L))) ∧ w = w' := by
  obtain ⟨row, rfl⟩ : ∃ r : Nat, row = r := ⟨row.toNat, by omega⟩
  obtain ⟨col, rfl⟩ : ∃ r : Nat, col = r := ⟨col.toNat, by omega⟩
  exact has_in w m wb R C L h row col (by omega) (by omega)
theorem first_yes' (w : World) (m wb R C L) (h : IsM w m wb R C L) (row c : Int) (h0 : 0 ≤ row) (hr : row < R) (h1 : 0 ≤ c) (hc : c < C) (hm : row.toNat * C + c.toNat ∈ L) (hn : noneB L C row.toNat c.toNat) :
    Calls Try.prog 17 #[.pointer (some ⟨m, 0, none⟩), .int .i64 row] w fun e w' => e = .returned (.int .i64 c) ∧ w = w' := by
  obtain ⟨row, rfl⟩ : ∃ r : Nat, row = r := ⟨row.toNat, by omega⟩
  obtain ⟨c, rfl⟩ : ∃ r : Nat, c = r := ⟨c.toNat, by omega⟩
  exact first_yes w m wb R C L h row c (by omega) (by omega) (by simpa using hm) (by simpa using hn)

theorem works_any (w : World) : Calls Try.prog 7 #[] w fun e w' => e = .returned (.bool true) ∧ Kp [] w w' := by
  go_enter Try.func7, Try.ntmps7
  go_wp2_with fail
  refine (new_yes' w 2 70 (by omega) (by omega) (by omega)).mono ?_
  rintro e w1 ⟨m, wb, rfl, h1, hm, hwb, k1⟩
  rw [show (2 : Int).toNat = 2 from rfl, show (70 : Int).toNat = 70 from rfl] at h1
  go_wp2_with fail
  refine (mark_yes' w1 m wb 2 70 [] h1 1 69 (by omega) (by omega) (by omega) (by omega) (by simp)).mono ?_
  rintro e w2 ⟨rfl, h2, k2⟩
  rw [show [] ++ [(1 : Int).toNat * 70 + (69 : Int).toNat] = [139] from rfl] at h2
  go_wp2_with fail
  refine (mark_in' w2 m wb 2 70 [139] h2 1 69 (by omega) (by omega) (by omega) (by omega) (by decide)).mono ?_
  rintro e w3 ⟨rfl, rfl⟩
  go_wp2_with fail
  refine (first_yes' w2 m wb 2 70 [139] h2 1 69 (by omega) (by omega) (by omega) (by omega) (by decide) (by intro c hc; simp at hc ⊢; omega)).mono ?_
  rintro e w3 ⟨rfl, rfl⟩
  go_wp2_with fail
  refine (first_no w2 m wb 2 70 [139] h2 0 (by intro _ _ c hc; simp; omega)).mono ?_
  rintro e w3 ⟨rfl, rfl⟩
  go_wp2_with fail
  refine (count_any w2 m wb 2 70 [139] h2).mono ?_
  rintro e w3 ⟨rfl, rfl⟩
  go_wp2_with fail
  refine (mark_out w2 m wb 2 70 [139] h2 2 0 (by omega)).mono ?_
  rintro e w3 ⟨rfl, rfl⟩
  go_wp2_with fail
  refine (mark_out w2 m wb 2 70 [139] h2 0 70 (by omega)).mono ?_
  rintro e w3 ⟨rfl, rfl⟩
  go_wp2_with fail
  go_ret
  exact ⟨rfl, k1.into k2 (by simp; omega)⟩

theorem room_any (W : World) (r c : Int) (wr : (Lit.int .i64 r).wf = true) (wc : (Lit.int .i64 c).wf = true) : Calls Try.prog 4 #[.int .i64 r, .int .i64 c] W fun e w' => e = .returned (.bool true) ∧ Below W.heap.size W w' := by
  by_cases hbig : r ≤ 1099511627776 ∧ c ≤ 1048576
  · obtain ⟨hr, hc⟩ := hbig
    by_cases hsm : r < 1 ∨ c < 1
    · have H := fun w => new_range w r c hsm
      have HH := Lib.hid H
      clear H
      rcases (show r < 1 ∨ (1 ≤ r ∧ c < 1) from by omega) with h | ⟨h, h'⟩
      all_goals
        clear hsm
        go_enter Try.func4, Try.ntmps4
        go_wp2_with fail
        refine (works_any W).mono ?_
        rintro e w1 ⟨rfl, k1⟩
        go_wp2_with fail
        refine (HH.out w1).mono ?_
        rintro e w2 ⟨rfl, rfl⟩
        go_wp2_with fail
        go_ret
        exact ⟨rfl, k1.below (Nat.le_refl _) (by simp)⟩
    · have hr1 : 1 ≤ r := by omega
      have hc1 : 1 ≤ c := by omega
      clear hsm
      have hp0 : 0 < r * c := Int.mul_pos (by omega) (by omega)
      have hp1 : r * c ≤ 1099511627776 * 1048576 := Int.mul_le_mul hr hc (by omega) (by omega)
      obtain ⟨p, hp⟩ : ∃ p, p = r * c := ⟨_, rfl⟩
      have hp' : r * c = p := hp.symm
      rw [← hp] at hp0 hp1
      by_cases hl : 262144 < p
      · have HH := Lib.hid (fun w => new_long w r c hr1 hc1 (by omega))
        clear hp
        go_enter Try.func4, Try.ntmps4
        go_wp2_with fail
        refine (works_any W).mono ?_
        rintro e w1 ⟨rfl, k1⟩
        go_wp2_with fail
        refine (HH.out w1).mono ?_
        rintro e w2 ⟨rfl, rfl⟩
        go_wp2_with fail
        go_ret
        exact ⟨rfl, k1.below (Nat.le_refl _) (by simp)⟩
      · have HH := Lib.hid (fun w => new_yes' w r c hr1 hc1 (by omega))
        clear hp
        go_enter Try.func4, Try.ntmps4
        go_wp2_with fail
        refine (works_any W).mono ?_
        rintro e w1 ⟨rfl, k1⟩
        have ks := k1.size
        go_wp2_with fail
        refine (HH.out w1).mono ?_
        rintro e w2 ⟨m, wb, rfl, h2, hm, hwb, k2⟩
        go_wp2_with fail
        refine (count_any w2 m wb _ _ _ h2).mono ?_
        rintro e w3 ⟨rfl, rfl⟩
        go_wp2_with fail
        refine (mark_yes' w2 m wb _ _ _ h2 (r - 1) (c - 1) (by omega) (by omega) (by omega) (by omega) (by simp)).mono ?_
        rintro e w3 ⟨rfl, h3, k3⟩
        go_wp2_with fail
        go_ret
        exact ⟨rfl, ((k1.trans k2).into k3 (by simp; omega)).below (Nat.le_refl _) (by simp)⟩
  · rcases (show 1099511627776 < r ∨ (r ≤ 1099511627776 ∧ 1048576 < c) from by omega) with h | ⟨h, h'⟩
    all_goals
      clear hbig
      go_enter Try.func4, Try.ntmps4
      go_wp2_with fail
      refine (works_any W).mono ?_
      rintro e w1 ⟨rfl, k1⟩
      go_wp2_with fail
      go_ret
      exact ⟨rfl, k1.below (Nat.le_refl _) (by simp)⟩
end Go.Proofs.Ytmoobdljmcephaa
