/- burinlaw32.GaugeTotal: it answers true, for all bit patterns (the walk). -/
import Derived.Test.YtlahjieodcoecaaW
import Derived.Test.YtlahjieodcoecaaO
namespace Go.Proofs.Ytlahjieodcoecaa
open Go.RowKit
set_option linter.unusedVariables false

set_option maxHeartbeats 8000000 in
theorem total_walk (W : World) (a b c : Nat) (x y z k1 k2 : Int) (l : Bool)
    (Hab : ∀ w, Calls Try.prog 16 #[.float .f64 a, .float .f64 b] w fun e w' => e = .returned (.int .i64 x) ∧ w = w')
    (Hbc : ∀ w, Calls Try.prog 16 #[.float .f64 b, .float .f64 c] w fun e w' => e = .returned (.int .i64 y) ∧ w = w')
    (Hac : ∀ w, Calls Try.prog 16 #[.float .f64 a, .float .f64 c] w fun e w' => e = .returned (.int .i64 z) ∧ w = w')
    (Hba : ∀ w, Calls Try.prog 16 #[.float .f64 b, .float .f64 a] w fun e w' => e = .returned (.int .i64 (-x)) ∧ w = w')
    (Haa : ∀ w, Calls Try.prog 16 #[.float .f64 a, .float .f64 a] w fun e w' => e = .returned (.int .i64 0) ∧ w = w')
    (Hka : ∀ w, Calls Try.prog 17 #[.float .f64 a] w fun e w' => e = .returned (.int .u64 k1) ∧ w = w')
    (Hkb : ∀ w, Calls Try.prog 17 #[.float .f64 b] w fun e w' => e = .returned (.int .u64 k2) ∧ w = w')
    (hl : (FloatKind.f64.format.order a b == some .lt) = l)
    (hx : (x = -1 ∧ k1 < k2) ∨ (x = 0 ∧ k1 = k2 ∧ l = false) ∨ (x = 1 ∧ k2 < k1 ∧ l = false))
    (hy : y = -1 ∨ y = 0 ∨ y = 1) (hz : z = -1 ∨ z = 0 ∨ z = 1)
    (h1 : x ≤ 0 → y ≤ 0 → z ≤ 0) (h2 : x = 0 → z = y) :
    Calls Try.prog 4 #[.float .f64 a, .float .f64 b, .float .f64 c] W fun e w' => e = .returned (.bool true) ∧ Below W.heap.size W w' := by
  have hx' : (x = -1 ∧ k1 < k2 ∧ (k1 == k2) = false ∧ l = true) ∨ (x = -1 ∧ k1 < k2 ∧ (k1 == k2) = false ∧ l = false) ∨ (x = 0 ∧ k1 = k2 ∧ l = false) ∨ (x = 1 ∧ k2 < k1 ∧ (k1 == k2) = false ∧ l = false) := by
    rcases hx with ⟨rfl, hk⟩ | ⟨rfl, rfl, rfl⟩ | ⟨rfl, hk, rfl⟩
    · cases l
      · exact .inr (.inl ⟨rfl, hk, by simp; omega, rfl⟩)
      · exact .inl ⟨rfl, hk, by simp; omega, rfl⟩
    · exact .inr (.inr (.inl ⟨rfl, rfl, rfl⟩))
    · exact .inr (.inr (.inr ⟨rfl, hk, by simp; omega, rfl⟩))
  clear hx
  rcases hx' with ⟨rfl, hk, he, rfl⟩ | ⟨rfl, hk, he, rfl⟩ | ⟨rfl, rfl, rfl⟩ | ⟨rfl, hk, he, rfl⟩ <;> rcases hy with rfl | rfl | rfl <;> rcases hz with rfl | rfl | rfl <;> first | (exact absurd (h1 (by omega) (by omega)) (by omega)) | (exact absurd (h2 rfl) (by omega)) | skip
  all_goals clear h1 h2
  all_goals go_enter Try.func4, Try.ntmps4
  all_goals go_wp2_with fail
  all_goals refine (works_any _).mono ?_
  all_goals rintro e w1 ⟨rfl, k⟩
  all_goals go_wp2_with fail
  all_goals refine (Hab _).mono ?_
  all_goals rintro e w1 ⟨rfl, rfl⟩
  all_goals go_wp2_with fail
  all_goals refine (Hbc _).mono ?_
  all_goals rintro e w1 ⟨rfl, rfl⟩
  all_goals go_wp2_with fail
  all_goals refine (Hac _).mono ?_
  all_goals rintro e w1 ⟨rfl, rfl⟩
  all_goals go_wp2_with fail
  all_goals refine (Hba _).mono ?_
  all_goals rintro e w1 ⟨rfl, rfl⟩
  all_goals go_wp2_with fail
  all_goals refine (Haa _).mono ?_
  all_goals rintro e w1 ⟨rfl, rfl⟩
  all_goals go_wp2_with fail
  all_goals refine (Hka _).mono ?_
  all_goals rintro e w1 ⟨rfl, rfl⟩
  all_goals go_wp2_with fail
  all_goals refine (Hkb _).mono ?_
  all_goals rintro e w1 ⟨rfl, rfl⟩
  all_goals go_wp2_with fail
  all_goals refine (Hka _).mono ?_
  all_goals rintro e w1 ⟨rfl, rfl⟩
  all_goals go_wp2_with fail
  all_goals refine (Hkb _).mono ?_
  all_goals rintro e w1 ⟨rfl, rfl⟩
  all_goals go_wp2
  all_goals go_ret
  all_goals refine ⟨congrArg (fun z => Ending.returned (.bool z)) ?_, k.below (Nat.le_refl _) (by simp)⟩
  all_goals first | rfl | (simp [he]; done) | (simp [he]; omega) | (simp; done)

theorem ord_vals (a b : Nat) : (ord a b = -1 ∧ key a < key b) ∨ (ord a b = 0 ∧ key a = key b) ∨ (ord a b = 1 ∧ key b < key a) := by
  unfold ord
  by_cases h1 : key a < key b
  · rw [if_pos h1]; exact .inl ⟨rfl, h1⟩
  · rw [if_neg h1]
    by_cases h2 : key b < key a
    · rw [if_pos h2]; exact .inr (.inr ⟨rfl, h2⟩)
    · rw [if_neg h2]; exact .inr (.inl ⟨rfl, by omega⟩)

theorem total_any (W : World) (a b c : Nat) (ha : (Lit.float .f64 a).wf = true) (hb : (Lit.float .f64 b).wf = true) (hc : (Lit.float .f64 c).wf = true) :
    Calls Try.prog 4 #[.float .f64 a, .float .f64 b, .float .f64 c] W fun e w' => e = .returned (.bool true) ∧ Below W.heap.size W w' := by
  have ha : a < 18446744073709551616 := by simpa [Lit.wf] using ha
  have hb : b < 18446744073709551616 := by simpa [Lit.wf] using hb
  have hc : c < 18446744073709551616 := by simpa [Lit.wf] using hc
  have vab := ord_vals a b
  have vbc := ord_vals b c
  have vac := ord_vals a c
  have vba := ord_vals b a
  have vaa := ord_vals a a
  have hl : (FloatKind.f64.format.order a b == some .lt) = true → key a < key b := fun h => lt_key a b ha hb (by simpa using h)
  refine total_walk W a b c (ord a b) (ord b c) (ord a c) (key a) (key b) _ (order_any a b ha hb) (order_any b c hb hc) (order_any a c ha hc) (fun w => ?_) (fun w => ?_) (key_any a ha) (key_any b hb) rfl ?_ ?_ ?_ ?_ ?_
  · have := order_any b a hb ha w
    rwa [show ord b a = -ord a b from by omega] at this
  · have := order_any a a ha ha w
    rwa [show ord a a = 0 from by omega] at this
  · generalize (FloatKind.f64.format.order a b == some .lt) = l at hl
    cases l
    · simp; omega
    · have := hl rfl
      left; omega
  · omega
  · omega
  · intro h h'; omega
  · intro h; omega
end Go.Proofs.Ytlahjieodcoecaa
