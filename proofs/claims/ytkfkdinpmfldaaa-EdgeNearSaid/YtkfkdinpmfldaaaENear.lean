/- Package edge, the law EdgeNear: it returns true, for every three texts. -/
import Derived.Test.YtkfkdinpmfldaaaE5
import Derived.Deep.RegionHeld3
namespace Go.Proofs.Ytkfkdinpmfldaaa
open Go.RowKit
set_option linter.unusedVariables false
set_option linter.unusedSimpArgs false

theorem notEmpty (a : ByteArray) (h : 0 < a.size) : a.toList.isEmpty = false := by
  have e : a.toList = a.data.toList := Lib.toList_data a
  rw [e]
  cases hl : a.data.toList with
  | nil => have : a.size = 0 := by show a.data.size = 0; rw [← Array.length_toList, hl]; rfl
           omega
  | cons x l => rfl
theorem near1 (a b c : ByteArray) (ha : 0 < a.size) (hb : 0 < b.size) : atV (c ++ a ++ b ++ c) ((c.size : Int) + a.size) = btw (byI a ((a.size : Int) - 1)) (byI b 0) := by
  have s1 : (c ++ a).size = c.size + a.size := by simp [ByteArray.size_append]
  have s2 : (c ++ a ++ b).size = c.size + a.size + b.size := by simp [ByteArray.size_append]
  have s3 : (c ++ a ++ b ++ c).size = c.size + a.size + b.size + c.size := by simp [ByteArray.size_append]
  unfold atV
  rw [if_neg (by omega), byI_app_l (c ++ a ++ b) c _ (by omega), byI_app_l (c ++ a ++ b) c _ (by omega), byI_app_l (c ++ a) b _ (by omega), byI_app_r c a _ (by omega), byI_app_r (c ++ a) b _ (by omega)]
  rw [s1]
  rw [show (c.size : Int) + a.size - 1 - c.size = (a.size : Int) - 1 from by omega, show (c.size : Int) + a.size - ((c.size + a.size : Nat) : Int) = 0 from by omega]
theorem near2 (a b : ByteArray) (ha : 0 < a.size) (hb : 0 < b.size) : atV (a ++ b) a.size = btw (byI a ((a.size : Int) - 1)) (byI b 0) := by
  have s1 : (a ++ b).size = a.size + b.size := by simp [ByteArray.size_append]
  unfold atV
  rw [if_neg (by omega), byI_app_l a b _ (by omega), byI_app_r a b _ (by omega)]
  rw [show (a.size : Int) - a.size = 0 from by omega]
theorem byI_extract (a : ByteArray) (i j : Nat) (hij : i ≤ j) (hj : j ≤ a.size) (k : Int) (h0 : 0 ≤ k) (hk : k < (j - i : Nat)) : byI (a.extract i j) k = byI a (i + k) := by
  have s1 : (a.extract i j).size = j - i := by simp; omega
  rw [byI_in h0 (by omega) k.toNat rfl (by omega), byI_in (by omega) (by omega) (i + k.toNat) (by omega) (by omega), ByteArray.getElem_extract]
theorem near3 (a b : ByteArray) (ha : 0 < a.size) (hb : 0 < b.size) : atV (a.extract (a.size - 1) a.size ++ b.extract 0 1) 1 = btw (byI a ((a.size : Int) - 1)) (byI b 0) := by
  have e1 : (a.extract (a.size - 1) a.size).size = 1 := by simp; omega
  have e2 : (b.extract 0 1).size = 1 := by simp; omega
  have s1 : (a.extract (a.size - 1) a.size ++ b.extract 0 1).size = 2 := by rw [ByteArray.size_append, e1, e2]
  unfold atV
  rw [if_neg (by omega), byI_app_l _ _ _ (by omega), byI_app_r _ _ _ (by omega)]
  rw [e1, byI_extract a _ _ (by omega) (by omega) _ (by omega) (by omega), byI_extract b _ _ (by omega) (by omega) _ (by omega) (by omega)]
  rw [show ((a.size - 1 : Nat) : Int) + (1 - 1) = (a.size : Int) - 1 from by omega]
  rfl

set_option maxHeartbeats 8000000 in
theorem near_main (W : World) (a b c : ByteArray) (ha : 0 < a.size) (hb : 0 < b.size) (ha3 : a.size ≤ 300) (hb3 : b.size ≤ 300) (hc3 : c.size ≤ 300) :
    Calls Try.prog 6 #[.string a, .string b, .string c] W fun e w' => e = .returned (.bool true) ∧ Kp [] W w' := by
  have na : a.toList.isEmpty = false := notEmpty a ha
  have nb : b.toList.isEmpty = false := notEmpty b hb
  go_enter Try.func6, Try.ntmps6
  go_wp2_with fail
  refine (works_any W).mono ?_
  rintro e w1 ⟨rfl, k1⟩
  have s1 : IntKind.i64.wrap ((c.size : Int) + a.size) = (c.size : Int) + a.size := by rw [IntKind.wrap_i64]; omega
  have s2 : IntKind.i64.wrap ((a.size : Int) - 1) = (a.size : Int) - 1 := by rw [IntKind.wrap_i64]; omega
  have s3 : (0 : Int) ≤ (a.size : Int) - 1 := by omega
  have s4 : (a.size : Int) - 1 < a.size := by omega
  have s5 : ((a.size : Int) - 1).toNat = a.size - 1 := by omega
  have s6 : (0 : Int) < b.size := by omega
  have s7 : (1 : Int) ≤ b.size := by omega
  have s8 : (a.size : Int) - 1 ≤ a.size := by omega
  have s9 : (1 : Int) ≤ a.size := by omega
  have p0 : ∀ w, (Instr.slice 9 (.string a) (some (.int .i64 ((a.size : Int) - 1))) none none).run Try.prog w = .ok (.string (a.extract (a.size - 1) a.size)) w := fun w => by rw [run_slice_string_l (ht := Try.underlying9) (h0 := by omega) (h1 := by omega), s5]
  have p1 : ∀ w, (Op.stringOp .add c a).run Try.prog w = .ok (.string (c ++ a)) w := fun w => run_string_add_sum w c a (by omega)
  have p2 : ∀ w, (Op.stringOp .add (c ++ a) b).run Try.prog w = .ok (.string (c ++ a ++ b)) w := fun w => run_string_add_sum w _ b (by rw [ByteArray.size_append]; omega)
  have p3 : ∀ w, (Op.stringOp .add (c ++ a ++ b) c).run Try.prog w = .ok (.string (c ++ a ++ b ++ c)) w := fun w => run_string_add_sum w _ c (by rw [ByteArray.size_append, ByteArray.size_append]; omega)
  have p4 : ∀ w, (Op.stringOp .add a b).run Try.prog w = .ok (.string (a ++ b)) w := fun w => run_string_add_sum w a b (by omega)
  have e1 : (a.extract (a.size - 1) a.size).size = 1 := by simp; omega
  have e2 : (b.extract 0 1).size = 1 := by simp; omega
  have p5 : ∀ w, (Op.stringOp .add (a.extract (a.size - 1) a.size) (b.extract 0 1)).run Try.prog w = .ok (.string (a.extract (a.size - 1) a.size ++ b.extract 0 1)) w := fun w => run_string_add_sum w _ _ (by omega)
  have z1 : (c ++ a ++ b ++ c).size ≤ 140737488351232 := by simp [ByteArray.size_append]; omega
  have z2 : (a ++ b).size ≤ 140737488351232 := by simp [ByteArray.size_append]; omega
  have z3 : (a.extract (a.size - 1) a.size ++ b.extract 0 1).size ≤ 140737488351232 := by rw [ByteArray.size_append, e1, e2]; omega
  have HZ := Lib.hid (And.intro z1 (And.intro z2 z3))
  clear z1 z2 z3
  have la : a.size - 1 < a.size := by omega
  have lb : 0 < b.size := hb
  obtain ⟨x, hx⟩ : ∃ x, x = btw (byI a ((a.size : Int) - 1)) (byI b 0) := ⟨_, rfl⟩
  have ya : byI a ((a.size : Int) - 1) = (a[a.size - 1]'la).toNat := byI_in (by omega) (by omega) _ (by omega) _
  have yb : byI b 0 = (b[0]'lb).toNat := byI_in (by omega) (by omega) _ (by omega) _
  have x1 := near1 a b c ha hb
  have x2 := near2 a b ha hb
  have x3 := near3 a b ha hb
  rw [← hx] at x1 x2 x3
  have x4 : btw (bO (IntKind.i64.wrap (a[a.size - 1]'la).toNat)) (bO (IntKind.i64.wrap (b[0]'lb).toNat)) = x := by
    rw [hx, ya, yb]
    have e : ∀ n, IntKind.i64.wrap n = wrap64 n := fun n => by rw [IntKind.wrap_i64]; unfold wrap64; omega
    rw [e, e, bO_byte, bO_byte]
  have C1 : Hid (∀ w', Kp [] W w' → Calls Try.prog 11 #[.string (c ++ a ++ b ++ c), .int .i64 ((c.size : Int) + a.size)] w' fun e w'' => e = .returned (.int .i64 x) ∧ Kp [] W w'') := fun w' k => (at_any _ _ HZ.out.1 w').mono fun e w'' ⟨h1, h2⟩ => ⟨by rw [h1, x1], k.trans h2⟩
  have C2 : Hid (∀ w', Kp [] W w' → Calls Try.prog 11 #[.string (a ++ b), .int .i64 a.size] w' fun e w'' => e = .returned (.int .i64 x) ∧ Kp [] W w'') := fun w' k => (at_any _ _ HZ.out.2.1 w').mono fun e w'' ⟨h1, h2⟩ => ⟨by rw [h1, x2], k.trans h2⟩
  have C3 : Hid (∀ w', Kp [] W w' → Calls Try.prog 11 #[.string (a.extract (a.size - 1) a.size ++ b.extract 0 1), .int .i64 1] w' fun e w'' => e = .returned (.int .i64 x) ∧ Kp [] W w'') := fun w' k => (at_any _ _ HZ.out.2.2 w').mono fun e w'' ⟨h1, h2⟩ => ⟨by rw [h1, x3], k.trans h2⟩
  have C4 : Hid (∀ w', Kp [] W w' → Calls Try.prog 7 #[.int .i64 (IntKind.i64.wrap (a[a.size - 1]'la).toNat), .int .i64 (IntKind.i64.wrap (b[0]'lb).toNat)] w' fun e w'' => e = .returned (.int .i64 x) ∧ Kp [] W w'') := fun w' k => (between_any _ _ w').mono fun e w'' ⟨h1, h2⟩ => ⟨by rw [h1, x4], k.trans h2⟩
  clear hx ya yb x1 x2 x3 x4 e1 e2
  go_wp2_with fail
  go_region_held3 (fun w' => Kp [] W w') (first | assumption | exact Kp.drew (by assumption)) (first | (go_at_call_of 11 (c ++ a ++ b ++ c); refine (C1.out _ (by assumption)).mono ?_; rintro e w' ⟨rfl, k2⟩) | (go_at_call_of 11 (a ++ b); refine (C2.out _ (by assumption)).mono ?_; rintro e w' ⟨rfl, k2⟩) | (go_at_call 11; refine (C3.out _ (by assumption)).mono ?_; rintro e w' ⟨rfl, k2⟩) | (go_at_call 7; refine (C4.out _ (by assumption)).mono ?_; rintro e w' ⟨rfl, k2⟩))
  all_goals
    go_wp2_with fail
    go_ret
    exact ⟨rfl, by assumption⟩

theorem near_any (W : World) (a b c : ByteArray) (_ : a.size ≤ 140737488351232) (_ : b.size ≤ 140737488351232) (_ : c.size ≤ 140737488351232) :
    Calls Try.prog 6 #[.string a, .string b, .string c] W fun e w' => e = .returned (.bool true) ∧ Below W.heap.size W w' := by
  by_cases h : 0 < a.size ∧ 0 < b.size ∧ a.size ≤ 300 ∧ b.size ≤ 300 ∧ c.size ≤ 300
  · exact (near_main W a b c h.1 h.2.1 h.2.2.1 h.2.2.2.1 h.2.2.2.2).mono fun e w' ⟨h1, h2⟩ => ⟨h1, h2.below (Nat.le_refl _) (by simp)⟩
  · have hcase : (a.toList.isEmpty = true) ∨ (a.toList.isEmpty = false ∧ b.toList.isEmpty = true) ∨ (a.toList.isEmpty = false ∧ b.toList.isEmpty = false ∧ 300 < a.size) ∨ (a.toList.isEmpty = false ∧ b.toList.isEmpty = false ∧ a.size ≤ 300 ∧ 300 < b.size) ∨ (a.toList.isEmpty = false ∧ b.toList.isEmpty = false ∧ a.size ≤ 300 ∧ b.size ≤ 300 ∧ 300 < c.size) := by
      have ea := fun h => notEmpty a h
      have eb := fun h => notEmpty b h
      cases h1 : a.toList.isEmpty
      · cases h2 : b.toList.isEmpty
        · have a0 : 0 < a.size := by
            refine Nat.pos_of_ne_zero fun h0 => ?_
            have : a.toList.isEmpty = true := by rw [Lib.toList_data a, List.isEmpty_iff, ← List.length_eq_zero_iff]; simpa using h0
            rw [this] at h1; cases h1
          have b0 : 0 < b.size := by
            refine Nat.pos_of_ne_zero fun h0 => ?_
            have : b.toList.isEmpty = true := by rw [Lib.toList_data b, List.isEmpty_iff, ← List.length_eq_zero_iff]; simpa using h0
            rw [this] at h2; cases h2
          right; right
          simp
          omega
        · right; left; exact ⟨rfl, rfl⟩
      · left; rfl
    clear h
    rcases hcase with h | ⟨h, h1⟩ | ⟨h, h1, h2⟩ | ⟨h, h1, h2, h3⟩ | ⟨h, h1, h2, h3, h4⟩
    all_goals
      go_enter Try.func6, Try.ntmps6
      go_wp2_with fail
      refine (works_any W).mono ?_
      rintro e w1 ⟨rfl, k1⟩
      go_wp2_with fail
      go_ret
      exact ⟨rfl, k1.below (Nat.le_refl _) (by simp)⟩
end Go.Proofs.Ytkfkdinpmfldaaa
