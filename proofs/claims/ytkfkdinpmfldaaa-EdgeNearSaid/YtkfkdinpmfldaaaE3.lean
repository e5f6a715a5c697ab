/- The reference of package edge: its Holds. -/
import Derived.Test.YtkfkdinpmfldaaaE2
import Derived.Lib.ConvBytes
namespace Go.Proofs.Ytkfkdinpmfldaaa
open Go.RowKit
set_option linter.unusedVariables false
set_option linter.unusedSimpArgs false

/-- The reference's Holds, at a place of the text. -/
def rH0 (k : Int) (s : ByteArray) (i : Int) : Bool :=
  if k = 1 then i == 0 else if k = 2 then i == s.size else if k = 3 then (i == 0 || byI s (i - 1) == 10) else if k = 4 then (i == s.size || byI s i == 10) else
  if k = 5 then wB (byI s (i - 1)) != wB (byI s i) else if k = 6 then wB (byI s (i - 1)) == wB (byI s i) else false
def rH (k : Int) (s : ByteArray) (i : Int) : Bool := if i < 0 ∨ s.size < i then false else rH0 k s i

theorem rH0_eval {k : Int} {s : ByteArray} {i ya yb : Int} {f l : Bool} (hA : byI s (i - 1) = ya) (hB : byI s i = yb) (hf : (i == 0) = f) (hl : (i == s.size) = l) :
    rH0 k s i = if k = 1 then f else if k = 2 then l else if k = 3 then (f || ya == 10) else if k = 4 then (l || yb == 10) else if k = 5 then wB ya != wB yb else if k = 6 then wB ya == wB yb else false := by
  unfold rH0; rw [hA, hB, hf, hl]

theorem wrap_byte (x : UInt8) : wrap64 (x.toNat : Int) = x.toNat := by
  have := x.toNat_lt
  unfold wrap64
  omega

set_option maxHeartbeats 1600000 in
theorem holdsRef_any (k : Int) (s : ByteArray) (i : Int) (hs : s.size ≤ 140737488351232) (w : World) : Calls Try.prog 14 #[.int .i64 k, .string s, .int .i64 i] w fun e w' => e = .returned (.bool (rH k s i)) ∧ w = w' := by
  obtain ⟨b, hb⟩ : ∃ b, b = rH k s i := ⟨_, rfl⟩
  rw [← hb]
  unfold rH at hb
  have HB := Lib.hid hb
  clear hb
  by_cases h0 : i < 0
  · go_enter Try.func14, Try.ntmps14
    go_wp2_with fail
    go_ret
    exact ⟨congrArg (fun z => Ending.returned (.bool z)) (by rw [HB.out, if_pos (.inl h0)]), rfl⟩
  by_cases h1 : (s.size : Int) < i
  · go_enter Try.func14, Try.ntmps14
    go_wp2_with fail
    go_ret
    exact ⟨congrArg (fun z => Ending.returned (.bool z)) (by rw [HB.out, if_pos (.inr h1)]), rfl⟩
  have hb' := HB.out
  rw [if_neg (by omega)] at hb'
  have HR := Lib.hid hb'
  clear HB hb'
  have hW := fun c w => wordRef_any c w
  have HW := Lib.hid hW
  clear hW
  have hw0 : wB (-1) = false := by decide
  by_cases hi : i = 0
  · subst hi
    have HA : Hid (byI s (0 - 1) = -1) := byI_out (.inl (by omega))
    have E0 : ((0 : Int) == 0) = true := rfl
    by_cases hz : 0 < s.size
    · have E1 : (((0 : Int) == (s.size : Int))) = false := by rw [beq_eq_false_iff_ne]; omega
      have HBy : Hid (byI s 0 = _) := byI_in (i := 0) (by omega) (by omega) 0 rfl (by omega)
      rcases (show k = 1 ∨ k = 2 ∨ k = 3 ∨ k = 4 ∨ k = 5 ∨ k = 6 ∨ ((k == 1) = false ∧ (k == 2) = false ∧ (k == 3) = false ∧ (k == 4) = false ∧ (k == 5) = false ∧ (k == 6) = false) from by simp only [beq_eq_false_iff_ne]; omega) with rfl | rfl | rfl | rfl | rfl | rfl | ⟨h1, h2, h3, h4, h5, h6⟩
      all_goals
        go_enter Try.func14, Try.ntmps14
        go_wp2_with (go_at_call 10; refine (HW.out _ _).mono ?_; rintro e w' ⟨rfl, rfl⟩)
        go_ret
        refine ⟨congrArg (fun z => Ending.returned (.bool z)) ?_, rfl⟩
        rw [HR.out, rH0_eval HA.out HBy.out E0 E1]
        simp only [wrap_byte, hw0, reduceIte, Int.reduceEq, Bool.true_or, Bool.false_or, Int.reduceBEq]
        try (first | rfl | (cases wB _ <;> rfl) | (generalize wB _ = p; cases p <;> rfl) | grind)
    · have E1 : (((0 : Int) == (s.size : Int))) = true := by rw [beq_iff_eq]; omega
      have HBy : Hid (byI s 0 = -1) := byI_out (.inr (by omega))
      rcases (show k = 1 ∨ k = 2 ∨ k = 3 ∨ k = 4 ∨ k = 5 ∨ k = 6 ∨ ((k == 1) = false ∧ (k == 2) = false ∧ (k == 3) = false ∧ (k == 4) = false ∧ (k == 5) = false ∧ (k == 6) = false) from by simp only [beq_eq_false_iff_ne]; omega) with rfl | rfl | rfl | rfl | rfl | rfl | ⟨h1, h2, h3, h4, h5, h6⟩
      all_goals
        go_enter Try.func14, Try.ntmps14
        go_wp2_with (go_at_call 10; refine (HW.out _ _).mono ?_; rintro e w' ⟨rfl, rfl⟩)
        go_ret
        refine ⟨congrArg (fun z => Ending.returned (.bool z)) ?_, rfl⟩
        rw [HR.out, rH0_eval HA.out HBy.out E0 E1]
        simp only [wrap_byte, hw0, reduceIte, Int.reduceEq, Bool.true_or, Bool.false_or, Int.reduceBEq]
        try (first | rfl | (cases wB _ <;> rfl) | (generalize wB _ = p; cases p <;> rfl) | grind)
  · have HA : Hid (byI s (i - 1) = _) := byI_in (by omega) (by omega) (i.toNat - 1) (by omega) (by omega)
    have E0 : (i == 0) = false := by rw [beq_eq_false_iff_ne]; omega
    by_cases hz : i < s.size
    · have E1 : ((i == (s.size : Int))) = false := by rw [beq_eq_false_iff_ne]; omega
      have HBy : Hid (byI s i = _) := byI_in (by omega) (by omega) i.toNat rfl (by omega)
      rcases (show k = 1 ∨ k = 2 ∨ k = 3 ∨ k = 4 ∨ k = 5 ∨ k = 6 ∨ ((k == 1) = false ∧ (k == 2) = false ∧ (k == 3) = false ∧ (k == 4) = false ∧ (k == 5) = false ∧ (k == 6) = false) from by simp only [beq_eq_false_iff_ne]; omega) with rfl | rfl | rfl | rfl | rfl | rfl | ⟨h1, h2, h3, h4, h5, h6⟩
      all_goals
        go_enter Try.func14, Try.ntmps14
        go_wp2_with (go_at_call 10; refine (HW.out _ _).mono ?_; rintro e w' ⟨rfl, rfl⟩)
        go_ret
        refine ⟨congrArg (fun z => Ending.returned (.bool z)) ?_, rfl⟩
        rw [HR.out, rH0_eval HA.out HBy.out E0 E1]
        simp only [wrap_byte, hw0, reduceIte, Int.reduceEq, Bool.true_or, Bool.false_or, Int.reduceBEq]
        try (first | rfl | (cases wB _ <;> rfl) | (generalize wB _ = p; cases p <;> rfl) | grind)
    · have E1 : ((i == (s.size : Int))) = true := by rw [beq_iff_eq]; omega
      have HBy : Hid (byI s i = -1) := byI_out (.inr (by omega))
      rcases (show k = 1 ∨ k = 2 ∨ k = 3 ∨ k = 4 ∨ k = 5 ∨ k = 6 ∨ ((k == 1) = false ∧ (k == 2) = false ∧ (k == 3) = false ∧ (k == 4) = false ∧ (k == 5) = false ∧ (k == 6) = false) from by simp only [beq_eq_false_iff_ne]; omega) with rfl | rfl | rfl | rfl | rfl | rfl | ⟨h1, h2, h3, h4, h5, h6⟩
      all_goals
        go_enter Try.func14, Try.ntmps14
        go_wp2_with (go_at_call 10; refine (HW.out _ _).mono ?_; rintro e w' ⟨rfl, rfl⟩)
        go_ret
        refine ⟨congrArg (fun z => Ending.returned (.bool z)) ?_, rfl⟩
        rw [HR.out, rH0_eval HA.out HBy.out E0 E1]
        simp only [wrap_byte, hw0, reduceIte, Int.reduceEq, Bool.true_or, Bool.false_or, Int.reduceBEq]
        try (first | rfl | (cases wB _ <;> rfl) | (generalize wB _ = p; cases p <;> rfl) | grind)
end Go.Proofs.Ytkfkdinpmfldaaa
