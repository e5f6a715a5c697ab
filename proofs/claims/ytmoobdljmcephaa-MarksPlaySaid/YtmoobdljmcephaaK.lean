/- The document's table: what its printed pure functions compute (plain law, no program in sight). -/
import Derived.Test.YtmoobdljmcephaaPMarksPlayx3
namespace Go.Proofs.Ytmoobdljmcephaa.PMarksPlay
open Go.RowKit
set_option linter.unusedVariables false

def hasL (l : List S41) (x y : Int) : Bool := l.any fun s => s.f0 == x && (s.f1 == y)
def stepF (x : Int) (b : Int) (s : S41) : Int := if s.f0 = x then (if b < 0 then s.f1 else if s.f1 < b then s.f1 else b) else b
def firstL (l : List S41) (x : Int) : Int := l.foldl (stepF x) (-1)

theorem rd_at (l : List S41) (i : Nat) (h : i < l.length) : rd_T41 l (i : Int) = l[i] := by
  unfold rd_T41
  rw [Int.toNat_natCast]
  simp [List.getD, h]
theorem wrap_succ (i : Nat) (h : i < 1000000) : wrap64 ((i : Int) + 1) = ((i + 1 : Nat) : Int) := by
  unfold wrap64; omega

theorem has_l0 (R C x y : Int) (l : List S41) (hl : l.length < 1000000) : ∀ (d k i : Nat), l.length - i = d → i ≤ l.length → d < k →
    burinref20_Has.l0 k (i : Int) R C l x y = some (hasL (l.drop i) x y) := by
  intro d
  induction d with
  | zero =>
    intro k i hd hi hk
    obtain ⟨k, rfl⟩ : ∃ m, k = m + 1 := ⟨k - 1, by omega⟩
    obtain rfl : i = l.length := by omega
    unfold burinref20_Has.l0
    rw [if_neg (by omega), List.drop_length]
    rfl
  | succ d ih =>
    intro k i hd hi hk
    obtain ⟨k, rfl⟩ : ∃ m, k = m + 1 := ⟨k - 1, by omega⟩
    have h : i < l.length := by omega
    unfold burinref20_Has.l0
    rw [if_pos (by omega), if_pos (by omega), rd_at l i h, wrap_succ i (by omega), ih k (i + 1) (by omega) (by omega) (by omega)]
    rw [List.drop_eq_getElem_cons h]
    unfold hasL
    rw [List.any_cons]
    cases hb : (l[i].f0 == x && (l[i].f1 == y)) <;> simp

theorem first_l0 (R C x : Int) (l : List S41) (hl : l.length < 1000000) : ∀ (d k i : Nat) (b : Int), l.length - i = d → i ≤ l.length → d < k →
    burinref20_First.l0 k x b (i : Int) R C l = some ((l.drop i).foldl (stepF x) b) := by
  intro d
  induction d with
  | zero =>
    intro k i b hd hi hk
    obtain ⟨k, rfl⟩ : ∃ m, k = m + 1 := ⟨k - 1, by omega⟩
    obtain rfl : i = l.length := by omega
    unfold burinref20_First.l0
    rw [if_neg (by omega), List.drop_length]
    rfl
  | succ d ih =>
    intro k i b hd hi hk
    obtain ⟨k, rfl⟩ : ∃ m, k = m + 1 := ⟨k - 1, by omega⟩
    have h : i < l.length := by omega
    unfold burinref20_First.l0
    rw [if_pos (by omega), if_pos (by omega), rd_at l i h, wrap_succ i (by omega), List.drop_eq_getElem_cons h, List.foldl_cons]
    rw [ih k (i + 1) _ (by omega) (by omega) (by omega), ih k (i + 1) _ (by omega) (by omega) (by omega)]
    unfold stepF
    split
    · split
      · rfl
      · split <;> rfl
    · rfl

theorem has_f (R C x y : Int) (l : List S41) (hl : l.length < 1000000) : burinref20_Has.f 1000001 R C l x y = some (hasL l x y) := by
  have := has_l0 R C x y l hl (l.length) 1000001 0 (by omega) (by omega) (by omega)
  rw [List.drop_zero] at this
  exact this
theorem first_f (R C x : Int) (l : List S41) (hl : l.length < 1000000) : burinref20_First.f 1000001 R C l x = some (firstL l x) := by
  have := first_l0 R C x l hl (l.length) 1000001 0 (-1) (by omega) (by omega) (by omega)
  rw [List.drop_zero] at this
  exact this
theorem mark_f (R C x y : Int) (l : List S41) (hl : l.length < 1000000) : burinref20_Mark.f 1000001 R C l x y =
    if x < 0 ∨ R ≤ x ∨ y < 0 ∨ C ≤ y ∨ hasL l x y = true then some (R, C, l, false) else some (R, C, l ++ [⟨x, y⟩], true) := by
  unfold burinref20_Mark.f
  rw [has_f R C x y l hl]
  by_cases h1 : x < 0
  · rw [if_pos h1, if_pos (.inl h1)]
  · by_cases h2 : R ≤ x
    · rw [if_neg h1, if_pos h2, if_pos (.inr (.inl h2))]
    · by_cases h3 : y < 0
      · rw [if_neg h1, if_neg (by omega), if_pos h3, if_pos (.inr (.inr (.inl h3)))]
      · by_cases h4 : C ≤ y
        · rw [if_neg h1, if_neg (by omega), if_neg h3, if_pos h4, if_pos (.inr (.inr (.inr (.inl h4))))]
        · rw [if_neg h1, if_neg (by omega), if_neg h3, if_neg (by omega)]
          simp only [Option.bind_some]
          by_cases h5 : hasL l x y = true
          · rw [if_pos h5, if_pos (.inr (.inr (.inr (.inr h5))))]
          · have h6 : ¬ (x < 0 ∨ R ≤ x ∨ y < 0 ∨ C ≤ y ∨ hasL l x y = true) := by
              rintro (h | h | h | h | h)
              · exact h1 h
              · exact h2 h
              · exact h3 h
              · exact h4 h
              · exact h5 h
            have h7 : l.length < 8796093022208 := by omega
            rw [if_neg h6, if_neg h5, if_pos h7]
end Go.Proofs.Ytmoobdljmcephaa.PMarksPlay
