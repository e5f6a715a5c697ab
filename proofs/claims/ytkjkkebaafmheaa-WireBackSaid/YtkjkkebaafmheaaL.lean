/- Package wire, in plain words: what the laws say of a program's bytes. -/
import Derived.Test.YtkjkkebaafmheaaK
namespace Go.Proofs.Ytkjkkebaafmheaa
open Go.RowKit PWireCodes Go.Proofs.YtkjkkebaafmheaaW.PrintWords Go.Proofs.YtkjkkebaafmheaaW.PrintLast Go.Proofs.YtkjkkebaafmheaaW.PrintMore
open Go.Shelf
set_option linter.unusedVariables false
set_option linter.unusedSimpArgs false
theorem parsP_tail (l : List S40) (a b : Nat) (h : checkB l a b = 0) (t : List UInt8) : parsP (num a ++ (num b ++ (num l.length ++ (l.flatMap oneL ++ t)))) = (a, b, l, t, false) := by
  obtain ⟨h1, h2, h3, h4, h5, h6, h7⟩ := check_zero h
  unfold parsP
  rw [numP_num a (by omega)]
  dsimp only
  rw [numP_num b (by omega)]
  dsimp only
  rw [numP_num l.length (by omega)]
  dsimp only
  rw [loopP_fore l [] t h7]
  rfl
def midL (l : List S40) (a b : Nat) : List UInt8 := num a ++ (num b ++ (num l.length ++ l.flatMap oneL))
theorem parsP_mid (l : List S40) (a b : Nat) (h : checkB l a b = 0) (t : List UInt8) : parsP (midL l a b ++ t) = (a, b, l, t, false) := by
  have := parsP_tail l a b h t
  unfold midL
  simp only [List.append_assoc]
  exact this
theorem writ_mid (l : List S40) (a b : Nat) : writtenL l a b = [66, 82, 49] ++ midL l a b ++ [xorL ([66, 82, 49] ++ midL l a b)] := writ_eq l a b
theorem more_none (l : List S40) (a b : Nat) (h : checkB l a b = 0) (c : UInt8) : decP (writtenL l a b ++ [c]) = none := by
  cases hd : decP (writtenL l a b ++ [c]) with
  | none => rfl
  | some p =>
    obtain ⟨l', a', b'⟩ := p
    obtain ⟨h1, h2⟩ := (decP_iff _ _ _ _).1 hd
    exfalso
    rw [writ_mid, writ_mid] at h2
    simp only [List.append_assoc, List.cons_append, List.nil_append, List.cons.injEq, true_and] at h2
    have h3 : midL l' a' b' = midL l a b ++ [xorL ([66, 82, 49] ++ midL l a b)] := by
      have h4 : midL l' a' b' ++ [xorL (66 :: 82 :: 49 :: midL l' a' b')] = (midL l a b ++ [xorL (66 :: 82 :: 49 :: midL l a b)]) ++ [c] := by
        rw [h2]; simp
      exact (List.append_inj' h4 rfl).1
    have h5 := parsP_mid l' a' b' h1 []
    rw [List.append_nil, h3, parsP_mid l a b h] at h5
    simp at h5
theorem less_none (l : List S40) (a b : Nat) (h : checkB l a b = 0) : decP (writtenL l a b).dropLast = none := by
  cases hd : decP (writtenL l a b).dropLast with
  | none => rfl
  | some p =>
    obtain ⟨l', a', b'⟩ := p
    obtain ⟨h1, h2⟩ := (decP_iff _ _ _ _).1 hd
    exfalso
    rw [writ_mid l a b, List.dropLast_concat, writ_mid] at h2
    simp only [List.append_assoc, List.cons_append, List.nil_append, List.cons.injEq, true_and] at h2
    have h5 := parsP_mid l a b h []
    rw [List.append_nil, ← h2, parsP_mid l' a' b' h1] at h5
    simp at h5
theorem xorL_written (l : List S40) (a b : Nat) : xorL (writtenL l a b) = 0 := by rw [writ_mid, xorL_app]; simp
theorem foldl_xor (l : List UInt8) (a : UInt8) : l.foldl (· ^^^ ·) a = a ^^^ xorL l := by
  induction l generalizing a with
  | nil => simp [xorL]
  | cons c l ih =>
    have h : xorL (c :: l) = c ^^^ xorL l := by
      unfold xorL
      rw [List.foldl_cons]
      have := ih (0 ^^^ c)
      simpa [xorL] using this
    rw [List.foldl_cons, ih, h, UInt8.xor_assoc]
theorem xorL_append (a b : List UInt8) : xorL (a ++ b) = xorL a ^^^ xorL b := by rw [xorL, List.foldl_append, foldl_xor]; rfl
theorem xorL_cons (c : UInt8) (l : List UInt8) : xorL (c :: l) = c ^^^ xorL l := by rw [xorL, List.foldl_cons, foldl_xor]; simp
theorem xorL_set (l : List UInt8) (i : Nat) (hi : i < l.length) (x : UInt8) : xorL (l.set i (l[i] ^^^ x)) = xorL l ^^^ x := by
  induction l generalizing i with
  | nil => simp at hi
  | cons c l ih =>
    cases i with
    | zero =>
      simp only [List.set_cons_zero, List.getElem_cons_zero, xorL_cons]
      rw [UInt8.xor_assoc, UInt8.xor_comm x, ← UInt8.xor_assoc]
    | succ i =>
      simp only [List.set_cons_succ, List.getElem_cons_succ, xorL_cons]
      rw [ih i (by simpa using hi), UInt8.xor_assoc]
theorem dec_xor (s : List UInt8) (h : xorL s ≠ 0) : decP s = none := by
  cases hd : decP s with
  | none => rfl
  | some p =>
    obtain ⟨l', a', b'⟩ := p
    obtain ⟨h1, h2⟩ := (decP_iff _ _ _ _).1 hd
    rw [← h2, xorL_written] at h
    exact absurd rfl h
theorem one_none (l : List S40) (a b : Nat) (i : Nat) (hi : i < (writtenL l a b).length) (x : UInt8) (hx : x ≠ 0) : decP ((writtenL l a b).set i ((writtenL l a b)[i] ^^^ x)) = none := by
  refine dec_xor _ ?_
  rw [xorL_set _ _ hi, xorL_written]
  simpa using hx
theorem num_len2 (n : Nat) (h : n < 16384) : (num n).length ≤ 2 := by unfold num; split; simp; simp [h]
theorem num_len1 (n : Nat) (h : n < 128) : (num n).length = 1 := by unfold num; simp [h]
theorem oneL_len (x : S40) : 1 ≤ (oneL x).length ∧ (oneL x).length ≤ 10 := by
  unfold oneL
  have h (t : Bool) (n : Nat) : (if t then num n else []).length ≤ 3 := by have := (num_len n).2; split; exact this; simp
  rcases (by
    unfold ownF
    split
    · exact Or.inl rfl
    split
    · exact Or.inr (Or.inl rfl)
    split
    · exact Or.inr (Or.inr (Or.inl rfl))
    · exact Or.inr (Or.inr (Or.inr rfl)) : ownF x.f0 = (true, true, true, false) ∨ ownF x.f0 = (false, false, true, true) ∨ ownF x.f0 = (true, false, true, false) ∨ ownF x.f0 = (false, false, false, false)) with q | q | q | q
  all_goals
    rw [q]
    have h1 := (num_len x.f1.toNat).2
    have h2 := (num_len x.f2.toNat).2
    have h3 := (num_len x.f3.toNat).2
    have h4 := (num_len x.f4.toNat).2
    simp
    try omega
theorem flat_len : ∀ l : List S40, l.length ≤ (l.flatMap oneL).length ∧ (l.flatMap oneL).length ≤ 10 * l.length
  | [] => by simp
  | x :: l => by
    have h1 := oneL_len x
    have h2 := flat_len l
    rw [List.flatMap_cons, List.length_append, List.length_cons]
    omega
theorem short_len (l : List S40) (a b : Nat) (h : checkB l a b = 0) : (writtenL l a b).length ≤ 10 * l.length + 10 ∧ l.length + 6 < (writtenL l a b).length := by
  obtain ⟨h1, h2, h3, h4, h5, h6, h7⟩ := check_zero h
  have k1 := flat_len l
  have k2 := num_len2 a (by omega)
  have k3 := num_len1 b (by omega)
  have k4 := num_len2 l.length (by omega)
  have k5 := (num_len a).1
  have k6 := (num_len l.length).1
  rw [writ_mid]
  unfold midL
  simp only [List.length_append, List.length_cons, List.length_nil]
  omega
end Go.Proofs.Ytkjkkebaafmheaa
