/- Package wire, in plain words: a program is read from bytes exactly if it may be written and these are its bytes. -/
import Derived.Test.YtkjkkebaafmheaaH
import Derived.Test.YtkjkkebaafmheaaJ
namespace Go.Proofs.Ytkjkkebaafmheaa
open Go.RowKit PWireCodes Go.Proofs.YtkjkkebaafmheaaW.PrintWords Go.Proofs.YtkjkkebaafmheaaW.PrintLast Go.Proofs.YtkjkkebaafmheaaW.PrintMore
open Go.Shelf
set_option linter.unusedVariables false
set_option linter.unusedSimpArgs false
theorem ofNat_toNat (n : Nat) (h : n < 256) : (UInt8.ofNat n).toNat = n := by simp [UInt8.toNat_ofNat']; omega
theorem oneP_cons (c : UInt8) (t : List UInt8) (bad : Bool) : oneP (c :: t) bad = (c.toNat, t, bad) := rfl
theorem numP_num (n : Nat) (h : n ≤ 16384) (t : List UInt8) : numP 3 (num n ++ t) false 0 0 = (n, t, false) := by
  unfold num
  split
  · rename_i h1
    simp only [List.cons_append, List.nil_append, numP, oneP_cons, ofNat_toNat n (by omega)]
    rw [if_pos h1]
    simp
    omega
  split
  · rename_i h1 h2
    simp only [List.cons_append, List.nil_append, numP, oneP_cons, ofNat_toNat (n % 128 + 128) (by omega), ofNat_toNat (n / 128) (by omega)]
    rw [if_neg (by omega), if_neg (by omega), if_pos (by omega)]
    refine Prod.ext ?_ (Prod.ext rfl ?_)
    · show 0 + (n % 128 + 128) % 128 * 2 ^ 0 + n / 128 % 128 * 2 ^ (0 + 7) = n
      omega
    · have : n / 128 ≠ 0 := by omega
      simp [this]
  · rename_i h1 h2
    obtain rfl : n = 16384 := by omega
    simp [numP, oneP_cons]
theorem oneP_bad (s : List UInt8) : (oneP s true).2.2 = true := by cases s <;> rfl
theorem numP_bad : ∀ (f : Nat) (s : List UInt8) (n sh : Nat), (numP f s true n sh).2.2 = true
  | 0, s, n, sh => rfl
  | f + 1, s, n, sh => by
    rw [numP]
    split
    · simp [oneP_bad]
    split
    · rfl
    · rw [oneP_bad]; exact numP_bad f _ _ _
theorem u8_eq {c : UInt8} {n : Nat} (h : c.toNat = n) : UInt8.ofNat n = c := by subst h; exact UInt8.ofNat_toNat
theorem numP_back (s t : List UInt8) (n : Nat) (h : numP 3 s false 0 0 = (n, t, false)) : s = num n ++ t ∧ n < 2097152 := by
  cases s with
  | nil => simp [numP, oneP] at h
  | cons c1 s1 =>
    have l1 := UInt8.toNat_lt c1
    rw [numP, oneP_cons] at h
    dsimp only at h
    by_cases p1 : c1.toNat < 128
    · rw [if_pos p1] at h
      obtain ⟨h1, h2⟩ := Prod.ext_iff.1 h
      obtain ⟨h2, h3⟩ := Prod.ext_iff.1 h2
      dsimp only at h1 h2 h3
      have hn : n = c1.toNat := by omega
      subst h2
      rw [num, if_pos (by omega), hn, UInt8.ofNat_toNat]
      exact ⟨rfl, by omega⟩
    rw [if_neg p1] at h
    by_cases p2 : 16384 < 0 + c1.toNat % 128 * 2 ^ 0 ∨ 14 < 0 + 7
    · rw [if_pos p2] at h; simp at h
    rw [if_neg p2] at h
    cases s1 with
    | nil =>
      simp [numP, oneP] at h
    | cons c2 s2 =>
      have l2 := UInt8.toNat_lt c2
      rw [numP, oneP_cons] at h
      dsimp only at h
      by_cases p3 : c2.toNat < 128
      · rw [if_pos p3] at h
        obtain ⟨h1, h2⟩ := Prod.ext_iff.1 h
        obtain ⟨h2, h3⟩ := Prod.ext_iff.1 h2
        dsimp only at h1 h2 h3
        have hz : c2.toNat ≠ 0 := by intro e; simp [e] at h3
        have hn : n = c1.toNat % 128 + c2.toNat * 128 := by
          have : c2.toNat % 128 = c2.toNat := Nat.mod_eq_of_lt p3
          simp only [Nat.zero_add, Nat.pow_zero, Nat.mul_one] at h1
          omega
        subst h2
        rw [num, if_neg (by omega), if_pos (by omega), u8_eq (c := c1) (by omega), u8_eq (c := c2) (by omega)]
        exact ⟨rfl, by omega⟩
      rw [if_neg p3] at h
      by_cases p4 : 16384 < 0 + c1.toNat % 128 * 2 ^ 0 + c2.toNat % 128 * 2 ^ (0 + 7) ∨ 14 < 0 + 7 + 7
      · rw [if_pos p4] at h; simp at h
      rw [if_neg p4] at h
      cases s2 with
      | nil => simp [numP, oneP] at h
      | cons c3 s3 =>
        have l3 := UInt8.toNat_lt c3
        rw [numP, oneP_cons] at h
        dsimp only at h
        by_cases p5 : c3.toNat < 128
        · rw [if_pos p5] at h
          obtain ⟨h1, h2⟩ := Prod.ext_iff.1 h
          obtain ⟨h2, h3⟩ := Prod.ext_iff.1 h2
          dsimp only at h1 h2 h3
          have hz : c3.toNat ≠ 0 := by intro e; simp [e] at h3
          have hn : n = c1.toNat % 128 + c2.toNat % 128 * 128 + c3.toNat * 16384 := by
            have : c3.toNat % 128 = c3.toNat := Nat.mod_eq_of_lt p5
            simp only [Nat.zero_add, Nat.pow_zero, Nat.mul_one] at h1
            omega
          subst h2
          rw [num, if_neg (by omega), if_neg (by omega), u8_eq (c := c1) (by omega), u8_eq (c := c2) (by omega), u8_eq (c := c3) (by omega)]
          exact ⟨rfl, by omega⟩
        · rw [if_neg p5, if_pos (Or.inr (by omega))] at h
          simp at h
def fieldP (own : Bool) (s : List UInt8) (bad : Bool) : Nat × List UInt8 × Bool := if own then numP 3 s bad 0 0 else (0, s, bad)
def instP (s : List UInt8) (bad : Bool) : S40 × List UInt8 × Bool :=
  let o := oneP s bad
  let F := ownF (o.1 : Int)
  let a := fieldP F.1 o.2.1 o.2.2
  let b := fieldP F.2.1 a.2.1 a.2.2
  let c := fieldP F.2.2.1 b.2.1 b.2.2
  let d := fieldP F.2.2.2 c.2.1 c.2.2
  (⟨o.1, a.1, b.1, c.1, d.1⟩, d.2.1, d.2.2)
def loopP : Nat → List S40 → List UInt8 → Bool → List S40 × List UInt8 × Bool
  | 0, acc, s, bad => (acc, s, bad)
  | n + 1, acc, s, bad => if bad then (acc, s, bad) else loopP n (acc ++ [(instP s bad).1]) (instP s bad).2.1 (instP s bad).2.2
theorem fieldP_bad (own : Bool) (s : List UInt8) : (fieldP own s true).2.2 = true := by unfold fieldP; split; exact numP_bad _ _ _ _; rfl
theorem fieldP_back (own : Bool) (s : List UInt8) (bad : Bool) (h : (fieldP own s bad).2.2 = false) :
    bad = false ∧ s = (if own then num (fieldP own s bad).1 else []) ++ (fieldP own s bad).2.1 ∧ (own = false → (fieldP own s bad).1 = 0) := by
  cases bad with
  | true => have := fieldP_bad own s; rw [h] at this; cases this
  | false =>
    unfold fieldP at h ⊢
    cases own with
    | true =>
      rw [if_pos rfl] at h ⊢
      exact ⟨rfl, (numP_back s _ _ (Prod.ext rfl (Prod.ext rfl h))).1, fun e => by cases e⟩
    | false => exact ⟨rfl, rfl, fun _ => rfl⟩
theorem oneP_back (s : List UInt8) (bad : Bool) (h : (oneP s bad).2.2 = false) : bad = false ∧ s = UInt8.ofNat (oneP s bad).1 :: (oneP s bad).2.1 := by
  cases s with
  | nil => cases h
  | cons c t => exact ⟨h, by rw [oneP_cons, UInt8.ofNat_toNat]⟩
theorem instP_back (s : List UInt8) (bad : Bool) (h : (instP s bad).2.2 = false) : bad = false ∧ s = oneL (instP s bad).1 ++ (instP s bad).2.1 := by
  unfold instP at h ⊢
  dsimp only at h ⊢
  obtain ⟨d1, d2, -⟩ := fieldP_back _ _ _ h
  obtain ⟨c1, c2, -⟩ := fieldP_back _ _ _ d1
  obtain ⟨b1, b2, -⟩ := fieldP_back _ _ _ c1
  obtain ⟨a1, a2, -⟩ := fieldP_back _ _ _ b1
  obtain ⟨o1, o2⟩ := oneP_back _ _ a1
  refine ⟨o1, ?_⟩
  unfold oneL
  dsimp only
  simp only [Int.toNat_natCast, List.cons_append, List.append_assoc]
  rw [← d2, ← c2, ← b2, ← a2]
  exact o2
theorem loopP_bad (n : Nat) (acc : List S40) (s : List UInt8) : loopP n acc s true = (acc, s, true) := by cases n <;> rfl
theorem loopP_back : ∀ (n : Nat) (acc : List S40) (s : List UInt8) (bad : Bool), (loopP n acc s bad).2.2 = false → bad = false ∧ ∃ l, (loopP n acc s bad).1 = acc ++ l ∧ l.length = n ∧ s = l.flatMap oneL ++ (loopP n acc s bad).2.1
  | 0, acc, s, bad, h => ⟨h, [], by simp [loopP]⟩
  | n + 1, acc, s, true, h => by rw [loopP_bad] at h; cases h
  | n + 1, acc, s, false, h => by
    refine ⟨rfl, ?_⟩
    rw [loopP, if_neg (by decide)] at h ⊢
    obtain ⟨h1, l, h2, h3, h4⟩ := loopP_back n _ _ _ h
    obtain ⟨-, h5⟩ := instP_back s false h1
    refine ⟨(instP s false).1 :: l, by rw [h2]; simp, by simp [h3], ?_⟩
    rw [List.flatMap_cons, List.append_assoc, ← h4]
    exact h5
theorem fieldP_fore {own : Bool} {x : Int} (h0 : 0 ≤ x) (h1 : x ≤ 16384) (hz : own = false → x = 0) (t : List UInt8) :
    fieldP own ((if own then num x.toNat else []) ++ t) false = (x.toNat, t, false) := by
  unfold fieldP
  cases own with
  | true => exact numP_num x.toNat (by omega) t
  | false => rw [hz rfl]; rfl
theorem fits_full {x : S40} (h : fitsB x = true) : (1 ≤ x.f0 ∧ x.f0 ≤ 6) ∧ (0 ≤ x.f1 ∧ x.f1 ≤ 4000) ∧ (0 ≤ x.f2 ∧ x.f2 ≤ 4000) ∧ (0 ≤ x.f3 ∧ x.f3 ≤ 4000) ∧ (0 ≤ x.f4 ∧ x.f4 ≤ 4000) ∧
    ((ownF x.f0).1 = false → x.f1 = 0) ∧ ((ownF x.f0).2.1 = false → x.f2 = 0) ∧ ((ownF x.f0).2.2.1 = false → x.f3 = 0) ∧ ((ownF x.f0).2.2.2 = false → x.f4 = 0) := by
  obtain ⟨op, lo, hi, X, Y⟩ := x
  unfold fitsB at h
  dsimp only at h ⊢
  split at h
  · simp at h
  split at h
  · simp at h
  split at h
  · simp at h
  rename_i a1 a2 a3
  split at h
  · simp at h
  rename_i a4
  split at h
  · simp at h
  rename_i a5
  simp only [placeB, Bool.and_eq_false_iff, decide_eq_false_iff_not, not_or, Decidable.not_not] at a3 a4
  simp only [fieldsOf, fbad, List.any_cons, List.any_nil, Bool.or_false, Bool.or_eq_true, Bool.and_eq_true, Bool.not_eq_true', bne_iff_ne, ne_eq, not_or, not_and, Decidable.not_not] at a5
  obtain ⟨z1, z2, z3, z4⟩ := a5
  refine ⟨by omega, ?_, ?_, by omega, by omega, z1, z2, z3, z4⟩
  · by_cases q1 : op = 1
    · rw [if_pos q1] at h; simp at h; omega
    by_cases q3 : op = 3
    · rw [if_neg q1, if_pos q3] at h; simp at h; omega
    by_cases q4 : op = 4
    · rw [if_neg q1, if_neg q3, if_pos q4] at h; simp at h; omega
    have : (ownF op).1 = false := by by_cases q2 : op = 2 <;> simp [ownF, q1, q2, q3, q4]
    rw [z1 this]; omega
  · by_cases q1 : op = 1
    · rw [if_pos q1] at h; simp at h; omega
    have : (ownF op).2.1 = false := by
      by_cases q2 : op = 2
      · simp [ownF, q2]
      by_cases q3 : op = 3
      · simp [ownF, q3]
      by_cases q4 : op = 4
      · simp [ownF, q4]
      simp [ownF, q1, q2, q3, q4]
    rw [z2 this]; omega
theorem instP_fore (x : S40) (h : fitsB x = true) (t : List UInt8) : instP (oneL x ++ t) false = (x, t, false) := by
  obtain ⟨h0, h1, h2, h3, h4, z1, z2, z3, z4⟩ := fits_full h
  unfold instP oneL
  simp only [List.cons_append, oneP_cons, List.append_assoc]
  rw [ofNat_toNat _ (by omega), show ((x.f0.toNat : Nat) : Int) = x.f0 by omega]
  rw [fieldP_fore h1.1 (by omega) z1]
  dsimp only
  rw [fieldP_fore h2.1 (by omega) z2]
  dsimp only
  rw [fieldP_fore h3.1 (by omega) z3]
  dsimp only
  rw [fieldP_fore h4.1 (by omega) z4]
  dsimp only
  rw [show ((x.f1.toNat : Nat) : Int) = x.f1 by omega, show ((x.f2.toNat : Nat) : Int) = x.f2 by omega, show ((x.f3.toNat : Nat) : Int) = x.f3 by omega, show ((x.f4.toNat : Nat) : Int) = x.f4 by omega]
theorem loopP_fore : ∀ (l : List S40) (acc : List S40) (t : List UInt8), (∀ x ∈ l, fitsB x = true) → loopP l.length acc (l.flatMap oneL ++ t) false = (acc ++ l, t, false)
  | [], acc, t, _ => by simp [loopP]
  | x :: l, acc, t, h => by
    rw [List.length_cons, loopP, if_neg (by decide), List.flatMap_cons, List.append_assoc, instP_fore x (h x (by simp))]
    dsimp only
    rw [loopP_fore l _ t (fun y hy => h y (by simp [hy]))]
    simp
/-- What the program's Decode answers. -/
def parsP (m : List UInt8) : Nat × Nat × List S40 × List UInt8 × Bool :=
  let a := numP 3 m false 0 0
  let b := numP 3 a.2.1 a.2.2 0 0
  let c := numP 3 b.2.1 b.2.2 0 0
  (a.1, b.1, loopP c.1 [] c.2.1 c.2.2)
def decP (s : List UInt8) : Option (List S40 × Nat × Nat) :=
  if s.length < 4 then none else if s.take 3 ≠ [66, 82, 49] then none else if xorL s ≠ 0 then none
  else if (parsP ((s.drop 3).dropLast)).2.2.2.2 = true then none else if (parsP ((s.drop 3).dropLast)).2.2.2.1 ≠ [] then none
  else if checkB (parsP ((s.drop 3).dropLast)).2.2.1 (parsP ((s.drop 3).dropLast)).1 (parsP ((s.drop 3).dropLast)).2.1 = 0 then some ((parsP ((s.drop 3).dropLast)).2.2.1, (parsP ((s.drop 3).dropLast)).1, (parsP ((s.drop 3).dropLast)).2.1) else none
theorem xorL_app (a : List UInt8) (c : UInt8) : xorL (a ++ [c]) = xorL a ^^^ c := by simp [xorL]
theorem writ_eq (l : List S40) (a b : Nat) : writtenL l a b = [66, 82, 49] ++ (num a ++ (num b ++ (num l.length ++ l.flatMap oneL))) ++ [xorL ([66, 82, 49] ++ (num a ++ (num b ++ (num l.length ++ l.flatMap oneL))))] := by
  simp [writtenL, bodyL, headL]
theorem parsP_fore (l : List S40) (a b : Nat) (h : checkB l a b = 0) : parsP (num a ++ (num b ++ (num l.length ++ l.flatMap oneL))) = (a, b, l, [], false) := by
  obtain ⟨h1, h2, h3, h4, h5, h6, h7⟩ := check_zero h
  unfold parsP
  rw [numP_num a (by omega)]
  dsimp only
  rw [numP_num b (by omega)]
  dsimp only
  rw [numP_num l.length (by omega)]
  dsimp only
  have := loopP_fore l [] [] h7
  rw [List.append_nil] at this
  rw [this]
  rfl
theorem parsP_back (m : List UInt8) (a b : Nat) (l : List S40) (h : parsP m = (a, b, l, [], false)) : m = num a ++ (num b ++ (num l.length ++ l.flatMap oneL)) := by
  have hh : (parsP m).2.2 = (l, [], false) := by rw [h]
  have ha : (parsP m).1 = a := by rw [h]
  have hb : (parsP m).2.1 = b := by rw [h]
  unfold parsP at hh ha hb
  dsimp only at hh ha hb
  have h3 := congrArg (fun z => z.2.2) hh
  dsimp only at h3
  obtain ⟨c1, l', c2, c3, c4⟩ := loopP_back _ _ _ _ h3
  have c0 := fieldP_back true _ _ c1
  obtain ⟨b1, b2, -⟩ := c0
  obtain ⟨a1, a2, -⟩ := fieldP_back true _ _ b1
  obtain ⟨z1, z2, -⟩ := fieldP_back true _ _ a1
  simp only [fieldP, if_true] at b2 a2 z2
  rw [hh] at c2 c4
  simp only [List.nil_append] at c2
  subst c2
  rw [c4, List.append_nil] at b2
  rw [b2] at a2
  rw [a2] at z2
  rw [ha, hb, ← c3] at z2
  exact z2
theorem decP_iff (s : List UInt8) (l : List S40) (a b : Nat) : decP s = some (l, a, b) ↔ checkB l a b = 0 ∧ writtenL l a b = s := by
  constructor
  · intro h
    unfold decP at h
    split at h; · cases h
    split at h; · cases h
    split at h; · cases h
    split at h; · cases h
    split at h; · cases h
    split at h
    rotate_left
    · cases h
    rename_i h1 h2 h3 h4 h5 h6
    simp only [Option.some.injEq, Prod.mk.injEq] at h
    obtain ⟨rfl, rfl, rfl⟩ := h
    refine ⟨h6, ?_⟩
    obtain ⟨m, hm⟩ : ∃ m, m = (s.drop 3).dropLast := ⟨_, rfl⟩
    rw [← hm] at h4 h5 h6 ⊢
    have hp : parsP m = ((parsP m).1, (parsP m).2.1, (parsP m).2.2.1, [], false) := by
      refine Prod.ext rfl (Prod.ext rfl (Prod.ext rfl (Prod.ext ?_ ?_)))
      · simpa using h5
      · simpa using h4
    have hb := parsP_back m _ _ _ hp
    have hs : s = [66, 82, 49] ++ m ++ [s.getLast (by intro e; simp [e] at h1)] := by
      have e1 : s = s.take 3 ++ s.drop 3 := (List.take_append_drop 3 s).symm
      have hne : s.drop 3 ≠ [] := by intro e; have := congrArg List.length e; simp at this; omega
      have e2 := List.dropLast_concat_getLast hne
      rw [List.getLast_drop] at e2
      rw [← hm] at e2
      rw [List.append_assoc, e2, ← (by simpa using h2 : s.take 3 = [66, 82, 49])]
      exact e1
    rw [writ_eq, ← hb]
    have hx : xorL s = 0 := by simpa using h3
    obtain ⟨z, hz⟩ : ∃ z, z = s.getLast (by intro e; simp [e] at h1) := ⟨_, rfl⟩
    rw [← hz] at hs
    rw [hs, xorL_app] at hx
    have : xorL ([66, 82, 49] ++ m) = z := UInt8.xor_eq_zero_iff.1 hx
    rw [this, ← hs]
  · rintro ⟨hc, rfl⟩
    obtain ⟨m, hm⟩ : ∃ m, m = num a ++ (num b ++ (num l.length ++ l.flatMap oneL)) := ⟨_, rfl⟩
    have hd : ((writtenL l a b).drop 3).dropLast = m := by rw [writ_eq, ← hm]; simp
    have hp := parsP_fore l a b hc
    rw [← hm] at hp
    unfold decP
    rw [hd, hp]
    rw [if_neg, if_neg, if_neg]
    · simp [hc]
    · rw [writ_eq, xorL_app]; simp
    · rw [writ_eq]; simp
    · rw [writ_eq]; simp; have := (num_len a).1; omega
end Go.Proofs.Ytkjkkebaafmheaa
