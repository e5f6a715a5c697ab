/- Of two templates, the first of which ends with a bracket, one behind the other: in plain words. -/
import Derived.Test.YtgjjkpnfnjpfgaaO
namespace Go.Proofs.Ytgjjkpnfnjpfgaa
open Go.Shelf Go.RowKit PAll Go.Proofs.YtgjjkpnfnjpfgaaW.PrintWords Go.Proofs.YtgjjkpnfnjpfgaaW.PrintLast Go.Proofs.YtgjjkpnfnjpfgaaW.PrintMore
set_option linter.unusedVariables false
set_option linter.unusedSimpArgs false
theorem tw_stop (p : UInt8 → Bool) (x : UInt8) (hx : p x = false) (t : List UInt8) : ∀ a : List UInt8, (a ++ x :: t).takeWhile p = a.takeWhile p
  | [] => by simp [List.takeWhile_cons, hx]
  | c :: a => by
    cases hc : p c
    · simp [List.takeWhile_cons, hc]
    · simp [List.takeWhile_cons, hc, tw_stop p x hx t a]
theorem let41 : letL 41 = false := by decide
theorem beh_join (r0 t : List UInt8) : behL (r0 ++ 41 :: t) = behL (r0 ++ [41]) ∧ (behL (r0 ++ [41])).1 ≤ r0.length := by
  have hw : ∀ a : List UInt8, (a ++ 41 :: t).takeWhile letL = a.takeWhile letL := tw_stop letL 41 let41 t
  have hw' : ∀ a : List UInt8, (a ++ [41]).takeWhile letL = a.takeWhile letL := tw_stop letL 41 let41 []
  cases r0 with
  | nil => simp [behL, List.takeWhile_cons, let41]
  | cons c r =>
    unfold behL
    rw [hw, hw']
    simp only [List.cons_append, List.head?_cons, List.tail_cons, Option.some.injEq]
    simp only [hw, hw']
    have hle := tw_le letL r
    have hle2 := tw_le letL (c :: r)
    by_cases h1 : c = 36
    · simp [h1]
    · simp only [if_neg h1]
      by_cases h2 : c = 123
      · simp only [if_pos h2]
        generalize hn : r.takeWhile letL = n at hle
        by_cases h3 : n = []
        · simp [h3]
        · simp only [if_neg h3]
          rw [List.drop_append_of_le_length hle, List.drop_append_of_le_length hle]
          cases hd : r.drop n.length with
          | nil => simp
          | cons d q =>
            have hl := congrArg List.length hd
            simp only [List.length_drop, List.length_cons] at hl
            simp only [List.cons_append, List.head?_cons, Option.some.injEq]
            by_cases h4 : d = 125
            · simp only [if_pos h4, true_and, List.length_cons]; omega
            · simp [if_neg h4]
      · simp only [if_neg h2, true_and]
        exact hle2
theorem newL_fuel (N : List ByteArray) : ∀ (k k' : Nat) (l : List UInt8), l.length < k → l.length < k' → newL N k l = newL N k' l
  | 0, _, _, h, _ => by omega
  | _, 0, _, _, h => by omega
  | k + 1, k' + 1, l, h1, h2 => by
    cases hd : l.drop (headL l).length with
    | nil => rw [newL_miss N k l hd, newL_miss N k' l hd]
    | cons c r =>
      have hl := congrArg List.length hd
      simp only [List.length_drop, List.length_cons] at hl
      by_cases hb : (behL r).1 = 0
      · rw [newL_bad N k l r c hd hb, newL_bad N k' l r c hd hb]
      · rw [newL_hit N k l r c hd hb, newL_hit N k' l r c hd hb, newL_fuel N k k' _ (by rw [List.length_drop]; omega) (by rw [List.length_drop]; omega)]
/-- The answer for one behind the other. -/
def Join (n : Nat) : Nat ⊕ List Pc → Nat ⊕ List Pc → Nat ⊕ List Pc → Prop
  | .inl e, _, c => c = .inl e
  | .inr m, .inl e, c => c = .inl (n + e)
  | .inr m, .inr m1, c => ∃ l x y r, m = l ++ [.t x] ∧ m1 = .t y :: r ∧ c = .inr (l ++ .t (x ++ y) :: r)
theorem Join.comb {n off : Nat} {xs : List Pc} {A B C : Nat ⊕ List Pc} (h : Join n A B C) : Join (off + n) (comb xs off A) B (comb xs off C) := by
  cases A with
  | inl e => have h' : C = .inl e := h; subst h'; rfl
  | inr m =>
    cases B with
    | inl e => have h' : C = .inl (n + e) := h; subst h'; show Sum.inl _ = Sum.inl _; rw [Nat.add_assoc]
    | inr m1 =>
      obtain ⟨l, x, y, r, h1, h2, h3⟩ := (show ∃ (l : List Pc) (x y : List UInt8) (r : List Pc), m = l ++ [Pc.t x] ∧ m1 = Pc.t y :: r ∧ C = .inr (l ++ Pc.t (x ++ y) :: r) from h)
      subst h3
      have h4 : ∃ l' x' y' r', xs ++ m = l' ++ [Pc.t x'] ∧ m1 = Pc.t y' :: r' ∧ (Sum.inr (xs ++ (l ++ Pc.t (x ++ y) :: r)) : Nat ⊕ List Pc) = .inr (l' ++ Pc.t (x' ++ y') :: r') := ⟨xs ++ l, x, y, r, by rw [h1, List.append_assoc], h2, by rw [List.append_assoc]⟩
      exact (show Join (off + n) (.inr (xs ++ m)) (.inr m1) (.inr (xs ++ (l ++ Pc.t (x ++ y) :: r))) from h4)
theorem head_app (l t : List UInt8) : headL (l ++ t) = if (headL l).length = l.length then l ++ headL t else headL l := by
  unfold headL
  rw [List.takeWhile_append]
theorem newL_join (N : List ByteArray) (s1 : List UInt8) : ∀ (n : Nat) (s0 : List UInt8) (k k1 k2 : Nat), s0.length < n → s0.length + 1 < k → s1.length < k1 → s0.length + 1 + s1.length < k2 →
    Join (s0.length + 1) (newL N k (s0 ++ [41])) (newL N k1 s1) (newL N k2 (s0 ++ 41 :: s1)) := by
  intro n
  induction n with
  | zero => intro s0 k k1 k2 h; omega
  | succ n ih =>
    intro s0 k k1 k2 hn hk hk1 hk2
    obtain ⟨k, rfl⟩ : ∃ q, k = q + 1 := ⟨k - 1, by omega⟩
    obtain ⟨k1, rfl⟩ : ∃ q, k1 = q + 1 := ⟨k1 - 1, by omega⟩
    obtain ⟨k2, rfl⟩ : ∃ q, k2 = q + 1 := ⟨k2 - 1, by omega⟩
    have hle : (headL s0).length ≤ s0.length := tw_le _ _
    have e41 : headL (41 :: s1) = 41 :: headL s1 := by simp [headL, List.takeWhile_cons]
    have e41' : headL [41] = [41] := by simp [headL, List.takeWhile_cons]
    by_cases hh : (headL s0).length = s0.length
    · have hA : headL (s0 ++ [41]) = s0 ++ [41] := by rw [head_app, if_pos hh, e41']
      have hC : headL (s0 ++ 41 :: s1) = (s0 ++ [41]) ++ headL s1 := by rw [head_app, if_pos hh, e41]; simp
      rw [newL_miss N k _ (by rw [hA, List.drop_length]), hA]
      have hdC : (s0 ++ 41 :: s1).drop (headL (s0 ++ 41 :: s1)).length = s1.drop (headL s1).length := by
        rw [hC, show s0 ++ 41 :: s1 = (s0 ++ [41]) ++ s1 by simp, List.length_append, List.drop_append]
        simp
      cases hd : s1.drop (headL s1).length with
      | nil =>
        rw [newL_miss N k1 s1 hd, newL_miss N k2 _ (by rw [hdC, hd]), hC]
        exact ⟨[], s0 ++ [41], headL s1, [], rfl, rfl, rfl⟩
      | cons c r =>
        have hl := congrArg List.length hd
        simp only [List.length_drop, List.length_cons] at hl
        by_cases hb : (behL r).1 = 0
        · rw [newL_bad N k1 s1 r c hd hb, newL_bad N k2 _ r c (by rw [hdC, hd]) hb, hC]
          show Sum.inl _ = Sum.inl _
          congr 1
          simp only [List.length_append, List.length_cons, List.length_nil]
        · rw [newL_hit N k1 s1 r c hd hb, newL_hit N k2 _ r c (by rw [hdC, hd]) hb, hC, newL_fuel N k2 k1 _ (by rw [List.length_drop]; omega) (by rw [List.length_drop]; omega)]
          cases newL N k1 (r.drop (behL r).1) with
          | inl e =>
            show Sum.inl _ = Sum.inl _
            simp only [List.length_append, List.length_cons, List.length_nil]
            congr 1
            omega
          | inr m => exact ⟨[], s0 ++ [41], headL s1, pieceL N (behL r).2 :: m, rfl, rfl, rfl⟩
    · have hlt : (headL s0).length < s0.length := by omega
      have hA : headL (s0 ++ [41]) = headL s0 := by rw [head_app, if_neg hh]
      have hC : headL (s0 ++ 41 :: s1) = headL s0 := by rw [head_app, if_neg hh]
      cases hd : s0.drop (headL s0).length with
      | nil =>
        have := congrArg List.length hd
        simp only [List.length_drop, List.length_nil] at this
        omega
      | cons c r0 =>
        have hl := congrArg List.length hd
        simp only [List.length_drop, List.length_cons] at hl
        have hdA : (s0 ++ [41]).drop (headL (s0 ++ [41])).length = c :: (r0 ++ [41]) := by rw [hA, List.drop_append_of_le_length hle, hd]; rfl
        have hdC : (s0 ++ 41 :: s1).drop (headL (s0 ++ 41 :: s1)).length = c :: (r0 ++ 41 :: s1) := by rw [hC, List.drop_append_of_le_length hle, hd]; rfl
        obtain ⟨j1, j2⟩ := beh_join r0 s1
        by_cases hb : (behL (r0 ++ [41])).1 = 0
        · rw [newL_bad N k _ _ c hdA hb, newL_bad N k2 _ _ c hdC (by rw [j1]; exact hb), hA, hC]
          rfl
        · rw [newL_hit N k _ _ c hdA hb, newL_hit N k2 _ _ c hdC (by rw [j1]; exact hb), hA, hC, j1, List.drop_append_of_le_length j2, List.drop_append_of_le_length j2]
          have := (ih (r0.drop (behL (r0 ++ [41])).1) k (k1 + 1) k2 (by rw [List.length_drop]; omega) (by rw [List.length_drop]; omega) hk1 (by rw [List.length_drop]; omega)).comb (off := (headL s0).length + 1 + (behL (r0 ++ [41])).1) (xs := [.t (headL s0), pieceL N (behL (r0 ++ [41])).2])
          rw [show (headL s0).length + 1 + (behL (r0 ++ [41])).1 + ((r0.drop (behL (r0 ++ [41])).1).length + 1) = s0.length + 1 by rw [List.length_drop]; omega] at this
          exact this
theorem numI_ok (N : List ByteArray) (nm : List UInt8) (hN : N.length ≤ 900000) : -1000000 ≤ numI N nm ∧ numI N nm ≤ 1000000 := by
  have hi := idxL_lt nm N 0
  unfold numI
  by_cases h : nm.all digL = true
  · rw [if_pos h]
    by_cases h4 : 4 < nm.length
    · rw [if_pos h4]; omega
    · rw [if_neg h4]
      have hb := decL_bound nm h nm.length (Nat.le_refl _)
      rw [List.take_length] at hb
      have h3 : nm.length = 0 ∨ nm.length = 1 ∨ nm.length = 2 ∨ nm.length = 3 ∨ nm.length = 4 := by omega
      rcases h3 with h3 | h3 | h3 | h3 | h3 <;> rw [h3] at hb <;> have hb2 := hb.2 <;> simp at hb2 <;> omega
  · rw [if_neg h]
    split <;> omega
theorem newL_ok (N : List ByteArray) (hN : N.length ≤ 900000) : ∀ (k : Nat) (l : List UInt8) (m : List Pc), l.length ≤ 1000000 → newL N k l = .inr m → m ≠ [] ∧ ∀ p ∈ m, okPc p := by
  intro k
  induction k with
  | zero => intro l m _ h; simp [newL] at h
  | succ k ih =>
    intro l m hl h
    have hh : okPc (.t (headL l)) := by
      have : (headL l).length ≤ l.length := tw_le _ _
      show _ ≤ 1100000
      omega
    cases hd : l.drop (headL l).length with
    | nil => rw [newL_miss N k l hd] at h; obtain rfl := Sum.inr.inj h; exact ⟨by simp, by intro p hp; simp at hp; subst hp; exact hh⟩
    | cons c r =>
      have hl2 := congrArg List.length hd
      simp only [List.length_drop, List.length_cons] at hl2
      by_cases hb : (behL r).1 = 0
      · rw [newL_bad N k l r c hd hb] at h; cases h
      · rw [newL_hit N k l r c hd hb] at h
        cases hn : newL N k (r.drop (behL r).1) with
        | inl e => rw [hn] at h; cases h
        | inr m' =>
          rw [hn] at h
          obtain rfl := Sum.inr.inj h
          have hp : okPc (pieceL N (behL r).2) := by
            unfold pieceL
            split
            · show ([36] : List UInt8).length ≤ 1100000; decide
            · exact numI_ok N _ hN
          refine ⟨by simp, fun p hpm => ?_⟩
          simp only [List.cons_append, List.nil_append, List.mem_cons] at hpm
          rcases hpm with rfl | rfl | hpm
          · exact hh
          · exact hp
          · exact (ih _ _ (by rw [List.length_drop]; omega) hn).2 p hpm
end Go.Proofs.Ytgjjkpnfnjpfgaa
