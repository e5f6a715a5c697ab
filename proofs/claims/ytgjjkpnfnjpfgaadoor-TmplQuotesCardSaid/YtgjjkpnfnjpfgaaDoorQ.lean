/- A text quoted, in plain words: it is a template that says the text, and no group. -/
import Derived.Test.YtgjjkpnfnjpfgaaDoorP
import Derived.Lib.Replace
import Derived.Lib.IndexBytes
import Derived.Lib.SplitLaws
namespace Go.Proofs.YtgjjkpnfnjpfgaaDoor
open Go.Shelf Go.RowKit PAll Go.Proofs.YtgjjkpnfnjpfgaaDoorW.PrintWords Go.Proofs.YtgjjkpnfnjpfgaaDoorW.PrintLast Go.Proofs.YtgjjkpnfnjpfgaaDoorW.PrintMore
set_option linter.unusedVariables false
set_option linter.unusedSimpArgs false
def quoteL : List UInt8 → List UInt8
  | [] => []
  | c :: t => if c = 36 then 36 :: 36 :: quoteL t else c :: quoteL t
theorem quote_len : ∀ s : List UInt8, (quoteL s).length ≤ 2 * s.length
  | [] => by simp [quoteL]
  | c :: t => by
    have := quote_len t
    unfold quoteL
    split <;> simp only [List.length_cons] <;> omega
theorem quote_none : ∀ s : List UInt8, s.drop (headL s).length = [] → quoteL s = s ∧ s.count 36 = 0
  | [], _ => by simp [quoteL]
  | x :: t, h => by
    by_cases e : x = 36
    · subst e; simp [headL] at h
    · have he : headL (x :: t) = x :: headL t := by simp [headL, e]
      rw [he] at h
      obtain ⟨h1, h2⟩ := quote_none t h
      refine ⟨by rw [quoteL, if_neg e, h1], ?_⟩
      rw [List.count_cons, h2]
      simp [e]
theorem quote_some : ∀ (s r : List UInt8) (c : UInt8), s.drop (headL s).length = c :: r → quoteL s = headL s ++ 36 :: 36 :: quoteL r ∧ s.count 36 = r.count 36 + 1
  | [], r, c, h => by simp [headL] at h
  | x :: t, r, c, h => by
    by_cases e : x = 36
    · subst e
      simp [headL] at h
      obtain ⟨rfl, rfl⟩ := h
      exact ⟨by rw [quoteL, if_pos rfl]; simp [headL], by simp⟩
    · have he : headL (x :: t) = x :: headL t := by simp [headL, e]
      rw [he] at h ⊢
      obtain ⟨h1, h2⟩ := quote_some t r c h
      refine ⟨by rw [quoteL, if_neg e, h1]; rfl, ?_⟩
      rw [List.count_cons, h2]
      simp [e]
theorem replace_quote : ∀ (k : Nat) (s : List UInt8), s.count 36 = k → Lib.replaceK [36] [36, 36] k s = quoteL s := by
  intro k
  induction k with
  | zero =>
    intro s h
    cases hd : s.drop (headL s).length with
    | nil => rw [Lib.replaceK, (quote_none s hd).1]
    | cons c r => have := (quote_some s r c hd).2; omega
  | succ k ih =>
    intro s h
    cases hd : s.drop (headL s).length with
    | nil => have := (quote_none s hd).2; omega
    | cons c r =>
      obtain ⟨h1, h2⟩ := quote_some s r c hd
      obtain ⟨_, hi, ht, hr, _⟩ := head_idx s r c hd
      rw [Lib.replaceK_hit [36] [36, 36] k s (headL s).length (by rw [Lib.index_one]; exact hi), ht, show (headL s).length + ([36] : List UInt8).length = (headL s).length + 1 from rfl, hr, ih r (by omega), h1]
      simp
theorem replaceAll_quote (s : List UInt8) : Lib.replaceAll s [36] [36, 36] = quoteL s := by
  unfold Lib.replaceAll Lib.replace
  rw [if_neg (by decide)]
  have : Lib.replaceNum s [36] (-1) = s.count 36 := by
    unfold Lib.replaceNum
    rw [if_pos (.inl (by decide)), Lib.count_one]
  rw [this]
  exact replace_quote _ s rfl
theorem head_quote (s r : List UInt8) (c : UInt8) (h : s.drop (headL s).length = c :: r) : headL (quoteL s) = headL s ∧ (quoteL s).drop (headL s).length = 36 :: 36 :: quoteL r := by
  rw [(quote_some s r c h).1]
  have hn : ∀ l : List UInt8, (headL l ++ 36 :: 36 :: quoteL r).takeWhile (fun c => c != 36) = headL l := by
    intro l
    induction l with
    | nil => simp [headL]
    | cons x t ih =>
      by_cases e : x = 36
      · subst e; simp [headL]
      · have he : headL (x :: t) = x :: headL t := by simp [headL, e]
        rw [he, List.cons_append, List.takeWhile_cons]
        simp only [bne_iff_ne, ne_eq, e, not_false_eq_true, if_true]
        rw [ih]
  exact ⟨hn s, by simp⟩
theorem quote_new (N : List ByteArray) (t : ByteArray) (sl : List Int) : ∀ (n : Nat) (s : List UInt8) (k : Nat), s.length < n → (quoteL s).length < k → ∃ m, newL N k (quoteL s) = .inr m ∧ expL t sl m = s ∧ groupsL m = [] := by
  intro n
  induction n with
  | zero => intro s k h; omega
  | succ n ih =>
    intro s k hn hk
    obtain ⟨k, rfl⟩ : ∃ q, k = q + 1 := ⟨k - 1, by omega⟩
    cases hd : s.drop (headL s).length with
    | nil =>
      have h1 := (quote_none s hd).1
      have h2 := (miss_idx s hd).2
      rw [h1, newL_miss N k s hd, h2]
      exact ⟨[.t s], rfl, by simp [expL], rfl⟩
    | cons c r =>
      obtain ⟨h1, h2⟩ := head_quote s r c hd
      have hl := (head_idx s r c hd)
      have h3 : behL (36 :: quoteL r) = (1, [36]) := by simp [behL]
      rw [← h1] at h2
      have hql := (quote_some s r c hd).1
      obtain ⟨m, hm, he, hg⟩ := ih r k (by have := hl.2.2.2.2; omega) (by rw [hql] at hk; simp only [List.length_append, List.length_cons] at hk; omega)
      refine ⟨.t (headL s) :: .t [36] :: m, ?_, ?_, ?_⟩
      · rw [newL_hit N k _ _ 36 h2 (by rw [h3]; decide), h3, h1]
        have hp : pieceL N [36] = .t [36] := by unfold pieceL; rw [if_pos rfl]
        simp only [hp, List.drop_succ_cons, List.drop_zero, hm]
        rfl
      · have hs : s = headL s ++ c :: r := by
          conv => lhs; rw [← List.take_append_drop (headL s).length s, hd, hl.2.2.1]
        simp only [expL, he]
        conv => rhs; rw [hs, hl.1]
        simp
      · simp only [groupsL]; exact hg
theorem numI_ok (N : List ByteArray) (nm : List UInt8) (hN : N.length ≤ 900000) : -1000000 ≤ numI N nm ∧ numI N nm ≤ 1000000 := by
  have hi := idxL_lt nm N 0
  unfold numI
  by_cases h : nm.all digL = true
  · rw [if_pos h]
    by_cases h4 : 4 < nm.length
    · rw [if_pos h4]; omega
    · rw [if_neg h4]
      have hb := decL_bound nm h nm.length (Nat.le_refl _)
      rw [List.take_length] at hb
      have h3 : nm.length = 0 ∨ nm.length = 1 ∨ nm.length = 2 ∨ nm.length = 3 ∨ nm.length = 4 := by omega
      rcases h3 with h3 | h3 | h3 | h3 | h3 <;> rw [h3] at hb <;> have hb2 := hb.2 <;> simp at hb2 <;> omega
  · rw [if_neg h]
    split <;> omega
theorem newL_ok (N : List ByteArray) (hN : N.length ≤ 900000) : ∀ (k : Nat) (l : List UInt8) (m : List Pc), l.length ≤ 1000000 → newL N k l = .inr m → m ≠ [] ∧ ∀ p ∈ m, okPc p := by
  intro k
  induction k with
  | zero => intro l m _ h; simp [newL] at h
  | succ k ih =>
    intro l m hl h
    have hh : okPc (.t (headL l)) := by
      have : (headL l).length ≤ l.length := tw_le _ _
      show _ ≤ 1100000
      omega
    cases hd : l.drop (headL l).length with
    | nil => rw [newL_miss N k l hd] at h; obtain rfl := Sum.inr.inj h; exact ⟨by simp, by intro p hp; simp at hp; subst hp; exact hh⟩
    | cons c r =>
      have hl2 := congrArg List.length hd
      simp only [List.length_drop, List.length_cons] at hl2
      by_cases hb : (behL r).1 = 0
      · rw [newL_bad N k l r c hd hb] at h; cases h
      · rw [newL_hit N k l r c hd hb] at h
        cases hn : newL N k (r.drop (behL r).1) with
        | inl e => rw [hn] at h; cases h
        | inr m' =>
          rw [hn] at h
          obtain rfl := Sum.inr.inj h
          have hp : okPc (pieceL N (behL r).2) := by
            unfold pieceL
            split
            · show ([36] : List UInt8).length ≤ 1100000; decide
            · exact numI_ok N _ hN
          refine ⟨by simp, fun p hpm => ?_⟩
          simp only [List.cons_append, List.nil_append, List.mem_cons] at hpm
          rcases hpm with rfl | rfl | hpm
          · exact hh
          · exact hp
          · exact (ih _ _ (by rw [List.length_drop]; omega) hn).2 p hpm
end Go.Proofs.YtgjjkpnfnjpfgaaDoor
