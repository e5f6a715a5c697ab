/- Merged by wip/tools/merge.py out of the texts R, S, V, each as it stood. -/
import Derived.Test.YtkjkkebaafmheaaDoorM2
import Derived.Test.YtkjkkebaafmheaaDoorPAllx19
import Derived.Test.YtkjkkebaafmheaaDoorT17
import Derived.Test.YtkjkkebaafmheaaDoorPAllx13
/- The document's cursor of layer 14, in plain words: word and num over lists of bytes. -/
namespace Go.Proofs.YtkjkkebaafmheaaDoor
open Go.RowKit PAll Go.Proofs.YtkjkkebaafmheaaDoorW.PrintWords Go.Proofs.YtkjkkebaafmheaaDoorW.PrintLast Go.Proofs.YtkjkkebaafmheaaDoorW.PrintMore
open Go.Shelf
set_option linter.unusedVariables false
set_option linter.unusedSimpArgs false
def wordB (l : List UInt8) (p : Nat) (t : List UInt8) : Bool := decide ((l.drop p).take t.length = t)
theorem wordB_le {l : List UInt8} {p : Nat} {t : List UInt8} (h : wordB l p t = true) (ht : t ≠ []) : p + t.length ≤ l.length := by
  have h := of_decide_eq_true h
  have := congrArg List.length h
  rw [List.length_take, List.length_drop] at this
  have : 0 < t.length := List.length_pos_iff.2 ht
  omega
theorem word_f (l : List UInt8) (p : Nat) (bad : Bool) (t : List UInt8) (hl : l.length ≤ 1000000) (hp : p ≤ l.length) (ht : t.length ≤ 100) (ht0 : t ≠ []) :
    burinref14_Cursor_word.f (bs l) (p : Nat) bad (bs t) = some (wordB l p t, bs l, ((if wordB l p t = true then p + t.length else p : Nat) : Int), bad) := by
  unfold burinref14_Cursor_word.f
  rw [bs_size, bs_size, w64 _ (by omega) (by omega)]
  by_cases h : l.length < p + t.length
  · rw [if_pos (by omega)]
    have hw : wordB l p t = false := by
      cases hb : wordB l p t with
      | false => rfl
      | true => have := wordB_le hb ht0; omega
    rw [hw]; rfl
  · rw [if_neg (by omega), w64 ((p : Int) + (t.length : Nat)) (by omega) (by omega), if_pos (by omega), if_pos (by omega), if_pos (by omega)]
    rw [bs_ext, bs_list, bs_list, show ((p : Int)).toNat = p by omega, show ((p : Int) + (t.length : Nat)).toNat = p + t.length by omega]
    have e : (l.take (p + t.length)).drop p = (l.drop p).take t.length := by rw [List.drop_take]; congr 1; omega
    rw [e]
    by_cases hq : (l.drop p).take t.length = t
    · have hw : wordB l p t = true := decide_eq_true hq
      rw [if_pos hq, hw]
      simp
    · have hw : wordB l p t = false := decide_eq_false hq
      rw [if_neg hq, hw]
      simp
def isD (c : UInt8) : Bool := decide (48 ≤ c.toNat) && decide (c.toNat ≤ 57)
def digsR (l : List UInt8) (p : Nat) : List UInt8 := ((l.drop p).takeWhile isD).take 5
def numR (l : List UInt8) (p : Nat) (bad : Bool) : Nat × Nat × Bool :=
  if wordB l p [32] = true then (valL (digsR l (p + 1)), p + 1 + (digsR l (p + 1)).length, bad || decide ((digsR l (p + 1)).length < 1) || decide (4 < (digsR l (p + 1)).length)) else (0, p, true)
theorem digs_le (l : List UInt8) (p : Nat) : (digsR l p).length ≤ 5 ∧ (p ≤ l.length → p + (digsR l p).length ≤ l.length) := by
  unfold digsR
  have h := List.takeWhile_prefix isD (l := l.drop p)
  have := h.length_le
  rw [List.length_drop] at this
  rw [List.length_take]
  omega
theorem digs_dig (l : List UInt8) (p : Nat) : ∀ c ∈ digsR l p, 48 ≤ c.toNat ∧ c.toNat ≤ 57 := by
  intro c hc
  have h1 := List.mem_of_mem_take hc
  have h2 : isD c = true := List.all_eq_true.1 (List.all_takeWhile (l := l.drop p) (p := isD)) c h1
  simpa [isD] using h2
theorem digs_get {l : List UInt8} {p i : Nat} (h : i < (digsR l p).length) (h1 : p + i < l.length) : (digsR l p)[i] = l[p + i] := by
  have hi : i < ((l.drop p).takeWhile isD).length ∧ i < 5 := by
    have h := h
    unfold digsR at h
    rw [List.length_take] at h
    omega
  have e : (digsR l p)[i]? = l[p + i]? := by
    unfold digsR
    rw [List.getElem?_take_of_lt hi.2]
    have hs := List.takeWhile_append_dropWhile (p := isD) (l := l.drop p)
    have e2 : (l.drop p)[i]? = ((l.drop p).takeWhile isD)[i]? := by
      conv => lhs; rw [← hs]
      exact List.getElem?_append_left hi.1
    rw [← e2, List.getElem?_drop]
  rw [List.getElem?_eq_getElem h, List.getElem?_eq_getElem h1] at e
  exact Option.some.inj e
theorem val_small (l : List UInt8) (h : ∀ c ∈ l, 48 ≤ c.toNat ∧ c.toNat ≤ 57) (h5 : l.length ≤ 5) : valL l < 100000 := by
  have := valL_lt l (fun c hc => (h c hc).2)
  have hp : 10 ^ l.length ≤ 10 ^ 5 := Nat.pow_le_pow_right (by omega) h5
  omega
theorem num_lp (l : List UInt8) (bad : Bool) (hl : l.length ≤ 1000000) (p : Nat) (hp : p ≤ l.length) : ∀ (k i : Nat), i ≤ (digsR l p).length → 6 - i < k →
    burinref14_Cursor_num.l0 k (valL ((digsR l p).take i) : Nat) (i : Nat) (bs l) ((p + i : Nat) : Int) bad =
      some (((valL (digsR l p) : Nat) : Int), bs l, ((p + (digsR l p).length : Nat) : Int), bad || decide ((digsR l p).length < 1) || decide (4 < (digsR l p).length))
  | 0, i, _, h => by omega
  | k + 1, i, hi, hk => by
    have hd := digs_le l p
    have hdd := digs_dig l p
    have hv : valL ((digsR l p).take i) < 100000 := val_small _ (fun c hc => hdd c (List.mem_of_mem_take hc)) (by rw [List.length_take]; omega)
    have stop : i = (digsR l p).length → ∀ q : Int, q = ((p + i : Nat) : Int) → (if (i : Int) < 1 then some (((valL ((digsR l p).take i) : Nat) : Int), bs l, q, true) else if (i : Int) > 4 then some (((valL ((digsR l p).take i) : Nat) : Int), bs l, q, true) else some (((valL ((digsR l p).take i) : Nat) : Int), bs l, q, bad)) =
        some (((valL (digsR l p) : Nat) : Int), bs l, ((p + (digsR l p).length : Nat) : Int), bad || decide ((digsR l p).length < 1) || decide (4 < (digsR l p).length)) := by
      intro e q hq
      rw [List.take_of_length_le (by omega), hq, e]
      by_cases h1 : (digsR l p).length < 1
      · rw [if_pos (by omega), decide_eq_true h1]; simp
      · rw [if_neg (by omega), decide_eq_false h1]
        by_cases h4 : 4 < (digsR l p).length
        · rw [if_pos (by omega), decide_eq_true h4]; simp
        · rw [if_neg (by omega), decide_eq_false h4]; simp
    unfold burinref14_Cursor_num.l0
    rw [bs_size]
    by_cases h1 : p + i < l.length
    · rw [if_pos (by omega)]
      by_cases h5 : i < 5
      · rw [if_pos (by omega), if_pos (by omega), bt_bs l (p + i) h1]
        have hdrop : l.drop (p + i) = l[p + i] :: l.drop (p + i + 1) := List.drop_eq_getElem_cons h1
        by_cases hD : isD l[p + i] = true
        · have hD' : 48 ≤ l[p + i].toNat ∧ l[p + i].toNat ≤ 57 := by simpa [isD] using hD
          rw [if_pos (by omega), if_pos (by omega)]
          have hlt : i < (digsR l p).length := by
            rcases Nat.lt_or_ge i (digsR l p).length with h | h
            · exact h
            · exfalso
              have e : i = (digsR l p).length := by omega
              unfold digsR at e
              rw [List.length_take] at e
              have e2 : i = ((l.drop p).takeWhile isD).length := by omega
              have hs := List.takeWhile_append_dropWhile (p := isD) (l := l.drop p)
              have e3 : (l.drop p).dropWhile isD = l.drop (p + i) := by
                have : (l.drop p).drop i = (l.drop p).dropWhile isD := by
                  conv => lhs; rw [← hs]
                  rw [List.drop_append, e2]; simp
                rw [← this, List.drop_drop]
              have e4 := List.head?_dropWhile_not isD (l.drop p)
              rw [e3, hdrop] at e4
              rw [List.head?_cons] at e4
              simp only at e4
              rw [hD] at e4
              simp at e4
          have hget : (digsR l p)[i] = l[p + i] := digs_get hlt h1
          have hsn : valL ((digsR l p).take (i + 1)) = 10 * valL ((digsR l p).take i) + (l[p + i].toNat - 48) := by
            rw [← List.take_append_getElem hlt, valL_snoc, hget]
          have hv2 : valL ((digsR l p).take (i + 1)) < 100000 := val_small _ (fun c hc => hdd c (List.mem_of_mem_take hc)) (by rw [List.length_take]; omega)
          rw [w64 ((valL ((digsR l p).take i) : Nat) * 10 : Int) (by omega) (by omega), w64 ((l[p + i].toNat : Nat) : Int) (by omega) (by omega), w64 (_ + _) (by omega) (by omega), w64 (_ - 48) (by omega) (by omega), w64 ((i : Int) + 1) (by omega) (by omega), w64 (((p + i : Nat) : Int) + 1) (by omega) (by omega)]
          rw [show ((valL ((digsR l p).take i) : Nat) : Int) * 10 + ((l[p + i].toNat : Nat) : Int) - 48 = ((valL ((digsR l p).take (i + 1)) : Nat) : Int) by rw [hsn]; omega, show ((p + i : Nat) : Int) + 1 = ((p + (i + 1) : Nat) : Int) by omega, show (i : Int) + 1 = ((i + 1 : Nat) : Int) by omega]
          exact num_lp l bad hl p hp k (i + 1) hlt (by omega)
        · have e : i = (digsR l p).length := by
            rcases Nat.lt_or_ge i (digsR l p).length with h | h
            · exfalso
              have hget : (digsR l p)[i] = l[p + i] := digs_get h h1
              have := hdd _ (List.getElem_mem h)
              rw [hget] at this
              exact hD (by simpa [isD] using this)
            · omega
          have hst := stop e _ rfl
          by_cases h48 : ((l[p + i].toNat : Nat) : Int) ≥ 48
          · rw [if_pos h48, if_neg (by intro h; exact hD (by simp [isD]; omega))]
            exact hst
          · rw [if_neg h48]
            exact hst
      · rw [if_neg (by omega)]
        exact stop (by omega) _ rfl
    · rw [if_neg (by omega)]
      exact stop (by omega) _ rfl
theorem num_fR (l : List UInt8) (p : Nat) (bad : Bool) (hl : l.length ≤ 1000000) (hp : p ≤ l.length) :
    burinref14_Cursor_num.f 8 (bs l) (p : Nat) bad = some ((((numR l p bad).1 : Nat) : Int), bs l, (((numR l p bad).2.1 : Nat) : Int), (numR l p bad).2.2) := by
  unfold burinref14_Cursor_num.f numR
  have hw := word_f l p bad [32] hl hp (by decide) (by decide)
  rw [show (⟨#[32]⟩ : ByteArray) = bs [32] from rfl, hw]
  simp only [Option.bind_some]
  by_cases h : wordB l p [32] = true
  · have hle := wordB_le h (by decide)
    rw [if_pos h, if_pos h, if_pos h]
    exact num_lp l bad hl (p + 1) hle 8 0 (by omega) (by omega)
  · rw [if_neg h, if_neg h, if_neg h]
    rfl
theorem numR_le (l : List UInt8) (p : Nat) (bad : Bool) (hp : p ≤ l.length) : (numR l p bad).1 < 100000 ∧ p ≤ (numR l p bad).2.1 ∧ (numR l p bad).2.1 ≤ l.length := by
  unfold numR
  by_cases h : wordB l p [32] = true
  · have hle := wordB_le h (by decide)
    rw [if_pos h]
    have hd := digs_le l (p + 1)
    have := hd.2 hle
    exact ⟨val_small _ (digs_dig l _) hd.1, by dsimp only; omega, by dsimp only; omega⟩
  · rw [if_neg h]
    exact ⟨by dsimp only; omega, Nat.le_refl _, hp⟩
theorem numR_at {l : List UInt8} {p n : Nat} {c : UInt8} {r : List UInt8} (h : l.drop p = 32 :: (digN n ++ c :: r)) (hc : isD c = false) (hn : n < 10000) (bad : Bool) : numR l p bad = (n, p + 1 + (digN n).length, bad) := by
  have hw : wordB l p [32] = true := by
    refine decide_eq_true ?_
    rw [h]; rfl
  have hd1 : l.drop (p + 1) = digN n ++ c :: r := by rw [← List.drop_drop, h]; rfl
  have h4 := digN_len4 hn
  have hds : digsR l (p + 1) = digN n := by
    unfold digsR
    rw [hd1, List.takeWhile_append_of_pos (fun x hx => by have := digN_digit n x hx; simp [isD]; omega), List.takeWhile_cons, hc]
    simp only [Bool.false_eq_true, if_false, List.append_nil]
    exact List.take_of_length_le (by omega)
  unfold numR
  rw [if_pos hw, hds, val_dig]
  have h1 : ¬ (digN n).length < 1 := by
    have := List.length_pos_iff.2 (digN_ne n); omega
  rw [decide_eq_false h1, decide_eq_false (show ¬ 4 < (digN n).length by omega)]
  simp
end Go.Proofs.YtkjkkebaafmheaaDoor
/- The document's Read of layer 14, in plain words: what its cursor has found says all that a program's text can be. -/
namespace Go.Proofs.YtkjkkebaafmheaaDoor
open PAll
set_option linter.unusedVariables false
set_option linter.unusedSimpArgs false
def numsR (l : List UInt8) : Nat → Nat → Bool → List Nat × Nat × Bool
  | 0, p, bad => ([], p, bad)
  | m + 1, p, bad => ((numR l p bad).1 :: (numsR l m (numR l p bad).2.1 (numR l p bad).2.2).1, (numsR l m (numR l p bad).2.1 (numR l p bad).2.2).2)
theorem drop_more {l : List UInt8} {p : Nat} {a b : List UInt8} (h : l.drop p = a ++ b) : l.drop (p + a.length) = b := by
  rw [← List.drop_drop, h]; simp
theorem numsR_at {l : List UInt8} : ∀ (ns : List Nat) (p : Nat) (c : UInt8) (r : List UInt8) (bad : Bool), l.drop p = (ns.flatMap fun n => (32 : UInt8) :: digN n) ++ c :: r → isD c = false → (∀ n ∈ ns, n < 10000) →
    numsR l ns.length p bad = (ns, p + (ns.flatMap fun n => (32 : UInt8) :: digN n).length, bad)
  | [], p, c, r, bad, _, _, _ => rfl
  | n :: ns, p, c, r, bad, h, hc, hn => by
    have h1 : ∃ c1 r1, isD c1 = false ∧ (ns.flatMap fun n => (32 : UInt8) :: digN n) ++ c :: r = c1 :: r1 := by
      cases ns with
      | nil => exact ⟨c, r, hc, rfl⟩
      | cons m ms => exact ⟨32, _, by decide, rfl⟩
    obtain ⟨c1, r1, hc1, he⟩ := h1
    have h2 : l.drop p = 32 :: (digN n ++ c1 :: r1) := by rw [h, List.flatMap_cons, ← he]; simp
    have e := numR_at h2 hc1 (hn n (by simp)) bad
    have h3 : l.drop (p + 1 + (digN n).length) = (ns.flatMap fun n => (32 : UInt8) :: digN n) ++ c :: r := by
      have := drop_more (a := 32 :: digN n) (b := c1 :: r1) (by rw [h2]; rfl)
      rw [he, ← this]; congr 1; simp; omega
    have ih := numsR_at ns (p + 1 + (digN n).length) c r bad h3 hc (fun m hm => hn m (by simp [hm]))
    show ((numR l p bad).1 :: (numsR l ns.length (numR l p bad).2.1 (numR l p bad).2.2).1, (numsR l ns.length (numR l p bad).2.1 (numR l p bad).2.2).2) = _
    rw [e]
    simp only
    rw [ih]
    simp only [List.flatMap_cons, List.length_append, List.length_cons]
    congr 2
    omega
theorem wordB_at {l t r : List UInt8} {p : Nat} (h : l.drop p = t ++ r) : wordB l p t = true := decide_eq_true (by rw [h]; simp)
theorem word_of {l t : List UInt8} {p : Nat} (h : wordB l p t = true) : ∃ r, l.drop p = t ++ r := by
  have h := of_decide_eq_true h
  exact ⟨(l.drop p).drop t.length, by conv => lhs; rw [← List.take_append_drop t.length (l.drop p), h]⟩
def Prom (l : List UInt8) (xs : List S35) (a b : Int) (p : Nat) (bad : Bool) : Prop :=
  ∀ L A B, checkB L A B = 0 → progT L A B = l → bad = false ∧ A = a ∧ B = b ∧ xs = L.take xs.length ∧ xs.length ≤ L.length ∧ p = (headT A B ++ (L.take xs.length).flatMap instT).length
def afterB (l : List UInt8) (p : Nat) (bad : Bool) : Bool := bad || !wordB l p [10]
def afterP (l : List UInt8) (p : Nat) (bad : Bool) : Nat := if bad = true then p else if wordB l p [10] = true then p + 1 else p
theorem after_at {l : List UInt8} {p : Nat} {r : List UInt8} (h : l.drop p = 10 :: r) : afterB l p false = false ∧ afterP l p false = p + 1 := by
  have := wordB_at (t := [10]) h
  simp [afterB, afterP, this]
theorem prom_none {l : List UInt8} (h : ∀ L A B, checkB L A B = 0 → progT L A B = l → False) : readL l = none := by
  cases hr : readL l with
  | none => rfl
  | some q =>
    obtain ⟨L, A, B⟩ := q
    obtain ⟨h1, h2⟩ := (readL_iff l L A B).1 hr
    exact (h L A B h1 h2).elim
theorem start_no {l : List UInt8} (h : wordB l 0 [112, 114, 111, 103, 114, 97, 109] = false) : readL l = none := by
  refine prom_none (fun L A B h1 h2 => ?_)
  have : wordB l 0 [112, 114, 111, 103, 114, 97, 109] = true := wordB_at (r := _) (by rw [← h2]; unfold progT headT lineP; simp only [List.drop_zero, List.append_assoc]; rfl)
  rw [this] at h; simp at h
theorem start_yes {l : List UInt8} {m : List Nat} {p : Nat} {bad : Bool} (hm : numsR l 2 7 false = (m, p, bad)) : ∃ a b, m = [a, b] ∧ Prom l [] a b (afterP l p bad) (afterB l p bad) := by
  refine ⟨(numR l 7 false).1, (numR l (numR l 7 false).2.1 (numR l 7 false).2.2).1, ?_, ?_⟩
  · have := congrArg Prod.fst hm
    exact this.symm
  · intro L A B h1 h2
    obtain ⟨c1, c2, c3, c4⟩ := check_ok h1
    have hd : l.drop 7 = ([A.toNat, B.toNat].flatMap fun n => (32 : UInt8) :: digN n) ++ 10 :: L.flatMap instT := by
      rw [← h2]; unfold progT headT lineP
      simp only [List.append_assoc]
      rfl
    have e := numsR_at [A.toNat, B.toNat] 7 10 _ false hd (by decide) (by intro n hn; simp at hn; omega)
    rw [show [A.toNat, B.toNat].length = 2 from rfl, hm] at e
    obtain ⟨rfl, e2⟩ := Prod.mk.inj e
    obtain ⟨rfl, rfl⟩ := Prod.mk.inj e2
    have e3 := numsR_at [A.toNat, B.toNat] 7 10 _ false hd (by decide) (by intro n hn; simp at hn; omega)
    have e4 := congrArg Prod.fst e3
    have e5 : (numR l 7 false).1 = A.toNat ∧ (numR l (numR l 7 false).2.1 (numR l 7 false).2.2).1 = B.toNat := by
      have : [(numR l 7 false).1, (numR l (numR l 7 false).2.1 (numR l 7 false).2.2).1] = [A.toNat, B.toNat] := e4
      simpa using this
    have hd2 := drop_more hd
    obtain ⟨f1, f2⟩ := after_at hd2
    refine ⟨f1, by rw [e5.1]; omega, by rw [e5.2]; omega, rfl, by simp, ?_⟩
    rw [f2]
    simp [headT, lineP]
    omega
/-- A word ahead of a blank or a feed is the line's word. -/
theorem name_pre {op op' : Int} (h : 1 ≤ op ∧ op ≤ 6) (h' : 1 ≤ op' ∧ op' ≤ 6) {c : UInt8} (hc : c = 32 ∨ c = 10) {r r' : List UInt8} (e : nameL op ++ c :: r = nameL op' ++ r') : op = op' := by
  obtain rfl | rfl | rfl | rfl | rfl | rfl : op = 1 ∨ op = 2 ∨ op = 3 ∨ op = 4 ∨ op = 5 ∨ op = 6 := by omega
  all_goals
    obtain rfl | rfl | rfl | rfl | rfl | rfl : op' = 1 ∨ op' = 2 ∨ op' = 3 ∨ op' = 4 ∨ op' = 5 ∨ op' = 6 := by omega
    all_goals
      first
        | rfl
        | (exfalso; rcases hc with rfl | rfl <;> simp [nameL] at e)
theorem inst_form (y : S35) : ∃ c r, (c = 32 ∨ c = 10) ∧ instT y = nameL y.f0 ++ c :: r := by
  unfold instT lineP
  cases h : ownNums y with
  | nil => exact ⟨10, [], .inr rfl, by simp⟩
  | cons a r => exact ⟨32, digN a ++ ((r.flatMap fun n => (32 : UInt8) :: digN n) ++ [10]), .inl rfl, by simp⟩
/-- Where a program's text goes on: the next instruction. -/
theorem prom_next {l : List UInt8} {xs : List S35} {a b : Int} {p : Nat} {L : List S35} {A B : Int} (h1 : checkB L A B = 0) (h2 : progT L A B = l) (hP : Prom l xs a b p false) (hp : p < l.length) :
    ∃ y, L[xs.length]? = some y ∧ rawI y ∧ xs ++ [y] = L.take (xs.length + 1) ∧ xs.length + 1 ≤ L.length ∧ l.drop p = instT y ++ (L.drop (xs.length + 1)).flatMap instT ∧ A = a ∧ B = b ∧ p = (headT A B ++ (L.take xs.length).flatMap instT).length ∧ xs.length < 4000 := by
  obtain ⟨-, rfl, rfl, e1, e2, e3⟩ := hP L A B h1 h2
  obtain ⟨c1, c2, c3, c4⟩ := check_ok h1
  have hlt : xs.length < L.length := by
    rcases Nat.lt_or_ge xs.length L.length with h | h
    · exact h
    · exfalso
      rw [List.take_of_length_le h] at e3
      have : p = l.length := by rw [e3, ← h2]; rfl
      omega
  have hy : L[xs.length]? = some L[xs.length] := List.getElem?_eq_getElem hlt
  refine ⟨L[xs.length], hy, fits_raw (c4 _ (List.getElem_mem hlt)), ?_, hlt, ?_, rfl, rfl, e3, by omega⟩
  · have e5 : xs ++ [L[xs.length]] = L.take xs.length ++ [L[xs.length]] := congrArg (· ++ [L[xs.length]]) e1
    rw [e5, List.take_append_getElem hlt]
  · have e4 : l = (headT A B ++ (L.take xs.length).flatMap instT) ++ (L.drop xs.length).flatMap instT := by
      rw [← h2]; unfold progT
      conv => lhs; rw [← List.take_append_drop xs.length L, List.flatMap_append]
      simp
    rw [e3]
    conv => lhs; rw [e4]
    rw [List.drop_left, List.drop_eq_getElem_cons hlt, List.flatMap_cons]
theorem prom_word {l : List UInt8} {xs : List S35} {a b : Int} {p : Nat} (hP : Prom l xs a b p false) (hp : p < l.length) {L : List S35} {A B : Int} (h1 : checkB L A B = 0) (h2 : progT L A B = l) :
    ∃ op, (1 ≤ op ∧ op ≤ 6) ∧ wordB l p (nameL op) = true := by
  obtain ⟨y, _, hr, _, _, hd, _⟩ := prom_next h1 h2 hP hp
  obtain ⟨c, r, hc, hi⟩ := inst_form y
  rw [hi, List.append_assoc] at hd
  exact ⟨y.f0, hr.1, wordB_at hd⟩
theorem prom_lost {l : List UInt8} {xs : List S35} {a b : Int} {p : Nat} (hP : Prom l xs a b p false) (hp : p < l.length) (h : ∀ op, 1 ≤ op ∧ op ≤ 6 → wordB l p (nameL op) = false) (x : S35) (p' : Nat) : Prom l (xs ++ [x]) a b p' true := by
  intro L A B h1 h2
  obtain ⟨op, ho, hw⟩ := prom_word hP hp h1 h2
  rw [h op ho] at hw
  simp at hw
def arity (op : Int) : Nat := if op = 1 then 3 else if op = 2 ∨ op = 3 ∨ op = 4 then 2 else 0
theorem own_arity {y : S35} (h : 1 ≤ y.f0 ∧ y.f0 ≤ 6) : (ownNums y).length = arity y.f0 := by
  unfold ownNums arity
  obtain h | h | h | h | h | h : y.f0 = 1 ∨ y.f0 = 2 ∨ y.f0 = 3 ∨ y.f0 = 4 ∨ y.f0 = 5 ∨ y.f0 = 6 := by omega
  all_goals (rw [h]; simp)
theorem prom_step {l : List UInt8} {xs : List S35} {a b : Int} {p : Nat} (hP : Prom l xs a b p false) (hp : p < l.length) {op : Int} (ho : 1 ≤ op ∧ op ≤ 6) (hw : wordB l p (nameL op) = true)
    {ns : List Nat} {p1 : Nat} {b1 : Bool} (hn : numsR l (arity op) (p + (nameL op).length) false = (ns, p1, b1)) {x : S35} (hx : fillL op ns = some x) :
    Prom l (xs ++ [x]) a b (afterP l p1 b1) (afterB l p1 b1 || decide (4000 < xs.length)) := by
  intro L A B h1 h2
  obtain ⟨y, hy, hr, hxs, hle, hd, rfl, rfl, hpp, h4⟩ := prom_next h1 h2 hP hp
  obtain ⟨c, r, hc, hi⟩ := inst_form y
  obtain ⟨r', hr'⟩ := word_of hw
  have hop : y.f0 = op := by
    rw [hi, List.append_assoc] at hd
    rw [hd] at hr'
    exact name_pre hr.1 ho hc hr'
  subst hop
  have hd2 : l.drop (p + (nameL y.f0).length) = ((ownNums y).flatMap fun n => (32 : UInt8) :: digN n) ++ 10 :: (L.drop (xs.length + 1)).flatMap instT := by
    refine drop_more (a := nameL y.f0) ?_
    rw [hd]; unfold instT lineP; simp
  have e := numsR_at (ownNums y) _ 10 _ false hd2 (by decide) hr.2.1
  rw [own_arity hr.1, hn] at e
  obtain ⟨rfl, e2⟩ := Prod.mk.inj e
  obtain ⟨rfl, rfl⟩ := Prod.mk.inj e2
  rw [hr.2.2] at hx
  obtain rfl := Option.some.inj hx
  obtain ⟨f1, f2⟩ := after_at (drop_more hd2)
  refine ⟨by rw [f1, decide_eq_false (show ¬ 4000 < xs.length by omega)]; rfl, rfl, rfl, by rw [List.length_append]; exact hxs, by rw [List.length_append]; exact hle, ?_⟩
  have hl1 : (xs ++ [y]).length = xs.length + 1 := by simp
  rw [f2, hl1, ← hxs, List.flatMap_append]
  have e6 : xs = L.take xs.length := by
    have := congrArg (List.take xs.length) hxs
    rw [List.take_left, List.take_take, Nat.min_eq_left (by omega)] at this
    exact this
  rw [hpp, ← e6]
  simp [instT, lineP]
  omega
theorem inst_pos (y : S35) : 0 < (instT y).length := by simp [instT]
theorem flat_pos : ∀ (r : List S35), r ≠ [] → 0 < (r.flatMap instT).length
  | [], h => absurd rfl h
  | y :: r, _ => by have := inst_pos y; rw [List.flatMap_cons, List.length_append]; omega
theorem prom_all {l : List UInt8} {xs : List S35} {a b : Int} {p : Nat} (hP : Prom l xs a b p false) (hp : ¬ p < l.length) {L : List S35} {A B : Int} (h1 : checkB L A B = 0) (h2 : progT L A B = l) : L = xs ∧ A = a ∧ B = b := by
  obtain ⟨-, rfl, rfl, e1, e2, e3⟩ := hP L A B h1 h2
  refine ⟨?_, rfl, rfl⟩
  have e4 : l = (headT A B ++ (L.take xs.length).flatMap instT) ++ (L.drop xs.length).flatMap instT := by
    rw [← h2]; unfold progT
    conv => lhs; rw [← List.take_append_drop xs.length L, List.flatMap_append]
    simp
  have hz : (L.drop xs.length).flatMap instT = [] := by
    have := congrArg List.length e4
    rw [List.length_append] at this
    exact List.eq_nil_of_length_eq_zero (by omega)
  have hd : L.drop xs.length = [] := by
    rcases Classical.em (L.drop xs.length = []) with h | h
    · exact h
    · have := flat_pos _ h; rw [hz] at this; simp at this
  have : L.length ≤ xs.length := by simpa using hd
  rw [List.take_of_length_le this] at e1
  exact e1.symm
theorem end_bad {l : List UInt8} {xs : List S35} {a b : Int} {p : Nat} (hP : Prom l xs a b p true) : readL l = none :=
  prom_none (fun L A B h1 h2 => by have := (hP L A B h1 h2).1; simp at this)
theorem end_check {l : List UInt8} {xs : List S35} {a b : Int} {p : Nat} (hP : Prom l xs a b p false) (hp : ¬ p < l.length) (h : checkB xs a b ≠ 0) : readL l = none :=
  prom_none (fun L A B h1 h2 => by obtain ⟨rfl, rfl, rfl⟩ := prom_all hP hp h1 h2; exact h h1)
theorem end_text {l : List UInt8} {xs : List S35} {a b : Int} {p : Nat} (hP : Prom l xs a b p false) (hp : ¬ p < l.length) (h : progT xs a b ≠ l) : readL l = none :=
  prom_none (fun L A B h1 h2 => by obtain ⟨rfl, rfl, rfl⟩ := prom_all hP hp h1 h2; exact h h2)
theorem end_good {l : List UInt8} {xs : List S35} {a b : Int} (h1 : checkB xs a b = 0) (h2 : progT xs a b = l) : readL l = some (xs, a, b) := (readL_iff l xs a b).2 ⟨h1, h2⟩
end Go.Proofs.YtkjkkebaafmheaaDoor
/- The walk of the document's Read of layer 14. -/
namespace Go.Proofs.YtkjkkebaafmheaaDoor
open Go.RowKit PAll Go.Proofs.YtkjkkebaafmheaaDoorW.PrintWords Go.Proofs.YtkjkkebaafmheaaDoorW.PrintLast Go.Proofs.YtkjkkebaafmheaaDoorW.PrintMore
open Go.Shelf
set_option linter.unusedVariables false
set_option linter.unusedSimpArgs false
theorem blk_far' {W : World} {b : Nat} {o : Obj} (h : W.heap[b]? = some o) {p : Addr} (hp : p.block ≠ b) (v : Value) : (W.setCell p v).heap[b]? = some o := (Below.heap_setCell _ _ _ _ (fun e => hp e.symm)).trans h
/-- The memory of the document's Read: the result's slot, the cursor, the program. -/
structure CS (w W : World) (q : Nat) (l : List UInt8) (p : Nat) (bad : Bool) (u : Value) (xs : List S35) (a b : Int) : Prop where
  res : W.heap[w.heap.size]? = some (.cells #[.slice none 0 0, .int .i64 0, .int .i64 0] 24 (0, 0))
  prg : W.heap[q]? = some (.cells #[u, .int .i64 a, .int .i64 b] 24 (0, 0))
  rd : W.heap[w.heap.size + 1]? = some (.cells #[.string (bs l), .int .i64 p, .bool bad] 70 (0, 0))
  row : Kd.R k35 35 W w.heap.size (fun _ => True) u xs
  bel : Below w.heap.size w W
  far : w.heap.size + 1 < q
theorem CS.kp {w W W' : World} {q l p bad u xs a b} (h : CS w W q l p bad u xs a b) (k : Kp [] W W') : CS w W' q l p bad u xs a b :=
  ⟨kblk k h.res, kblk k h.prg, kblk k h.rd, Kd.R_below h.row (k.below (Nat.le_refl _) (by simp)), h.bel.trans ((k.below (Nat.le_refl _) (by simp)).mono h.bel.size), h.far⟩
theorem CS.call {w W W' : World} {q l p bad u xs a b p' bad'} (h : CS w W q l p bad u xs a b) (i : IsS70 w W' (w.heap.size + 1) (bs l) (p' : Nat) bad') (hb : Below w.heap.size w W') (k : KeepBut W W' (w.heap.size + 1) none) : CS w W' q l p' bad' u xs a b := by
  have hf := h.far
  refine ⟨(k.2 _ (ltB h.res) (by omega) (by simp)).trans h.res, (k.2 _ (ltB h.prg) (by omega) (by simp)).trans h.prg, i.1, ?_, hb, h.far⟩
  exact Kd.R_mono (Kd.R_keep (Kd.R_types h.row h.rd (by decide)) k (fun _ hk => hk.2)) (fun _ _ => trivial)
theorem cs_word {w W : World} {q l p bad u xs a b} (t : List UInt8) (h : CS w W q l p bad u xs a b) (hl : l.length ≤ 1000000) (hp : p ≤ l.length) (ht : t.length ≤ 100) (ht0 : t ≠ []) :
    Calls Tryd.prog 28 #[.pointer (some ⟨w.heap.size + 1, 0, none⟩), .string (bs t)] W fun e W' => e = .returned (.bool (wordB l p t)) ∧ CS w W' q l (if wordB l p t = true then p + t.length else p) bad u xs a b := by
  refine (burinref14_Cursor_word.calls (w.heap.size + 1) (bs l) (p : Nat) bad (bs t) _ _ _ _ w W ⟨h.rd, by omega⟩ h.bel (word_f l p bad t hl hp ht ht0)).mono ?_
  rintro e W' ⟨rfl, h1, h2, h3⟩
  exact ⟨rfl, h.call h1 h2 h3⟩
theorem cs_num {w W : World} {q l p bad u xs a b} (h : CS w W q l p bad u xs a b) (hl : l.length ≤ 1000000) (hp : p ≤ l.length) :
    Calls Tryd.prog 29 #[.pointer (some ⟨w.heap.size + 1, 0, none⟩)] W fun e W' => e = .returned (.int .i64 ((numR l p bad).1 : Nat)) ∧ CS w W' q l (numR l p bad).2.1 (numR l p bad).2.2 u xs a b := by
  refine (burinref14_Cursor_num.calls 8 (w.heap.size + 1) (bs l) (p : Nat) bad _ _ _ _ w W ⟨h.rd, by omega⟩ h.bel (num_fR l p bad hl hp)).mono ?_
  rintro e W' ⟨rfl, h1, h2, h3⟩
  exact ⟨rfl, h.call h1 h2 h3⟩
theorem CS.setPrg {w W : World} {q l p bad u xs a b} (h : CS w W q l p bad u xs a b) (j : Nat) (v : Value) {a' b' : Int} (he : (#[u, .int .i64 a, .int .i64 b] : Array Value).setIfInBounds j v = #[u, .int .i64 a', .int .i64 b']) : CS w (W.setCell ⟨q, j, none⟩ v) q l p bad u xs a' b' := by
  have hf := h.far
  refine ⟨blk_far' h.res (by show q ≠ _; omega) v, (setB h.prg j v).trans (by rw [he]), blk_far' h.rd (by show q ≠ _; omega) v, ?_, h.bel.setCell (by show w.heap.size ≤ q; omega) _, hf⟩
  exact Kd.R_set h.row h.prg (by decide) j v
theorem CS.setBad {w W : World} {q l p bad u xs a b} (h : CS w W q l p bad u xs a b) (t : Bool) : CS w (W.setCell ⟨w.heap.size + 1, 2, none⟩ (.bool t)) q l p t u xs a b := by
  have hf := h.far
  refine ⟨blk_far' h.res (by show w.heap.size + 1 ≠ _; omega) _, blk_far' h.prg (by show w.heap.size + 1 ≠ _; omega) _, (setB h.rd 2 _).trans rfl, ?_, h.bel.setCell (by show w.heap.size ≤ w.heap.size + 1; omega) _, hf⟩
  exact Kd.R_set h.row h.rd (by decide) 2 _
/-- With the instruction's own block. -/
structure CX (w W : World) (q : Nat) (l : List UInt8) (p : Nat) (bad : Bool) (u : Value) (xs : List S35) (a b : Int) (x : Nat) (y : S35) : Prop where
  res : W.heap[w.heap.size]? = some (.cells #[.slice none 0 0, .int .i64 0, .int .i64 0] 24 (0, 0))
  prg : W.heap[q]? = some (.cells #[u, .int .i64 a, .int .i64 b] 24 (0, 0))
  rd : W.heap[w.heap.size + 1]? = some (.cells #[.string (bs l), .int .i64 p, .bool bad] 70 (0, 0))
  row : Kd.R k35 35 W w.heap.size (fun k => k ≠ x) u xs
  bel : Below w.heap.size w W
  own : W.heap[x]? = some (.cells #[.int .i64 y.f0, .int .i64 y.f1, .int .i64 y.f2, .int .i64 y.f3, .int .i64 y.f4] 35 (0, 0))
  far : w.heap.size + 1 < q
  farx : w.heap.size + 1 < x ∧ x ≠ q
theorem CX.new {w W : World} {q l p bad u xs a b} (h : CS w W q l p bad u xs a b) (y : S35) : CX w (W.alloc (.cells #[.int .i64 y.f0, .int .i64 y.f1, .int .i64 y.f2, .int .i64 y.f3, .int .i64 y.f4] 35)) q l p bad u xs a b W.heap.size y := by
  have k := (Kp.refl [] W).alloc (.cells #[.int .i64 y.f0, .int .i64 y.f1, .int .i64 y.f2, .int .i64 y.f3, .int .i64 y.f4] 35)
  have h2 := h.kp k
  have h3 := ltB h.rd
  have h4 := ltB h.prg
  refine ⟨h2.res, h2.prg, h2.rd, ?_, h2.bel, heap_alloc_new W _, h.far, by omega, by omega⟩
  exact Kd.R_below (Kd.R_mono (Kd.R_bound h.row) (fun j hj => by have := hj.2.2.1; show j ≠ _; omega)) (k.below (Nat.le_refl _) (by simp))
theorem CX.kp {w W W' : World} {q l p bad u xs a b x y} (h : CX w W q l p bad u xs a b x y) (k : Kp [] W W') : CX w W' q l p bad u xs a b x y :=
  ⟨kblk k h.res, kblk k h.prg, kblk k h.rd, Kd.R_below h.row (k.below (Nat.le_refl _) (by simp)), h.bel.trans ((k.below (Nat.le_refl _) (by simp)).mono h.bel.size), kblk k h.own, h.far, h.farx⟩
theorem CX.call {w W W' : World} {q l p bad u xs a b x y p' bad'} (h : CX w W q l p bad u xs a b x y) (i : IsS70 w W' (w.heap.size + 1) (bs l) (p' : Nat) bad') (hb : Below w.heap.size w W') (k : KeepBut W W' (w.heap.size + 1) none) : CX w W' q l p' bad' u xs a b x y := by
  have hf := h.far
  have hx := h.farx
  refine ⟨(k.2 _ (ltB h.res) (by omega) (by simp)).trans h.res, (k.2 _ (ltB h.prg) (by omega) (by simp)).trans h.prg, i.1, ?_, hb, (k.2 _ (ltB h.own) (by omega) (by simp)).trans h.own, hf, hx⟩
  exact Kd.R_mono (Kd.R_keep (Kd.R_types h.row h.rd (by decide)) k (fun _ hk => hk.2)) (fun _ hk => hk.1)
theorem CX.set {w W : World} {q l p bad u xs a b x y} (h : CX w W q l p bad u xs a b x y) (j : Nat) (v : Value) (y' : S35) (he : (#[.int .i64 y.f0, .int .i64 y.f1, .int .i64 y.f2, .int .i64 y.f3, .int .i64 y.f4] : Array Value).setIfInBounds j v = #[.int .i64 y'.f0, .int .i64 y'.f1, .int .i64 y'.f2, .int .i64 y'.f3, .int .i64 y'.f4]) :
    CX w (W.setCell ⟨x, j, none⟩ v) q l p bad u xs a b x y' := by
  have hf := h.far
  have hx := h.farx
  exact ⟨blk_far' h.res (by show x ≠ _; omega) v, blk_far' h.prg (by show x ≠ _; omega) v, blk_far' h.rd (by show x ≠ _; omega) v, Kd.R_far (p := ⟨x, j, none⟩) h.row (fun k hk => hk) v, h.bel.setCell (by show w.heap.size ≤ x; omega) _, (setB h.own j v).trans (by rw [he]), hf, hx⟩
theorem CX.setBad {w W : World} {q l p bad u xs a b x y} (h : CX w W q l p bad u xs a b x y) (t : Bool) : CX w (W.setCell ⟨w.heap.size + 1, 2, none⟩ (.bool t)) q l p t u xs a b x y := by
  have hf := h.far
  have hx := h.farx
  refine ⟨blk_far' h.res (by show w.heap.size + 1 ≠ _; omega) _, blk_far' h.prg (by show w.heap.size + 1 ≠ _; omega) _, (setB h.rd 2 _).trans rfl, ?_, h.bel.setCell (by show w.heap.size ≤ w.heap.size + 1; omega) _, blk_far' h.own (by show w.heap.size + 1 ≠ _; omega) _, hf, hx⟩
  exact Kd.R_set h.row h.rd (by decide) 2 _
theorem cx_word {w W : World} {q l p bad u xs a b x y} (t : List UInt8) (h : CX w W q l p bad u xs a b x y) (hl : l.length ≤ 1000000) (hp : p ≤ l.length) (ht : t.length ≤ 100) (ht0 : t ≠ []) :
    Calls Tryd.prog 28 #[.pointer (some ⟨w.heap.size + 1, 0, none⟩), .string (bs t)] W fun e W' => e = .returned (.bool (wordB l p t)) ∧ CX w W' q l (if wordB l p t = true then p + t.length else p) bad u xs a b x y := by
  refine (burinref14_Cursor_word.calls (w.heap.size + 1) (bs l) (p : Nat) bad (bs t) _ _ _ _ w W ⟨h.rd, by omega⟩ h.bel (word_f l p bad t hl hp ht ht0)).mono ?_
  rintro e W' ⟨rfl, h1, h2, h3⟩
  exact ⟨rfl, h.call h1 h2 h3⟩
theorem cx_num {w W : World} {q l p bad u xs a b x y} (h : CX w W q l p bad u xs a b x y) (hl : l.length ≤ 1000000) (hp : p ≤ l.length) :
    Calls Tryd.prog 29 #[.pointer (some ⟨w.heap.size + 1, 0, none⟩)] W fun e W' => e = .returned (.int .i64 ((numR l p bad).1 : Nat)) ∧ CX w W' q l (numR l p bad).2.1 (numR l p bad).2.2 u xs a b x y := by
  refine (burinref14_Cursor_num.calls 8 (w.heap.size + 1) (bs l) (p : Nat) bad _ _ _ _ w W ⟨h.rd, by omega⟩ h.bel (num_fR l p bad hl hp)).mono ?_
  rintro e W' ⟨rfl, h1, h2, h3⟩
  exact ⟨rfl, h.call h1 h2 h3⟩
end Go.Proofs.YtkjkkebaafmheaaDoor
