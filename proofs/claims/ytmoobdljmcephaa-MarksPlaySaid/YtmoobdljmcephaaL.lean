/- The document's table as a list of pairs against the marked numbers: what has, mark and first answer, said of that list. -/
import Derived.Test.YtmoobdljmcephaaK
import Derived.Test.YtmoobdljmcephaaH
namespace Go.Proofs.Ytmoobdljmcephaa
open Go.RowKit PMarksPlay
set_option linter.unusedVariables false
set_option linter.unusedSimpArgs false

def encP (C : Nat) (s : S41) : Nat := s.f0.toNat * C + s.f1.toNat
def inP (R C : Nat) (s : S41) : Prop := 0 ≤ s.f0 ∧ s.f0 < R ∧ 0 ≤ s.f1 ∧ s.f1 < C
def Rel (R C : Nat) (l : List S41) : Prop := ∀ s ∈ l, inP R C s

theorem encP_inj {R C : Nat} {s t : S41} (hs : inP R C s) (ht : inP R C t) (h : encP C s = encP C t) : s.f0 = t.f0 ∧ s.f1 = t.f1 := by
  obtain ⟨a1, a2, a3, a4⟩ := hs
  obtain ⟨b1, b2, b3, b4⟩ := ht
  have := pair_inj (C := C) (by omega) (by omega) h
  omega
theorem hasL_iff (l : List S41) (x y : Int) : hasL l x y = true ↔ ∃ s ∈ l, s.f0 = x ∧ s.f1 = y := by
  unfold hasL
  simp
theorem hasL_out {R C : Nat} {l : List S41} (h : Rel R C l) (x y : Int) (hx : x < 0 ∨ (R : Int) ≤ x ∨ y < 0 ∨ (C : Int) ≤ y) : hasL l x y = false := by
  cases hb : hasL l x y with
  | false => rfl
  | true =>
    obtain ⟨s, hs, rfl, rfl⟩ := (hasL_iff _ _ _).1 hb
    obtain ⟨a1, a2, a3, a4⟩ := h s hs
    omega
theorem hasL_in {R C : Nat} {l : List S41} (h : Rel R C l) (x y : Int) (h0 : 0 ≤ x) (h1 : x < R) (h2 : 0 ≤ y) (h3 : y < C) : hasL l x y = decide (x.toNat * C + y.toNat ∈ l.map (encP C)) := by
  rw [Bool.eq_iff_iff, decide_eq_true_iff, hasL_iff, List.mem_map]
  constructor
  · rintro ⟨s, hs, rfl, rfl⟩
    exact ⟨s, hs, rfl⟩
  · rintro ⟨s, hs, he⟩
    have := encP_inj (t := ⟨x, y⟩) (h s hs) ⟨h0, h1, h2, h3⟩ he
    exact ⟨s, hs, this.1, this.2⟩

def QF (x : Int) (l : List S41) (r : Int) : Prop := (r = -1 ∧ ∀ s ∈ l, s.f0 ≠ x) ∨ (0 ≤ r ∧ (∃ s ∈ l, s.f0 = x ∧ s.f1 = r) ∧ ∀ s ∈ l, s.f0 = x → r ≤ s.f1)
theorem QF_fold (x : Int) : ∀ (l2 l1 : List S41) (b : Int), (∀ s ∈ l2, 0 ≤ s.f1) → QF x l1 b → QF x (l1 ++ l2) (l2.foldl (stepF x) b)
  | [], l1, b, _, h => by simpa using h
  | a :: l2, l1, b, hp, h => by
    rw [show l1 ++ a :: l2 = (l1 ++ [a]) ++ l2 from by simp, List.foldl_cons]
    refine QF_fold x l2 (l1 ++ [a]) _ (fun s hs => hp s (List.mem_cons_of_mem _ hs)) ?_
    have ha := hp a List.mem_cons_self
    unfold stepF
    by_cases e : a.f0 = x
    · rw [if_pos e]
      rcases h with ⟨rfl, h⟩ | ⟨h0, ⟨s, hs, e1, e2⟩, hm⟩
      · rw [if_pos (by omega)]
        refine .inr ⟨ha, ⟨a, by simp, e, rfl⟩, ?_⟩
        intro s hs he
        simp at hs
        rcases hs with hs | rfl
        · exact absurd he (h s hs)
        · exact Int.le_refl _
      · rw [if_neg (by omega)]
        split
        · next hl =>
          refine .inr ⟨ha, ⟨a, by simp, e, rfl⟩, ?_⟩
          intro t ht he
          simp at ht
          rcases ht with ht | rfl
          · have := hm t ht he; omega
          · exact Int.le_refl _
        · next hl =>
          refine .inr ⟨h0, ⟨s, by simp [hs], e1, e2⟩, ?_⟩
          intro t ht he
          simp at ht
          rcases ht with ht | rfl
          · exact hm t ht he
          · omega
    · rw [if_neg e]
      rcases h with ⟨rfl, h⟩ | ⟨h0, ⟨s, hs, e1, e2⟩, hm⟩
      · refine .inl ⟨rfl, ?_⟩
        intro s hs
        simp at hs
        rcases hs with hs | rfl
        · exact h s hs
        · exact e
      · refine .inr ⟨h0, ⟨s, by simp [hs], e1, e2⟩, ?_⟩
        intro t ht he
        simp at ht
        rcases ht with ht | rfl
        · exact hm t ht he
        · exact absurd he e
theorem QF_first {R C : Nat} {l : List S41} (h : Rel R C l) (x : Int) : QF x l (firstL l x) := by
  have := QF_fold x l [] (-1) (fun s hs => (h s hs).2.2.1) (.inl ⟨rfl, by simp⟩)
  simpa [firstL] using this

theorem has_l (w : World) (m wb R C) (l : List S41) (h : IsM w m wb R C (l.map (encP C))) (hr : Rel R C l) (x y : Int) :
    Calls Try.prog 11 #[.pointer (some ⟨m, 0, none⟩), .int .i64 x, .int .i64 y] w fun e w' => e = .returned (.bool (hasL l x y)) ∧ w = w' := by
  by_cases ho : x < 0 ∨ (R : Int) ≤ x ∨ y < 0 ∨ (C : Int) ≤ y
  · rw [hasL_out hr x y ho]
    exact has_no w m wb R C _ h x y ho
  · rw [hasL_in hr x y (by omega) (by omega) (by omega) (by omega)]
    exact has_in' w m wb R C _ h x y (by omega) (by omega) (by omega) (by omega)

def goodP (R C : Nat) (l : List S41) (x y : Int) : Bool := !(decide (x < 0 ∨ (R : Int) ≤ x ∨ y < 0 ∨ (C : Int) ≤ y ∨ hasL l x y = true))
def addP (R C : Nat) (l : List S41) (x y : Int) : List S41 := if goodP R C l x y = true then l ++ [⟨x, y⟩] else l
theorem Rel_add {R C : Nat} {l : List S41} (h : Rel R C l) (x y : Int) : Rel R C (addP R C l x y) := by
  unfold addP
  split
  · next hg =>
    unfold goodP at hg
    simp only [Bool.not_eq_true', decide_eq_false_iff_not] at hg
    intro s hs
    simp at hs
    rcases hs with hs | rfl
    · exact h s hs
    · exact ⟨by show 0 ≤ x; omega, by show x < _; omega, by show 0 ≤ y; omega, by show y < _; omega⟩
  · exact h
theorem add_len (R C : Nat) (l : List S41) (x y : Int) : (addP R C l x y).length ≤ l.length + 1 := by
  unfold addP
  split <;> simp
theorem mark_l (w : World) (m wb R C) (l : List S41) (h : IsM w m wb R C (l.map (encP C))) (hr : Rel R C l) (x y : Int) :
    Calls Try.prog 10 #[.pointer (some ⟨m, 0, none⟩), .int .i64 x, .int .i64 y] w fun e w' => e = .returned (.bool (goodP R C l x y)) ∧ IsM w' m wb R C ((addP R C l x y).map (encP C)) ∧ Kp [wb] w w' := by
  have same : ∀ {b : Bool}, goodP R C l x y = false → Calls Try.prog 10 #[.pointer (some ⟨m, 0, none⟩), .int .i64 x, .int .i64 y] w (fun e w' => e = .returned (.bool false) ∧ w = w') →
      Calls Try.prog 10 #[.pointer (some ⟨m, 0, none⟩), .int .i64 x, .int .i64 y] w fun e w' => e = .returned (.bool (goodP R C l x y)) ∧ IsM w' m wb R C ((addP R C l x y).map (encP C)) ∧ Kp [wb] w w' := by
    intro _ hg hc
    refine hc.mono ?_
    rintro e w' ⟨rfl, rfl⟩
    rw [hg]
    refine ⟨rfl, ?_, Kp.refl _ _⟩
    unfold addP
    rw [hg, if_neg (by simp)]
    exact h
  by_cases ho : x < 0 ∨ (R : Int) ≤ x ∨ y < 0 ∨ (C : Int) ≤ y
  · refine same (b := true) ?_ (mark_out w m wb R C _ h x y ho)
    unfold goodP
    simp only [Bool.not_eq_false', decide_eq_true_eq]
    omega
  · have hi := hasL_in hr x y (by omega) (by omega) (by omega) (by omega)
    by_cases hh : hasL l x y = true
    · refine same (b := true) ?_ (mark_in' w m wb R C _ h x y (by omega) (by omega) (by omega) (by omega) (by rw [hh] at hi; simpa using hi.symm))
      unfold goodP
      simp only [Bool.not_eq_false', decide_eq_true_eq]
      exact .inr (.inr (.inr (.inr hh)))
    · have hg : goodP R C l x y = true := by
        unfold goodP
        simp only [Bool.not_eq_true', decide_eq_false_iff_not]
        rintro (h | h | h | h | h)
        · omega
        · omega
        · omega
        · omega
        · exact hh h
      refine (mark_yes' w m wb R C _ h x y (by omega) (by omega) (by omega) (by omega) (by
        simp only [Bool.not_eq_true] at hh
        rw [hh] at hi
        simpa using hi.symm)).mono ?_
      rintro e w' ⟨rfl, h1, h2⟩
      rw [hg]
      refine ⟨rfl, ?_, h2⟩
      unfold addP
      rw [hg, if_pos rfl, List.map_append]
      exact h1
theorem first_l (w : World) (m wb R C) (l : List S41) (h : IsM w m wb R C (l.map (encP C))) (hr : Rel R C l) (x : Int) :
    Calls Try.prog 17 #[.pointer (some ⟨m, 0, none⟩), .int .i64 x] w fun e w' => e = .returned (.int .i64 (firstL l x)) ∧ w = w' := by
  rcases QF_first hr x with ⟨e, hn⟩ | ⟨h0, ⟨s, hs, e1, e2⟩, hm⟩
  · rw [e]
    refine first_no w m wb R C _ h x ?_
    intro h0 h1 c hc hmem
    obtain ⟨s, hs, he⟩ := List.mem_map.1 hmem
    have := encP_inj (t := ⟨x, c⟩) (hr s hs) ⟨h0, h1, by show (0 : Int) ≤ c; omega, by show (c : Int) < C; omega⟩ (by rw [he]; simp [encP])
    exact hn s hs this.1
  · obtain ⟨a1, a2, a3, a4⟩ := hr s hs
    refine first_yes' w m wb R C _ h x _ (by omega) (by omega) h0 (by omega) (List.mem_map.2 ⟨s, hs, by rw [encP, e1, e2]⟩) ?_
    intro c hc hmem
    obtain ⟨t, ht, he⟩ := List.mem_map.1 hmem
    have := encP_inj (t := ⟨x, c⟩) (hr t ht) ⟨by show (0 : Int) ≤ x; omega, by show x < _; omega, by show (0 : Int) ≤ c; omega, by show (c : Int) < C; omega⟩ (by rw [he]; simp [encP])
    have h2 := hm t ht this.1
    have h3 : t.f1 = c := this.2
    omega
end Go.Proofs.Ytmoobdljmcephaa
