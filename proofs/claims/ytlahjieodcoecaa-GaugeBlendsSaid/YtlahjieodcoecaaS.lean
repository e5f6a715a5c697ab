/- A slice of floats that came in, opened; what gauge.Least's answer is (plain law). -/
import Derived.Test.YtlahjieodcoecaaW
import Derived.Deep.Slices
import Derived.Laws.Cover2
namespace Go.Proofs.Ytlahjieodcoecaa
open Go.ChangeShapes Go.WideShapes Go.RowKit Go.Deep
set_option linter.unusedVariables false

section
variable {H : Type} {enc : TypeId × Value → H} {w : World} {base b0 : Nat} {spare : Nat → Bool} {held : Bool}
theorem cell_float {n : Nat} {v : Value} {x : DataW H × List MemPlace} (h : DataW.trod enc Try.prog w base spare held n 29 [v] = some x) : ∃ b, v = .float .f64 b ∧ b < 18446744073709551616 := by
  cases n with
  | zero => simp [DataW.trod] at h
  | succ n =>
    simp only [DataW.trod, Try.underlying29] at h
    cases v with
    | float k b =>
      by_cases hw : k = .f64 ∧ (Lit.float .f64 b).wf = true
      · exact ⟨b, by rw [hw.1], by simpa [Lit.wf] using hw.2⟩
      · simp [hw] at h
    | _ => simp at h

theorem open_floats {v : Value} {d : DataW H} {ps : List MemPlace} (hval : Value.okWide Try.prog w .any b0 22 v) (h : DataW.Trod enc Try.prog w base spare held 22 v d ps) :
    ∃ (a : Option Addr) (len cap : Nat) (l : List Nat), v = .slice a len cap ∧ FRow w a len l := by
  obtain ⟨a, len, cap, rfl⟩ := okWide_slice Try.underlying22 hval
  obtain ⟨fuel, hf⟩ := h
  refine ⟨a, len, cap, ?_⟩
  rcases open_slice1 Try.underlying22 (by kernel_rfl) hf with ⟨hcs, _⟩ | ⟨x, ln, c, m, n, V, D, Pl, hcs, _, hl, hm, hmm, _, hx⟩
  · simp [Value.cells] at hcs
    obtain ⟨rfl, rfl, rfl⟩ := hcs
    exact ⟨[], rfl, rfl, fun j hj => by omega, fun h => by omega, by omega⟩
  · simp [Value.cells] at hcs
    obtain ⟨rfl, rfl, rfl⟩ := hcs
    have hlm : len ≤ m := by rw [hmm]; split <;> omega
    have hb : ∀ i, i < len → ∃ b, V i = .float .f64 b ∧ b < 18446744073709551616 := fun i hi => cell_float (hx i (by omega)).2
    refine ⟨(List.range len).map fun i => match V i with | .float _ b => b | _ => 0, rfl, by simp, ?_, ?_, by have : maxLen = 9223372036854775807 := rfl; omega⟩
    · intro j hj
      obtain ⟨b, e, h⟩ := hb j hj
      simp [hj, e, h]
    · intro h0
      obtain ⟨b, off, spot⟩ := x
      have hspot : spot = none := by simpa [Addr.add] using World.cell?_spot (hx 0 (by omega)).1
      subst hspot
      refine ⟨b, off, rfl, fun j hj => ?_⟩
      obtain ⟨y, e, h⟩ := hb j hj
      rw [← Go.WideShapes.add_plain, (hx j (by omega)).1, e]
      simp [hj, e]
end

theorem ord_cases (a b : Nat) : (ord a b = -1 ∧ key a < key b) ∨ (ord a b = 0 ∧ key a = key b) ∨ (ord a b = 1 ∧ key b < key a) := by
  unfold ord
  by_cases h1 : key a < key b
  · rw [if_pos h1]; exact .inl ⟨rfl, h1⟩
  · rw [if_neg h1]
    by_cases h2 : key b < key a
    · rw [if_pos h2]; exact .inr (.inr ⟨rfl, h2⟩)
    · rw [if_neg h2]; exact .inr (.inl ⟨rfl, by omega⟩)

theorem lst_spec (l : List Nat) (n : Nat) :
    (lst l n < 0 → ∀ i, i < n → (fN (l.getD i 0) || pI (l.getD i 0)) = true) ∧
    (0 ≤ lst l n → (fN (l.getD (lst l n).toNat 0) || pI (l.getD (lst l n).toNat 0)) = false ∧
      ∀ i, i < n → (fN (l.getD i 0) || pI (l.getD i 0)) = false → key (l.getD (lst l n).toNat 0) ≤ key (l.getD i 0) ∧ ((i : Int) < lst l n → key (l.getD (lst l n).toNat 0) < key (l.getD i 0))) := by
  induction n with
  | zero => exact ⟨fun _ i hi => by omega, fun h => by simp [lst] at h⟩
  | succ n ih =>
    obtain ⟨ih1, ih2⟩ := ih
    have hlt := lst_lt l n
    have hge := lst_ge l n
    unfold lst
    by_cases hs : (fN (l.getD n 0) || pI (l.getD n 0)) = true
    · rw [if_pos hs]
      refine ⟨fun h i hi => ?_, fun h => ⟨(ih2 h).1, fun i hi hb => ?_⟩⟩
      · by_cases e : i = n
        · rw [e]; exact hs
        · exact ih1 h i (by omega)
      · by_cases e : i = n
        · rw [e] at hb; rw [hb] at hs; cases hs
        · exact (ih2 h).2 i (by omega) hb
    · rw [if_neg hs]
      have hs' : (fN (l.getD n 0) || pI (l.getD n 0)) = false := by simpa using hs
      by_cases h0 : lst l n < 0
      · rw [if_pos h0]
        refine ⟨fun h => by omega, fun _ => ?_⟩
        rw [Int.toNat_natCast]
        refine ⟨hs', fun i hi hb => ?_⟩
        by_cases e : i = n
        · subst e; exact ⟨Int.le_refl _, fun h => by omega⟩
        · rw [ih1 h0 i (by omega)] at hb; cases hb
      · rw [if_neg h0]
        obtain ⟨q1, q2⟩ := ih2 (by omega)
        have hov := ord_cases (l.getD n 0) (l.getD (lst l n).toNat 0)
        by_cases ho : ord (l.getD n 0) (l.getD (lst l n).toNat 0) < 0
        · rw [if_pos ho]
          refine ⟨fun h => by omega, fun _ => ?_⟩
          rw [Int.toNat_natCast]
          refine ⟨hs', fun i hi hb => ?_⟩
          by_cases e : i = n
          · subst e; exact ⟨Int.le_refl _, fun h => by omega⟩
          · have := (q2 i (by omega) hb).1
            exact ⟨by omega, fun _ => by omega⟩
        · rw [if_neg ho]
          refine ⟨fun h => by omega, fun _ => ⟨q1, fun i hi hb => ?_⟩⟩
          by_cases e : i = n
          · subst e; exact ⟨by omega, fun h => by omega⟩
          · exact q2 i (by omega) hb
end Go.Proofs.Ytlahjieodcoecaa
