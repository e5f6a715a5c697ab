/- A slice of two-field structs that came in, opened; the law QueuePlays for every argument. -/
import Derived.Test.YtfpjemcnehbdoaaU
namespace Go.Proofs.Ytfpjemcnehbdoaa
open Go.RowKit
open Go.Deep Go.ChangeShapes Go.WideShapes
set_option linter.unusedVariables false

section
variable {H : Type} {enc : TypeId × Value → H} {w : World} {base : Nat} {spare : Nat → Bool} {held : Bool} {r : Reach} {b0 : Nat} {v : Value} {d : DataW H} {p : List MemPlace}
theorem openActs (hv : Value.okWide Try.prog w r b0 34 v) (h : DataW.Trod enc Try.prog w base spare held 34 v d p) :
    ∃ A len cap f0 f1, v = .slice A len cap ∧ IsActs w A len f0 f1 := by
  obtain ⟨a, len, cap, rfl⟩ := okWide_slice Try.underlying34 hv
  obtain ⟨fuel, hf⟩ := h
  refine ⟨a, len, cap, ?_⟩
  rcases open_slice_pairs Try.underlying34 Try.underlying38 (by kernel_rfl) rfl rfl (by kernel_rfl) (by kernel_rfl) hf with ⟨hcs, _⟩ | ⟨x, ln, c, m, n, V0, V1, D0, D1, P0, P1, hcs, _, hl, hm, hmm, _, hx⟩
  · simp [Value.cells] at hcs
    obtain ⟨rfl, rfl, rfl⟩ := hcs
    exact ⟨fun _ => 0, fun _ => 0, rfl, by omega, fun h => by omega⟩
  · simp [Value.cells] at hcs
    obtain ⟨rfl, rfl, rfl⟩ := hcs
    have hlm : len ≤ m := by rw [hmm]; split <;> omega
    have hmx : maxLen = 9223372036854775807 := rfl
    obtain ⟨b, off, spot⟩ := x
    by_cases h0 : 0 < len
    · have hspot : spot = none := by
        simpa [Addr.add] using World.cell?_spot (hx 0 (by omega)).1
      subst hspot
      have each : ∀ i, i < len → ∃ q : Int × Int, w.cell? ⟨b, off + i * 2, none⟩ = some (.int .i64 q.1) ∧ w.cell? ⟨b, off + i * 2 + 1, none⟩ = some (.int .i64 q.2) ∧ (Lit.int .i64 q.1).wf = true ∧ (Lit.int .i64 q.2).wf = true := by
        intro i hi
        obtain ⟨e0, e1, g0, g1⟩ := hx i (by omega)
        obtain ⟨n0, q0, _, w0⟩ := DataW.trod_int Try.underlying3 g0
        obtain ⟨n1, q1, _, w1⟩ := DataW.trod_int Try.underlying3 g1
        simp at q0 q1
        rw [q0, add_plain] at e0
        rw [q1, add_plain, ← Nat.add_assoc] at e1
        exact ⟨(n0, n1), e0, e1, w0, w1⟩
      obtain ⟨q, hq⟩ := choose_lt each
      exact ⟨fun i => (q i).1, fun i => (q i).2, rfl, by omega, fun h0 => ⟨b, off, rfl, World.block_lt_of_cell? w _ (hq 0 h0).1, fun j hj => hq j hj⟩⟩
    · exact ⟨fun _ => 0, fun _ => 0, rfl, by omega, fun h => absurd h h0⟩
end

theorem play_walk (W : World) (n : Int) (A : Option Addr) (len cap : Nat) (f0 f1 : Nat → Int) (at_ : Int) (wn : (Lit.int .i64 n).wf = true) (hA : IsActs W A len f0 f1) (wa : (Lit.int .i64 at_).wf = true) :
    Calls Try.prog 5 #[.int .i64 n, .slice A len cap, .int .i64 at_] W fun e w' => e = .returned (.bool true) ∧ Below W.heap.size W w' := by
  refine Calls.mono (R := fun e w' => e = .returned (.bool true) ∧ Kp [] W w') ?_ (fun e w' h => ⟨h.1, h.2.below (Nat.le_refl _) (by simp)⟩)
  by_cases h : n < 0 ∨ 4000 < n
  · exact play_no W n at_ _ h
  · obtain ⟨m, rfl⟩ : ∃ m : Nat, n = m := ⟨n.toNat, by omega⟩
    exact play_main W m at_ A len cap f0 f1 hA (by omega)
end Go.Proofs.Ytfpjemcnehbdoaa
