/- A slice of three-field structs that came in, opened: every element's three integers. -/
import Derived.Test.YtmoobdljmcephaaL
import Derived.Deep.Slices
import Derived.Deep.Strs
namespace Go.Proofs.Ytmoobdljmcephaa
open Go.RowKit PMarksPlay
open Go.Deep Go.ChangeShapes Go.WideShapes
set_option linter.unusedVariables false

def IsActs (w : World) (A : Option Addr) (len : Nat) (f0 f1 f2 : Nat → Int) : Prop :=
  len ≤ 9223372036854775807 ∧ (0 < len → ∃ b off, A = some ⟨b, off, none⟩ ∧ b < w.heap.size ∧
  ∀ j, j < len → w.cell? ⟨b, off + j * 3, none⟩ = some (.int .i64 (f0 j)) ∧ w.cell? ⟨b, off + j * 3 + 1, none⟩ = some (.int .i64 (f1 j)) ∧ w.cell? ⟨b, off + j * 3 + 2, none⟩ = some (.int .i64 (f2 j)) ∧
    (Lit.int .i64 (f0 j)).wf = true ∧ (Lit.int .i64 (f1 j)).wf = true ∧ (Lit.int .i64 (f2 j)).wf = true)

section
variable {H : Type} {enc : TypeId × Value → H} {w : World} {base : Nat} {spare : Nat → Bool} {held : Bool} {r : Reach} {b0 : Nat} {v : Value} {d : DataW H} {p : List MemPlace}
theorem openActs (hv : Value.okWide Try.prog w r b0 32 v) (h : DataW.Trod enc Try.prog w base spare held 32 v d p) :
    ∃ A len cap f0 f1 f2, v = .slice A len cap ∧ IsActs w A len f0 f1 f2 := by
  obtain ⟨a, len, cap, rfl⟩ := okWide_slice Try.underlying32 hv
  obtain ⟨fuel, hf⟩ := h
  refine ⟨a, len, cap, ?_⟩
  rcases open_slice Try.underlying32 hf with ⟨hcs, _⟩ | ⟨x, ln, c, m, n, D, Pl, hcs, _, hl, hm, hmm, _, hx⟩
  · simp [Value.cells] at hcs
    obtain ⟨rfl, rfl, rfl⟩ := hcs
    exact ⟨fun _ => 0, fun _ => 0, fun _ => 0, rfl, by omega, fun h => by omega⟩
  · simp [Value.cells] at hcs
    obtain ⟨rfl, rfl, rfl⟩ := hcs
    have hlm : len ≤ m := by rw [hmm]; split <;> omega
    have ce : Try.prog.cellsOf 39 = 3 := by kernel_rfl
    have c3 : Try.prog.cellsOf 3 = 1 := by kernel_rfl
    rw [ce] at hx
    obtain ⟨b, off, spot⟩ := x
    by_cases h0 : 0 < len
    · have hspot : spot = none := by
        obtain ⟨cs', h1, _⟩ := hx 0 (by omega)
        obtain ⟨_, hlen, hcell⟩ := World.cells?_some h1
        obtain ⟨u, hu⟩ : ∃ u, cs'[0]? = some u := ⟨cs'[0]'(by omega), List.getElem?_eq_getElem (by omega)⟩
        simpa [Addr.add] using World.cell?_spot ((hcell 0 (by omega)).trans hu)
      subst hspot
      have each : ∀ i, i < len → ∃ q : Int × Int × Int, w.cell? ⟨b, off + i * 3, none⟩ = some (.int .i64 q.1) ∧ w.cell? ⟨b, off + i * 3 + 1, none⟩ = some (.int .i64 q.2.1) ∧ w.cell? ⟨b, off + i * 3 + 2, none⟩ = some (.int .i64 q.2.2) ∧
          (Lit.int .i64 q.1).wf = true ∧ (Lit.int .i64 q.2.1).wf = true ∧ (Lit.int .i64 q.2.2).wf = true := by
        intro i hi
        obtain ⟨cs', h1, h2⟩ := hx i (by omega)
        obtain ⟨_, hlen, hcell⟩ := World.cells?_some h1
        obtain ⟨y0, y1, y2, k, _, hl2, g0, g1, g2⟩ := trod_struct3 Try.underlying39 h2
        match cs', hlen with
        | [v0, v1, v2], _ =>
          simp [c3] at g0 g1 g2
          obtain ⟨n0, q0, _, w0⟩ := DataW.trod_int Try.underlying3 g0
          obtain ⟨n1, q1, _, w1⟩ := DataW.trod_int Try.underlying3 g1
          obtain ⟨n2, q2, _, w2⟩ := DataW.trod_int Try.underlying3 g2
          simp at q0 q1 q2
          subst q0 q1 q2
          have e0 := hcell 0 (by omega)
          have e1 := hcell 1 (by omega)
          have e2 := hcell 2 (by omega)
          rw [add_add, add_plain, ← Nat.add_assoc] at e0 e1 e2
          exact ⟨(n0, n1, n2), e0, e1, e2, w0, w1, w2⟩
      obtain ⟨q, hq⟩ := choose_lt each
      exact ⟨fun i => (q i).1, fun i => (q i).2.1, fun i => (q i).2.2, rfl, by have : maxLen = 9223372036854775807 := rfl; omega, fun h0 => ⟨b, off, rfl, World.block_lt_of_cell? w _ (hq 0 h0).1, fun j hj => hq j hj⟩⟩
    · exact ⟨fun _ => 0, fun _ => 0, fun _ => 0, rfl, by have : maxLen = 9223372036854775807 := rfl; omega, fun h => absurd h h0⟩
end
end Go.Proofs.Ytmoobdljmcephaa
