/- A case (a struct of three integers and a boolean) that came in, opened; GaugeEngines at it. -/
import Derived.Test.YtlahjieodcoecaaEW
import Derived.Lib.SmallJoins
import Derived.Deep.Slices
namespace Go.Proofs.Ytlahjieodcoecaa
open Go.ChangeShapes Go.WideShapes Go.RowKit Go.Deep
set_option linter.unusedVariables false

section
variable {H : Type} {enc : TypeId × Value → H} {w : World} {base b0 : Nat} {spare : Nat → Bool} {held : Bool}
theorem cell_i64 {n : Nat} {v : Value} {x : DataW H × List MemPlace} (h : DataW.trod enc Try.prog w base spare held n 3 [v] = some x) : ∃ b, v = .int .i64 b ∧ (Lit.int .i64 b).wf = true := by
  cases n with
  | zero => simp [DataW.trod] at h
  | succ n =>
    simp only [DataW.trod, Try.underlying3] at h
    cases v with
    | int k b =>
      by_cases hw : k = .i64 ∧ (Lit.int .i64 b).wf = true
      · exact ⟨b, by rw [hw.1], hw.2⟩
      · simp [hw] at h
    | _ => simp at h
theorem cell_bool {n : Nat} {v : Value} {x : DataW H × List MemPlace} (h : DataW.trod enc Try.prog w base spare held n 4 [v] = some x) : ∃ b, v = .bool b := by
  cases n with
  | zero => simp [DataW.trod] at h
  | succ n =>
    simp only [DataW.trod, Try.underlying4] at h
    cases v with
    | bool b => exact ⟨b, rfl⟩
    | _ => simp at h

theorem open_case {v : Value} {d : DataW H} {ps : List MemPlace} (hval : Value.okWide Try.prog w .any b0 24 v) (h : DataW.Trod enc Try.prog w base spare held 24 v d ps) :
    ∃ (i n b : Int) (s : Bool), v = .agg #[.int .i64 i, .int .i64 n, .int .i64 b, .bool s] ∧ ((Lit.int .i64 i).wf = true ∧ (Lit.int .i64 n).wf = true ∧ (Lit.int .i64 b).wf = true) := by
  obtain ⟨cs, rfl, hsz⟩ := okWide_struct Try.underlying24 hval
  obtain ⟨fuel, hf⟩ := h
  rw [show Try.prog.cellsOf 24 = 4 from by kernel_rfl] at hsz
  obtain ⟨y0, y1, y2, y3, n, _, hl, h0, h1, h2, h3⟩ := Joins.trod_struct4 Try.underlying24 hf
  obtain ⟨a, b, c, d', hcs⟩ : ∃ a b c d', cs = #[a, b, c, d'] := by
    match cs, hsz with
    | ⟨[a, b, c, d']⟩, _ => exact ⟨a, b, c, d', rfl⟩
  subst hcs
  have e3 : Try.prog.cellsOf 3 = 1 := by kernel_rfl
  have e4 : Try.prog.cellsOf 4 = 1 := by kernel_rfl
  simp only [e3, e4, Value.cells] at h0 h1 h2 h3
  obtain ⟨i, rfl, wi⟩ := cell_i64 h0
  obtain ⟨m, rfl, wm⟩ := cell_i64 h1
  obtain ⟨q, rfl, wq⟩ := cell_i64 h2
  obtain ⟨s, rfl⟩ := cell_bool h3
  exact ⟨i, m, q, s, rfl, wi, wm, wq⟩
end

theorem law_engines' (W : World) (i n b : Int) (s : Bool) (h : (Lit.int .i64 i).wf = true ∧ (Lit.int .i64 n).wf = true ∧ (Lit.int .i64 b).wf = true) :
    Calls Try.prog 6 #[.agg #[.int .i64 i, .int .i64 n, .int .i64 b, .bool s]] W fun e w' => e = .returned (.bool true) ∧ Below W.heap.size W w' := law_engines W i n b s h.1 h.2.1 h.2.2
end Go.Proofs.Ytlahjieodcoecaa
