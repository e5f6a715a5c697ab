/- The programs that come in as an argument, opened. -/
import Derived.Test.YtkjkkebaafmheaaDoorB
import Derived.Test.YtkjkkebaafmheaaDoorPAllx0
import Derived.Deep.Slices
import Derived.Deep.Strs
import Derived.Deep.AppendLies
namespace Go.Proofs.YtkjkkebaafmheaaDoor
open Go.RowKit PAll Go.Proofs.YtkjkkebaafmheaaDoorW.PrintWords Go.Proofs.YtkjkkebaafmheaaDoorW.PrintLast Go.Proofs.YtkjkkebaafmheaaDoorW.PrintMore
open Go.Deep Go.ChangeShapes Go.WideShapes
set_option linter.unusedVariables false
def IsInsts (w : World) (A : Option Addr) (cap : Nat) (l : List S35) : Prop := Kd.C k35 w A l.length l ∧ l.length ≤ cap ∧ cap ≤ 9223372036854775807
section
variable {H : Type} {enc : TypeId × Value → H} {w : World} {base : Nat} {spare : Nat → Bool} {held : Bool} {r : Reach} {b0 : Nat} {v : Value} {d : DataW H} {p : List MemPlace}
set_option maxRecDepth 100000 in
theorem open35 {n : Nat} {cs : List Value} {y : DataW H × List MemPlace} (h : DataW.trod enc Tryd.prog w base spare held n 35 cs = some y) : ∃ q : S35, cs = [.int .i64 q.f0, .int .i64 q.f1, .int .i64 q.f2, .int .i64 q.f3, .int .i64 q.f4] := by
  obtain ⟨xs, m, _, _, hl, hlen, hf⟩ := DataW.trod_struct Tryd.underlying35 h
  have c3 : Tryd.prog.cellsOf 3 = 1 := by kernel_rfl
  have c35 : Tryd.prog.cellsOf 35 = 5 := by kernel_rfl
  rw [c35] at hl
  match cs, hl with
  | [v0, v1, v2, v3, v4], _ =>
    have g0 := hf 0 _ rfl
    have g1 := hf 1 _ rfl
    have g2 := hf 2 _ rfl
    have g3 := hf 3 _ rfl
    have g4 := hf 4 _ rfl
    have hs : xs.length = 5 := hlen
    obtain ⟨x0, x1, x2, x3, x4, rfl⟩ : ∃ x0 x1 x2 x3 x4, xs = [x0, x1, x2, x3, x4] := by
      match xs, hs with
      | [x0, x1, x2, x3, x4], _ => exact ⟨x0, x1, x2, x3, x4, rfl⟩
    simp [c3] at g0 g1 g2 g3 g4
    obtain ⟨n0, q0, _, _⟩ := DataW.trod_int Tryd.underlying3 g0
    obtain ⟨n1, q1, _, _⟩ := DataW.trod_int Tryd.underlying3 g1
    obtain ⟨n2, q2, _, _⟩ := DataW.trod_int Tryd.underlying3 g2
    obtain ⟨n3, q3, _, _⟩ := DataW.trod_int Tryd.underlying3 g3
    obtain ⟨n4, q4, _, _⟩ := DataW.trod_int Tryd.underlying3 g4
    simp at q0 q1 q2 q3 q4
    subst q0 q1 q2 q3 q4
    exact ⟨⟨n0, n1, n2, n3, n4⟩, rfl⟩
set_option maxRecDepth 100000 in
theorem openInsts {n : Nat} {v : Value} {y : DataW H × List MemPlace} (hf : DataW.trod enc Tryd.prog w base spare held n 22 [v] = some y) : ∃ (A : Option Addr) (cap : Nat) (l : List S35), v = .slice A l.length cap ∧ IsInsts w A cap l := by
  rcases open_slice Tryd.underlying22 hf with ⟨hcs, _⟩ | ⟨x, len, cap, m, n, D, Pl, hcs, _, hl, hm, hmm, _, hx⟩
  · simp at hcs
    subst hcs
    exact ⟨none, 0, [], rfl, ⟨rfl, by simp, fun h => absurd h (by simp)⟩, Nat.le_refl _, by omega⟩
  · simp at hcs
    subst hcs
    have hlm : len ≤ m := by rw [hmm]; split <;> omega
    have ce : Tryd.prog.cellsOf 35 = 5 := by kernel_rfl
    rw [ce] at hx
    have hml : maxLen = 9223372036854775807 := rfl
    have each : ∀ i, i < len → ∃ q : S35, ∀ j u, [Value.int .i64 q.f0, .int .i64 q.f1, .int .i64 q.f2, .int .i64 q.f3, .int .i64 q.f4][j]? = some u → w.cell? (x.add (i * 5 + j)) = some u := by
      intro i hi
      obtain ⟨cs', h1, h2⟩ := hx i (by omega)
      obtain ⟨_, hlen, hcell⟩ := World.cells?_some h1
      obtain ⟨q, rfl⟩ := open35 h2
      refine ⟨q, fun j u hu => ?_⟩
      have hj : j < 5 := (List.getElem?_eq_some_iff.1 hu).1
      have := hcell j (by omega)
      rw [Go.Deep.add_add] at this
      exact this.trans hu
    have : Inhabited S35 := ⟨z35⟩
    obtain ⟨q, hq⟩ := choose_lt each
    have hget : ∀ j p, ((List.range len).map q)[j]? = some p → j < len ∧ p = q j := by
      intro j p hp
      rw [List.getElem?_map] at hp
      by_cases hj : j < len
      · rw [List.getElem?_range hj] at hp
        simp at hp
        exact ⟨hj, hp.symm⟩
      · rw [List.getElem?_eq_none (by simpa using hj)] at hp
        simp at hp
    refine ⟨some x, cap, (List.range len).map q, by simp, ⟨rfl, by simp; omega, fun h => ⟨x, rfl, fun j p hp => ?_⟩⟩, by simp; omega, by omega⟩
    obtain ⟨hjl, rfl⟩ := hget j p hp
    exact ⟨_, rfl, k35_mk w (q j), hq j hjl⟩
set_option maxRecDepth 100000 in
theorem openInst (hv : Value.okWide Tryd.prog w r b0 35 v) (h : DataW.Trod enc Tryd.prog w base spare held 35 v d p) : ∃ x : S35, v = .agg #[.int .i64 x.f0, .int .i64 x.f1, .int .i64 x.f2, .int .i64 x.f3, .int .i64 x.f4] := by
  obtain ⟨cs, rfl, hsz⟩ := okWide_struct Tryd.underlying35 hv
  obtain ⟨fuel, hf⟩ := h
  obtain ⟨q, hq⟩ := open35 hf
  refine ⟨q, ?_⟩
  have : cs.toList = [.int .i64 q.f0, .int .i64 q.f1, .int .i64 q.f2, .int .i64 q.f3, .int .i64 q.f4] := by simpa [Value.cells] using hq
  congr 1
  exact Array.toList_inj.1 this
set_option maxRecDepth 100000 in
theorem openProg (hv : Value.okWide Tryd.prog w r b0 24 v) (h : DataW.Trod enc Tryd.prog w base spare held 24 v d p) :
    ∃ (A : Option Addr) (cap : Nat) (l : List S35) (s q : Int), v = .agg #[.slice A l.length cap, .int .i64 s, .int .i64 q] ∧ IsInsts w A cap l := by
  obtain ⟨cs, rfl, hsz⟩ := okWide_struct Tryd.underlying24 hv
  obtain ⟨fuel, hf⟩ := h
  rw [show Tryd.prog.cellsOf 24 = 3 from by kernel_rfl] at hsz
  obtain ⟨y0, y1, y2, k, _, _, g0, g1, g2⟩ := trod_struct3 Tryd.underlying24 hf
  obtain ⟨a, b, c, hcs⟩ : ∃ a b c, cs = #[a, b, c] := by
    match cs, hsz with
    | ⟨[a, b, c]⟩, _ => exact ⟨a, b, c, rfl⟩
  subst hcs
  have c3 : Tryd.prog.cellsOf 3 = 1 := by kernel_rfl
  have c22 : Tryd.prog.cellsOf 22 = 1 := by kernel_rfl
  simp [Value.cells, c3, c22] at g0 g1 g2
  obtain ⟨n1, q1, _, _⟩ := DataW.trod_int Tryd.underlying3 g1
  obtain ⟨n2, q2, _, _⟩ := DataW.trod_int Tryd.underlying3 g2
  simp at q1 q2
  subst q1 q2
  obtain ⟨A, cap, l, rfl, hI⟩ := openInsts g0
  exact ⟨A, cap, l, n1, n2, rfl, hI⟩
end
end Go.Proofs.YtkjkkebaafmheaaDoor
