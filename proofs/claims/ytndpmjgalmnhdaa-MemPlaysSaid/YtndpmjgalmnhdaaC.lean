/- Package mem: the regions that come in as an argument, opened; a memory as it lies (IsMem). No program in sight but its types. -/
import Derived.Test.YtndpmjgalmnhdaaB
import Derived.Test.YtndpmjgalmnhdaaPMemPlaysx0
import Derived.Deep.Slices
import Derived.Deep.Strs
import Derived.Deep.AppendLies
namespace Go.Proofs.Ytndpmjgalmnhdaa
open Go.RowKit PMemPlays Go.Proofs.YtndpmjgalmnhdaaW.PrintWords Go.Proofs.YtndpmjgalmnhdaaW.PrintLast Go.Proofs.YtndpmjgalmnhdaaW.PrintMore
open Go.Deep Go.ChangeShapes Go.WideShapes
set_option linter.unusedVariables false

instance : Inhabited S39 := ⟨z39⟩
def IsRegs (w : World) (A : Option Addr) (cap : Nat) (l : List S39) : Prop :=
  Kd.C k39 w A l.length l ∧ l.length ≤ cap ∧ cap ≤ 9223372036854775807 ∧ ∀ r ∈ l, (Lit.int .u64 r.f0).wf = true ∧ (Lit.int .i64 r.f2).wf = true

section
variable {H : Type} {enc : TypeId × Value → H} {w : World} {base : Nat} {spare : Nat → Bool} {held : Bool} {r : Reach} {b0 : Nat} {v : Value} {d : DataW H} {p : List MemPlace}
theorem openRegs (hv : Value.okWide Try.prog w r b0 22 v) (h : DataW.Trod enc Try.prog w base spare held 22 v d p) :
    ∃ (A : Option Addr) (cap : Nat) (l : List S39), v = .slice A l.length cap ∧ IsRegs w A cap l := by
  obtain ⟨a, len, cap, rfl⟩ := okWide_slice Try.underlying22 hv
  obtain ⟨fuel, hf⟩ := h
  rcases open_slice Try.underlying22 hf with ⟨hcs, _⟩ | ⟨x, ln, c, m, n, D, Pl, hcs, _, hl, hm, hmm, _, hx⟩
  · simp [Value.cells] at hcs
    obtain ⟨rfl, rfl, rfl⟩ := hcs
    exact ⟨none, 0, [], rfl, ⟨rfl, by simp, fun h => absurd h (by simp)⟩, Nat.le_refl _, by omega, by simp⟩
  · simp [Value.cells] at hcs
    obtain ⟨rfl, rfl, rfl⟩ := hcs
    have hlm : len ≤ m := by rw [hmm]; split <;> omega
    have ce : Try.prog.cellsOf 39 = 3 := by kernel_rfl
    have c3 : Try.prog.cellsOf 3 = 1 := by kernel_rfl
    have c9 : Try.prog.cellsOf 9 = 1 := by kernel_rfl
    have c23 : Try.prog.cellsOf 23 = 1 := by kernel_rfl
    rw [ce] at hx
    have hml : maxLen = 9223372036854775807 := rfl
    have each : ∀ i, i < len → ∃ q : S39, (∀ j u, [Value.int .u64 q.f0, Value.string q.f1, Value.int .i64 q.f2][j]? = some u → w.cell? (x.add (i * 3 + j)) = some u) ∧ (Lit.int .u64 q.f0).wf = true ∧ (Lit.int .i64 q.f2).wf = true := by
      intro i hi
      obtain ⟨cs', h1, h2⟩ := hx i (by omega)
      obtain ⟨_, hlen, hcell⟩ := World.cells?_some h1
      obtain ⟨y0, y1, y2, k, _, hl2, g0, g1, g2⟩ := trod_struct3 Try.underlying39 h2
      match cs', hlen with
      | [v0, v1, v2], _ =>
        simp [c3, c9, c23] at g0 g1 g2
        obtain ⟨n0, q0, _, w0⟩ := DataW.trod_int Try.underlying23 g0
        obtain ⟨n1, q1, _, w1⟩ := DataW.trod_string Try.underlying9 g1
        obtain ⟨n2, q2, _, w2⟩ := DataW.trod_int Try.underlying3 g2
        simp at q0 q1 q2
        subst q0 q1 q2
        refine ⟨⟨n0, n1, n2⟩, fun j u hu => ?_, w0, w2⟩
        have hj : j < 3 := (List.getElem?_eq_some_iff.1 hu).1
        have := hcell j (by omega)
        rw [Go.Deep.add_add] at this
        exact this.trans hu
    obtain ⟨q, hq⟩ := choose_lt each
    have hget : ∀ j p, ((List.range len).map q)[j]? = some p → j < len ∧ p = q j := by
      intro j p hp
      rw [List.getElem?_map] at hp
      by_cases hj : j < len
      · rw [List.getElem?_range hj] at hp
        simp at hp
        exact ⟨hj, hp.symm⟩
      · rw [List.getElem?_eq_none (by simpa using hj)] at hp
        simp at hp
    refine ⟨some x, cap, (List.range len).map q, by simp, ⟨rfl, by simp; omega, fun h => ⟨x, rfl, fun j p hp => ?_⟩⟩, by simp; omega, by omega, fun r hr => ?_⟩
    · obtain ⟨hjl, rfl⟩ := hget j p hp
      exact ⟨_, rfl, k39_mk w (q j), (hq j hjl).1⟩
    · obtain ⟨j, hj⟩ := List.getElem?_of_mem hr
      obtain ⟨hjl, rfl⟩ := hget j r hj
      exact (hq j hjl).2
end
theorem IsRegs.kept {w w' : World} {A cap l} (h : IsRegs w A cap l) (k : Kp [] w w') : IsRegs w' A cap l :=
  ⟨Kd.C_below h.1 ⟨k.os, k.tape, k.output, k.size, fun i hi => k.block i hi (by simp)⟩, h.2⟩
theorem IsRegs.at_ {w : World} {A cap l} (h : IsRegs w A cap l) (i : Nat) (hi : i < l.length) : ∃ b off, A = some ⟨b, off, none⟩ ∧ b < w.heap.size ∧
    w.cell? ⟨b, off + i * 3, none⟩ = some (.int .u64 l[i].f0) ∧ w.cell? ⟨b, off + i * 3 + 1, none⟩ = some (.string l[i].f1) ∧ w.cell? ⟨b, off + i * 3 + 2, none⟩ = some (.int .i64 l[i].f2) := by
  obtain ⟨ad, e, c0, c1, c2⟩ := at_T39 h.1 i (by omega) (by omega)
  have hg : rd_T39 l i = l[i] := by unfold rd_T39; simp [hi]
  rw [hg, Int.toNat_natCast] at c0 c1 c2
  obtain ⟨b, off, sp⟩ := ad
  have hs : sp = none := by
    obtain ⟨ad0, e0, z0, _, _⟩ := at_T39 h.1 0 (by omega) (by omega)
    rw [e] at e0
    injection e0 with e0
    subst e0
    simpa [Addr.add] using World.cell?_spot z0
  subst hs
  have hadd : (⟨b, off, none⟩ : Addr).add (i * 3) = ⟨b, off + i * 3, none⟩ := by simp [Addr.add]
  rw [hadd] at c0 c1 c2
  exact ⟨b, off, e, World.block_lt_of_cell? w _ c0, c0, c1, c2⟩
end Go.Proofs.Ytndpmjgalmnhdaa
