/- Package mem, the laws' arguments: great; a slice of acts, and one act, opened. -/
import Derived.Test.YtndpmjgalmnhdaaC
import Derived.Test.YtndpmjgalmnhdaaPMemPlaysx4
import Derived.Lib.SmallJoins
namespace Go.Proofs.Ytndpmjgalmnhdaa
open Go.RowKit PMemPlays Go.Proofs.YtndpmjgalmnhdaaW.PrintWords Go.Proofs.YtndpmjgalmnhdaaW.PrintLast Go.Proofs.YtndpmjgalmnhdaaW.PrintMore
open Go.Deep Go.ChangeShapes Go.WideShapes
set_option linter.unusedVariables false
set_option linter.unusedSimpArgs false

def greatB (l : List S39) : Bool := l.any (fun r => decide (200 < r.f1.size)) || decide (10 < l.length)
theorem great_l (l : List S39) (hl : l.length ≤ 9223372036854775807) : ∀ (j i k : Nat), i + j = l.length → j + 1 ≤ k → burinlaw27_great.l0 k l (i : Int) = some ((l.drop i).any (fun r => decide (200 < r.f1.size)) || decide (10 < l.length)) := by
  intro j
  induction j with
  | zero =>
    intro i k hi hk
    obtain ⟨k, rfl⟩ : ∃ m, k = m + 1 := ⟨k - 1, by omega⟩
    unfold burinlaw27_great.l0
    rw [if_neg (by omega), List.drop_eq_nil_of_le (by omega)]
    simp
    omega
  | succ j ih =>
    intro i k hi hk
    obtain ⟨k, rfl⟩ : ∃ m, k = m + 1 := ⟨k - 1, by omega⟩
    have h : i < l.length := by omega
    have hr : rd_T39 l i = l[i] := by unfold rd_T39; simp [h]
    unfold burinlaw27_great.l0
    rw [if_pos (by omega), if_pos (by omega), hr, List.drop_eq_getElem_cons h, List.any_cons]
    by_cases hs : 200 < l[i].f1.size
    · rw [if_pos (by omega)]
      simp [hs]
    · rw [if_neg (by omega), show wrap64 ((i : Int) + 1) = ((i + 1 : Nat) : Int) from by unfold wrap64; omega, ih (i + 1) k (by omega) (by omega)]
      simp [hs]
theorem great_any (w : World) (A : Option Addr) (cap : Nat) (l : List S39) (h : IsRegs w A cap l) : Calls Try.prog 7 #[.slice A l.length cap] w fun e w' => e = .returned (.bool (greatB l)) ∧ Kp [] w w' := by
  refine (burinlaw27_great.calls (l.length + 1) A cap l (greatB l) w h.1 h.2.1 (great_l l (by have := h.2.1; have := h.2.2.1; omega) l.length 0 (l.length + 1) (by omega) (by omega))).mono ?_
  rintro e w' ⟨rfl, ⟨q, rfl⟩⟩
  exact ⟨rfl, rfl, rfl, rfl, Nat.le_refl _, fun _ _ _ => rfl⟩
theorem great_no {l : List S39} (h : greatB l = false) : l.length ≤ 10 ∧ ∀ r ∈ l, r.f1.size ≤ 200 := by
  unfold greatB at h
  simp only [Bool.or_eq_false_iff, List.any_eq_false, decide_eq_true_eq, decide_eq_false_iff_not] at h
  exact ⟨by omega, fun r hr => by have := h.1 r hr; omega⟩

structure ActV where
  k : Int
  n : Int
  a : Int
  x : Int
def ActV.wf (q : ActV) : Prop := (0 ≤ q.a ∧ q.a < 18446744073709551616) ∧ (0 ≤ q.x ∧ q.x < 18446744073709551616)
def IsActs (w : World) (A : Option Addr) (len : Nat) (f : Nat → ActV) : Prop :=
  len ≤ 9223372036854775807 ∧ (0 < len → ∃ b off, A = some ⟨b, off, none⟩ ∧ b < w.heap.size ∧
  ∀ j, j < len → w.cell? ⟨b, off + j * 4, none⟩ = some (.int .i64 (f j).k) ∧ w.cell? ⟨b, off + j * 4 + 1, none⟩ = some (.int .i64 (f j).n) ∧ w.cell? ⟨b, off + j * 4 + 2, none⟩ = some (.int .u64 (f j).a) ∧ w.cell? ⟨b, off + j * 4 + 3, none⟩ = some (.int .u64 (f j).x) ∧ (f j).wf)
theorem u64_wf' {x : Int} (h : (Lit.int .u64 x).wf = true) : 0 ≤ x ∧ x < 18446744073709551616 := by
  simp [Lit.wf] at h
  have a : IntKind.u64.min = 0 := rfl
  have b : IntKind.u64.max = 18446744073709551615 := rfl
  omega
section
variable {H : Type} {enc : TypeId × Value → H} {w : World} {base : Nat} {spare : Nat → Bool} {held : Bool} {r : Reach} {b0 : Nat} {v : Value} {d : DataW H} {p : List MemPlace}
theorem c25 : Try.prog.cellsOf 25 = 4 := by kernel_rfl
theorem c3 : Try.prog.cellsOf 3 = 1 := by kernel_rfl
theorem c23 : Try.prog.cellsOf 23 = 1 := by kernel_rfl
instance : Inhabited ActV := ⟨⟨0, 0, 0, 0⟩⟩
theorem trod_act {cs : List Value} {fuel : Nat} {x : DataW H × List MemPlace} (h : DataW.trod enc Try.prog w base spare held fuel 25 cs = some x) : ∃ q : ActV, cs = [.int .i64 q.k, .int .i64 q.n, .int .u64 q.a, .int .u64 q.x] ∧ q.wf := by
  obtain ⟨y0, y1, y2, y3, n, _, hl, g0, g1, g2, g3⟩ := Joins.trod_struct4 Try.underlying25 h
  rw [c25] at hl
  match cs, hl with
  | [v0, v1, v2, v3], _ =>
    simp [c3, c23] at g0 g1 g2 g3
    obtain ⟨n0, q0, _, w0⟩ := DataW.trod_int Try.underlying3 g0
    obtain ⟨n1, q1, _, w1⟩ := DataW.trod_int Try.underlying3 g1
    obtain ⟨n2, q2, _, w2⟩ := DataW.trod_int Try.underlying23 g2
    obtain ⟨n3, q3, _, w3⟩ := DataW.trod_int Try.underlying23 g3
    simp at q0 q1 q2 q3
    subst q0 q1 q2 q3
    exact ⟨⟨n0, n1, n2, n3⟩, rfl, u64_wf' w2, u64_wf' w3⟩
theorem openActs (hv : Value.okWide Try.prog w r b0 43 v) (h : DataW.Trod enc Try.prog w base spare held 43 v d p) :
    ∃ (A : Option Addr) (len cap : Nat) (f : Nat → ActV), v = .slice A len cap ∧ IsActs w A len f := by
  obtain ⟨a, len, cap, rfl⟩ := okWide_slice Try.underlying43 hv
  obtain ⟨fuel, hf⟩ := h
  refine ⟨a, len, cap, ?_⟩
  rcases open_slice Try.underlying43 hf with ⟨hcs, _⟩ | ⟨x, ln, c, m, n, D, Pl, hcs, _, hl, hm, hmm, _, hx⟩
  · simp [Value.cells] at hcs
    obtain ⟨rfl, rfl, rfl⟩ := hcs
    exact ⟨fun _ => default, rfl, by omega, fun h => by omega⟩
  · simp [Value.cells] at hcs
    obtain ⟨rfl, rfl, rfl⟩ := hcs
    have hlm : len ≤ m := by rw [hmm]; split <;> omega
    have hml : maxLen = 9223372036854775807 := rfl
    rw [c25] at hx
    obtain ⟨b, off, spot⟩ := x
    by_cases h0 : 0 < len
    · have hspot : spot = none := by
        obtain ⟨cs', h1, _⟩ := hx 0 (by omega)
        obtain ⟨_, hlen, hcell⟩ := World.cells?_some h1
        obtain ⟨u, hu⟩ : ∃ u, cs'[0]? = some u := ⟨cs'[0]'(by omega), List.getElem?_eq_getElem (by omega)⟩
        simpa [Addr.add] using World.cell?_spot ((hcell 0 (by omega)).trans hu)
      subst hspot
      have each : ∀ i, i < len → ∃ q : ActV, w.cell? ⟨b, off + i * 4, none⟩ = some (.int .i64 q.k) ∧ w.cell? ⟨b, off + i * 4 + 1, none⟩ = some (.int .i64 q.n) ∧ w.cell? ⟨b, off + i * 4 + 2, none⟩ = some (.int .u64 q.a) ∧ w.cell? ⟨b, off + i * 4 + 3, none⟩ = some (.int .u64 q.x) ∧ q.wf := by
        intro i hi
        obtain ⟨cs', h1, h2⟩ := hx i (by omega)
        obtain ⟨_, hlen, hcell⟩ := World.cells?_some h1
        obtain ⟨q, rfl, hq⟩ := trod_act h2
        have e0 := hcell 0 (by omega)
        have e1 := hcell 1 (by omega)
        have e2 := hcell 2 (by omega)
        have e3 := hcell 3 (by omega)
        rw [Go.Deep.add_add, WideShapes.add_plain, ← Nat.add_assoc] at e0 e1 e2 e3
        exact ⟨q, e0, e1, e2, e3, hq⟩
      obtain ⟨q, hq⟩ := choose_lt each
      exact ⟨q, rfl, by omega, fun h0 => ⟨b, off, rfl, World.block_lt_of_cell? w _ (hq 0 h0).1, fun j hj => hq j hj⟩⟩
    · exact ⟨fun _ => default, rfl, by omega, fun h => absurd h h0⟩
theorem openAct (hv : Value.okWide Try.prog w r b0 25 v) (h : DataW.Trod enc Try.prog w base spare held 25 v d p) :
    ∃ (q : ActV), v = .agg #[.int .i64 q.k, .int .i64 q.n, .int .u64 q.a, .int .u64 q.x] ∧ q.wf := by
  obtain ⟨cs, rfl, hsz⟩ := okWide_struct Try.underlying25 hv
  obtain ⟨fuel, hf⟩ := h
  obtain ⟨q, hq, hw⟩ := trod_act hf
  refine ⟨q, ?_, hw⟩
  congr 1
  exact Array.toList_inj.1 hq
end
end Go.Proofs.Ytndpmjgalmnhdaa
