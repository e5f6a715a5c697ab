/- Package tree: a node that comes in as an argument, opened. -/
import Derived.Test.YtojlhlepneefoaaA
import Derived.Deep.Slices
import Derived.Deep.Strs
import Derived.Deep.AppendLies
namespace Go.Proofs.Ytojlhlepneefoaa
open Go.RowKit PAll Go.Proofs.YtojlhlepneefoaaW.PrintWords Go.Proofs.YtojlhlepneefoaaW.PrintLast Go.Proofs.YtojlhlepneefoaaW.PrintMore
open Go.Shelf Go.Deep Go.ChangeShapes Go.WideShapes
set_option linter.unusedVariables false
set_option linter.unusedSimpArgs false

set_option maxRecDepth 100000
section
variable {H : Type} {enc : TypeId × Value → H} {w : World} {base : Nat} {spare : Nat → Bool} {held : Bool} {r : Reach} {b0 : Nat} {v : Value} {d : DataW H} {p : List MemPlace}
theorem openRow {α : Type} [Inhabited α] (kd : Kd α) {t e : TypeId} (ht : Try.prog.underlying t = some (.slice e)) (sz : Try.prog.cellsOf e = kd.sz) {fuel : Nat}
    (el : ∀ m, m < fuel → ∀ (cs : List Value) (y : DataW H × List MemPlace), DataW.trod enc Try.prog w base spare held m e cs = some y → ∃ x : α, kd.K w x cs)
    {cs : List Value} {y : DataW H × List MemPlace} (h : DataW.trod enc Try.prog w base spare held fuel t cs = some y) :
    ∃ (A : Option Addr) (cap : Nat) (l : List α), cs = [.slice A l.length cap] ∧ kd.C w A l.length l ∧ l.length ≤ cap := by
  rcases DataW.trod_slice ht h with ⟨rfl, _⟩ | ⟨a, len, cap, elems, rest, n, hn, rfl, _, _, hl, hm, hlen, hel, _, _⟩
  · exact ⟨none, 0, [], rfl, ⟨rfl, by simp, fun h => absurd h (by simp)⟩, Nat.le_refl _⟩
  · rw [sz] at hel
    have hml : maxLen = 9223372036854775807 := rfl
    have each : ∀ i, i < len → ∃ x : α, ∃ cs : List Value, kd.K w x cs ∧ ∀ j u, cs[j]? = some u → w.cell? (a.add (i * kd.sz + j)) = some u := by
      intro i hi
      have h1 := hel i hi
      rw [List.getElem?_eq_getElem (by omega)] at h1
      cases hc : w.cells? base (a.add (i * kd.sz)) kd.sz with
      | none => rw [hc] at h1; cases h1
      | some cs' =>
        rw [hc] at h1
        obtain ⟨x, hx⟩ := el n (by omega) cs' _ h1
        obtain ⟨_, hlen', hcell⟩ := World.cells?_some hc
        refine ⟨x, cs', hx, fun j u hu => ?_⟩
        have hj : j < kd.sz := by have := (List.getElem?_eq_some_iff.1 hu).1; omega
        have := hcell j (by omega)
        rw [Go.Deep.add_add] at this
        exact this.trans hu
    obtain ⟨q, hq⟩ := choose_lt each
    refine ⟨some a, cap, (List.range len).map q, by simp, ⟨rfl, by simp; omega, fun h => ⟨a, rfl, fun j x hx => ?_⟩⟩, by simp; omega⟩
    rw [List.getElem?_map] at hx
    by_cases hj : j < len
    · rw [List.getElem?_range hj] at hx
      simp at hx
      subst hx
      obtain ⟨cs, hK, hc⟩ := hq j hj
      exact ⟨cs, kd.K_len hK, hK, hc⟩
    · rw [List.getElem?_eq_none (by simpa using hj)] at hx
      simp at hx
theorem open103 {n : Nat} {cs : List Value} {y : DataW H × List MemPlace} (h : DataW.trod enc Try.prog w base spare held n 103 cs = some y) : ∃ q : S103, k103.K w q cs := by
  obtain ⟨xs, m, _, _, hl, hlen, hf⟩ := DataW.trod_struct Try.underlying103 h
  have c3 : Try.prog.cellsOf 3 = 1 := by kernel_rfl
  have c103 : Try.prog.cellsOf 103 = 2 := by kernel_rfl
  rw [c103] at hl
  match cs, hl with
  | [v0, v1], _ =>
    have g0 := hf 0 _ rfl
    have g1 := hf 1 _ rfl
    have hs : xs.length = 2 := hlen
    obtain ⟨x0, x1, rfl⟩ : ∃ x0 x1, xs = [x0, x1] := by
      match xs, hs with
      | [x0, x1], _ => exact ⟨x0, x1, rfl⟩
    simp [c3] at g0 g1
    obtain ⟨n0, q0, _, _⟩ := DataW.trod_int Try.underlying3 g0
    obtain ⟨n1, q1, _, _⟩ := DataW.trod_int Try.underlying3 g1
    simp at q0 q1
    subst q0 q1
    exact ⟨⟨n0, n1⟩, k103_mk w _⟩
theorem openNode : ∀ (n : Nat) (cs : List Value) (y : DataW H × List MemPlace), DataW.trod enc Try.prog w base spare held n 25 cs = some y → ∃ v : NV, cs = v.cells ∧ v.ok w := by
  intro n
  induction n using Nat.strongRecOn with
  | _ n ih =>
    intro cs y h
    obtain ⟨xs, m, hm, _, hl, hlen, hf⟩ := DataW.trod_struct Try.underlying25 h
    have c3 : Try.prog.cellsOf 3 = 1 := by kernel_rfl
    have c4 : Try.prog.cellsOf 4 = 1 := by kernel_rfl
    have c9 : Try.prog.cellsOf 9 = 1 := by kernel_rfl
    have c22 : Try.prog.cellsOf 22 = 1 := by kernel_rfl
    have c23 : Try.prog.cellsOf 23 = 1 := by kernel_rfl
    have c25 : Try.prog.cellsOf 25 = 8 := by kernel_rfl
    have c103 : Try.prog.cellsOf 103 = 2 := by kernel_rfl
    rw [c25] at hl
    match cs, hl with
    | [v0, v1, v2, v3, v4, v5, v6, v7], _ =>
      have g0 := hf 0 _ rfl
      have g1 := hf 1 _ rfl
      have g2 := hf 2 _ rfl
      have g3 := hf 3 _ rfl
      have g4 := hf 4 _ rfl
      have g5 := hf 5 _ rfl
      have g6 := hf 6 _ rfl
      have g7 := hf 7 _ rfl
      have hs : xs.length = 8 := hlen
      obtain ⟨x0, x1, x2, x3, x4, x5, x6, x7, rfl⟩ : ∃ x0 x1 x2 x3 x4 x5 x6 x7, xs = [x0, x1, x2, x3, x4, x5, x6, x7] := by
        match xs, hs with
        | [x0, x1, x2, x3, x4, x5, x6, x7], _ => exact ⟨x0, x1, x2, x3, x4, x5, x6, x7, rfl⟩
      simp [c3, c4, c9, c22, c23] at g0 g1 g2 g3 g4 g5 g6 g7
      obtain ⟨n0, q0, _, _⟩ := DataW.trod_int Try.underlying3 g0
      obtain ⟨n2, q2, _, _⟩ := DataW.trod_int Try.underlying3 g2
      obtain ⟨n3, q3, _, _⟩ := DataW.trod_string Try.underlying9 g3
      obtain ⟨n4, q4, _, _⟩ := DataW.trod_int Try.underlying3 g4
      obtain ⟨n5, q5, _, _⟩ := DataW.trod_int Try.underlying3 g5
      obtain ⟨n6, q6, _⟩ := DataW.trod_bool Try.underlying4 g6
      have : Inhabited S103 := ⟨z103⟩
      have : Inhabited S25 := ⟨z25⟩
      obtain ⟨A1, c1, l1, q1, C1, h1⟩ := openRow k103 Try.underlying22 c103 (fun m _ cs y h => open103 h) g1
      obtain ⟨A7, c7, l7, q7, C7, h7⟩ := openRow k25 Try.underlying23 c25 (fun m' hm' cs y h => by
        obtain ⟨v, rfl, hv⟩ := ih m' (by omega) cs y h
        exact ⟨v.n, hv.k25⟩) g7
      simp at q0 q1 q2 q3 q4 q5 q6 q7
      subst q0 q1 q2 q3 q4 q5 q6 q7
      exact ⟨⟨⟨n0, l1, n2, n3, n4, n5, n6, l7⟩, A1, c1, A7, c7⟩, rfl, ⟨h1, C1, h7, C7⟩⟩
theorem openNodeArg (hv : Value.okWide Try.prog w r b0 25 v) (h : DataW.Trod enc Try.prog w base spare held 25 v d p) : ∃ x : NV, v = x.val ∧ x.ok w := by
  obtain ⟨cs, rfl, hsz⟩ := okWide_struct Try.underlying25 hv
  obtain ⟨fuel, hf⟩ := h
  obtain ⟨x, hx, hok⟩ := openNode fuel _ _ hf
  refine ⟨x, ?_, hok⟩
  unfold NV.val
  rw [← hx]
  rfl
end
end Go.Proofs.Ytojlhlepneefoaa
