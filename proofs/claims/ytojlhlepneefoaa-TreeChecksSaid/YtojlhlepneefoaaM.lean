/- Package tree: letter, a row of nodes laid in memory. -/
import Derived.Test.YtojlhlepneefoaaL
import Derived.Test.YtojlhlepneefoaaK
namespace Go.Proofs.Ytojlhlepneefoaa
open Go.RowKit PAll Go.Proofs.YtojlhlepneefoaaW.PrintWords Go.Proofs.YtojlhlepneefoaaW.PrintLast Go.Proofs.YtojlhlepneefoaaW.PrintMore
open Go.Shelf
set_option linter.unusedVariables false
set_option linter.unusedSimpArgs false

def letN (c : Int) : S25 := ⟨3, [⟨c, c⟩], 0, ⟨#[]⟩, 0, 0, false, []⟩
theorem cells_len (v : NV) : v.cells.length = 8 := rfl
theorem flat8 : ∀ (vs : List NV) (j : Nat) (hj : j < vs.length) (i : Nat) (u : Value), vs[j].cells[i]? = some u → (vs.flatMap NV.cells)[j * 8 + i]? = some u
  | [], j, hj, _, _, _ => by simp at hj
  | v :: vs, 0, hj, i, u, h => by
    have hi : i < v.cells.length := (List.getElem?_eq_some_iff.1 h).1
    rw [List.flatMap_cons, Nat.zero_mul, Nat.zero_add, List.getElem?_append_left hi]
    exact h
  | v :: vs, j + 1, hj, i, u, h => by
    rw [List.flatMap_cons, List.getElem?_append_right (by rw [cells_len]; omega), cells_len, show (j + 1) * 8 + i - 8 = j * 8 + i by omega]
    exact flat8 vs j (by simpa using hj) i u h
/-- A row of nodes that lies in a block of its own. -/
theorem rowMake {w : World} {b : Nat} {vs : List NV} (hb : w.heap[b]? = some (.cells (vs.flatMap NV.cells).toArray 25 (0, 0))) (hok : ∀ v ∈ vs, v.ok w) (hl : vs.length ≤ 9223372036854775807) :
    Kd.C k25 w (some ⟨b, 0, none⟩) vs.length (vs.map (·.n)) := by
  refine ⟨by simp, hl, fun hn => ⟨_, rfl, fun j x hj => ?_⟩⟩
  rw [List.getElem?_map] at hj
  cases hj' : vs[j]? with
  | none => rw [hj'] at hj; cases hj
  | some v =>
    rw [hj'] at hj
    cases hj
    have hlt : j < vs.length := (List.getElem?_eq_some_iff.1 hj').1
    have ev : vs[j] = v := (List.getElem?_eq_some_iff.1 hj').2
    refine ⟨v.cells, rfl, (hok v (by rw [← ev]; exact List.getElem_mem hlt)).k25, fun i u hu => ?_⟩
    rw [addNone, cellB hb]
    have := flat8 vs j hlt i u (by rw [ev]; exact hu)
    simp only [Nat.zero_add]
    rw [List.getElem?_toArray]
    exact this
theorem letter_calls (c : Int) (w : World) : Calls Try.prog 37 #[.int .i64 c] w fun e w' => ∃ v : NV, e = .returned v.val ∧ v.n = letN c ∧ v.ok w' ∧ Kp [] w w' := by
  refine (burinlaw06_letter.calls c 3 [⟨c, c⟩] 0 ⟨#[]⟩ 0 0 false [] w rfl).mono ?_
  rintro e w' ⟨v1, v7, rfl, h1, h7, hb⟩
  obtain ⟨A1, c1, rfl⟩ := Kd.R_slice h1
  obtain ⟨A7, c7, rfl⟩ := Kd.R_slice h7
  have g1 := Kd.R_reads' h1
  have g7 := Kd.R_reads' h7
  exact ⟨⟨letN c, A1, c1, A7, c7⟩, rfl, rfl, ⟨g1.2.1, g1.2.2, g7.2.1, g7.2.2⟩, Kp.ofBelow hb⟩
end Go.Proofs.Ytojlhlepneefoaa
