/- A tree's node as it lies in memory; small lemmas. -/
import Derived.Test.YtojlhlepneefoaaB
import Derived.Test.YtojlhlepneefoaaPAllx0
import Derived.Test.YtojlhlepneefoaaShelfQ
import Derived.Deep.RegionHeld3
import Derived.Deep.RegionWith
import Derived.Deep.MidRow
namespace Go.Proofs.Ytojlhlepneefoaa
open Go.RowKit PAll Go.Proofs.YtojlhlepneefoaaW.PrintWords Go.Proofs.YtojlhlepneefoaaW.PrintLast Go.Proofs.YtojlhlepneefoaaW.PrintMore
open Go.Shelf
set_option linter.unusedVariables false
set_option linter.unusedSimpArgs false

instance : Inhabited S25 := ⟨z25⟩
theorem cellAlloc {w : World} {a : Addr} {v : Value} (o : Obj) (h : w.cell? a = some v) : (w.alloc o).cell? a = some v :=
  (World.cell?_of_block (Below.heap_alloc w o a.block (World.block_lt_of_cell? w _ h))).trans h
theorem kcell {w w' : World} {a : Addr} {v : Value} (k : Kp [] w w') (h : w.cell? a = some v) : w'.cell? a = some v :=
  (World.cell?_of_block (k.block a.block (World.block_lt_of_cell? w _ h) (by simp))).trans h
theorem new_at (w : World) (o : Obj) (B : Nat) (hB : B = w.heap.size) : (w.alloc o).heap[B]? = some o := by subst hB; exact heap_alloc_new w o
theorem kblk {w w' : World} {b : Nat} {o : Obj} (k : Kp [] w w') (h : w.heap[b]? = some o) : w'.heap[b]? = some o := (k.block b (ltB h) (by simp)).trans h
theorem Kp.ofBelow {w w' : World} (h : Below w.heap.size w w') : Kp [] w w' := ⟨h.os, h.tape, h.output, h.size, fun k hk _ => h.block k hk⟩
theorem Kp.drewN {S} {a w : World} (h : Kp S a w) (n : Nat) : Kp S a (w.drewN n) := ⟨h.os, h.tape, h.output, h.size, h.block⟩
theorem Kp.ofDrawn {w w' : World} (h : Drawn0 w w') : Kp [] w w' := by obtain ⟨n, rfl⟩ := h; exact (Kp.refl [] w).drewN n
theorem Kp.bel {w w' : World} (k : Kp [] w w') : Below w.heap.size w w' := k.below (Nat.le_refl _) (by simp)
theorem Kp.undrew {S} {w w' : World} (h : Kp S w.drew w') : Kp S w w' := ⟨h.os, h.tape, h.output, h.size, h.block⟩
theorem addNone (b o n : Nat) : Addr.add ⟨b, o, none⟩ n = ⟨b, o + n, none⟩ := by unfold Addr.add; by_cases h : n = 0 <;> simp [h]
/-- A node's value: the node, and where its two slices lie. -/
structure NV where
  n : S25
  A1 : Option Addr
  c1 : Nat
  A7 : Option Addr
  c7 : Nat
def NV.cells (v : NV) : List Value := [.int .i64 v.n.f0, .slice v.A1 v.n.f1.length v.c1, .int .i64 v.n.f2, .string v.n.f3, .int .i64 v.n.f4, .int .i64 v.n.f5, .bool v.n.f6, .slice v.A7 v.n.f7.length v.c7]
def NV.val (v : NV) : Value := .agg v.cells.toArray
structure NV.ok (w : World) (v : NV) : Prop where
  l1 : v.n.f1.length ≤ v.c1
  g1 : Kd.C k103 w v.A1 v.n.f1.length v.n.f1
  l7 : v.n.f7.length ≤ v.c7
  g7 : Kd.C k25 w v.A7 v.n.f7.length v.n.f7
theorem NV.ok.kp {w w' : World} {v : NV} (h : v.ok w) (k : Kp [] w w') : v.ok w' := ⟨h.l1, Kd.C_below h.g1 k.bel, h.l7, Kd.C_below h.g7 k.bel⟩
theorem NV.ok.k25 {w : World} {v : NV} (h : v.ok w) : k25.K w v.n v.cells := k25_mk w v.n h.l1 h.g1 h.l7 h.g7
/-- A row of nodes, opened: where it lies, and each node's value. -/
theorem rowOpen {w : World} {A : Option Addr} {l : List S25} (h : Kd.C k25 w A l.length l) (hn : 0 < l.length) : ∃ b o, A = some ⟨b, o, none⟩ ∧ b < w.heap.size ∧
    ∃ vs : List NV, vs.map (·.n) = l ∧ (∀ v ∈ vs, v.ok w) ∧ ∀ j (hj : j < vs.length), ∀ i u, (vs[j].cells)[i]? = some u → w.cell? ⟨b, o + j * 8 + i, none⟩ = some u := by
  obtain ⟨ad, rfl, hc⟩ := h.2.2 hn
  obtain ⟨b, o, s⟩ := ad
  have each : ∀ j (hj : j < l.length), ∃ v : NV, v.n = l[j] ∧ v.ok w ∧ ∀ i u, v.cells[i]? = some u → w.cell? (Addr.add ⟨b, o, s⟩ (j * 8 + i)) = some u := by
    intro j hj
    obtain ⟨c, hl, hK, hcell⟩ := hc j l[j] (List.getElem?_eq_getElem hj)
    obtain ⟨A1, c1, A7, c7, rfl, l1, g1, l7, g7⟩ := k25_open hK
    exact ⟨⟨l[j], A1, c1, A7, c7⟩, rfl, ⟨l1, g1, l7, g7⟩, hcell⟩
  obtain rfl : s = none := by
    obtain ⟨v, _, _, h0⟩ := each 0 hn
    have := h0 0 _ rfl
    cases s with
    | none => rfl
    | some k => simp [Addr.add, World.cell?] at this; split at this <;> simp at this
  have : Inhabited NV := ⟨⟨z25, none, 0, none, 0⟩⟩
  obtain ⟨f, hf⟩ : ∃ f : Nat → NV, ∀ j (hj : j < l.length), (f j).n = l[j] ∧ (f j).ok w ∧ ∀ i u, (f j).cells[i]? = some u → w.cell? (Addr.add ⟨b, o, none⟩ (j * 8 + i)) = some u := by
    classical
    exact ⟨fun j => if hj : j < l.length then Classical.choose (each j hj) else default, fun j hj => by simp only [dif_pos hj]; exact Classical.choose_spec (each j hj)⟩
  refine ⟨b, o, rfl, ?_, (List.range l.length).map f, ?_, ?_, ?_⟩
  · exact World.block_lt_of_cell? w _ ((hf 0 hn).2.2 0 _ rfl)
  · apply List.ext_getElem
    · simp
    · intro i h1 h2
      simp at h1
      simp [(hf i h1).1]
  · intro v hv
    obtain ⟨j, hj, rfl⟩ := List.mem_map.1 hv
    exact (hf j (by simpa using hj)).2.1
  · intro j hj i u hu
    simp at hj hu
    have := (hf j hj).2.2 i u hu
    rw [addNone] at this
    rw [Nat.add_assoc]
    exact this
end Go.Proofs.Ytojlhlepneefoaa
