/- Package tmpl: put, walked: a template is a box with a row of its own, of pieces. -/
import Derived.Test.YtgjjkpnfnjpfgaaDoorF
import Derived.Maps.AppendAt
namespace Go.Proofs.YtgjjkpnfnjpfgaaDoor
open Go.RowKit PAll Go.Proofs.YtgjjkpnfnjpfgaaDoorW.PrintWords Go.Proofs.YtgjjkpnfnjpfgaaDoorW.PrintLast Go.Proofs.YtgjjkpnfnjpfgaaDoorW.PrintMore
open Go.Shelf
set_option linter.unusedVariables false
set_option linter.unusedSimpArgs false
theorem info54 : (Tryd.prog.info? 51).map (fun i => (i.zero, i.size, i.bytes)) = some (some .nilIface, 1, 16) := by kernel_rfl
theorem succForm {w : World} {b e z n : Nat} {v : Value} {xs : List Value} (h : w.ownsRow b e z v (n + 1) xs) : ∃ g cap, v = .slice (some ⟨g, 0, none⟩) (n + 1) cap := by
  rcases h.2 with ⟨_, h0⟩ | ⟨g, cap, cur, hv, _⟩
  · omega
  · exact ⟨g, cap, hv⟩
/-- A template in the box b: its pieces lie in a row of its own behind it. -/
structure TBox (b : Nat) (xs : List Value) (u : Value) (w : World) : Prop where
  box : w.heap[b]? = some (.cells #[u] 37 (0, 0))
  row : w.ownsRow (b + 1) 51 1 u xs.length xs
/-- What put keeps: all below the box. -/
theorem TBox.kp {b : Nat} {xs : List Value} {u : Value} {w w' : World} (h : TBox b xs u w) (k : Kp [] w w') : TBox b xs u w' :=
  ⟨(k.block b (ltB h.box) (by simp)).trans h.box, h.row.kept (row := none) ⟨k.os, k.tape, k.output, k.size, fun i hi _ => k.block i hi (by simp)⟩ (by cases u.ownBlock <;> simp)⟩
set_option maxRecDepth 100000 in
set_option maxHeartbeats 2000000 in
theorem put_calls (b c : Nat) (xs : List Value) (u p : Value) (w : World) (h : TBox b xs u w) (hc : w.cell? ⟨c, 0, none⟩ = some p) (hp : p.oneCell' = true) (hl : xs.length ≤ 100000) :
    Calls Tryd.prog 10 #[.pointer (some ⟨b, 0, none⟩), .slice (some ⟨c, 0, none⟩) 1 1] w fun e w' => e = .returned (.tuple #[]) ∧ (∃ u', TBox b (xs ++ [p]) u' w') ∧ Below b w w' := by
  obtain ⟨i0, hi, hz0, hz1, hz2⟩ := info_parts info54
  have hb := h.box
  have z0 : w.cell? ⟨b, 0, none⟩ = some u := cellB hb 0
  have hbl := ltB hb
  have hst : ∀ w1, w.grownBy w1 u.ownBlock → w1.heap[b]? = some (.cells #[u] 37 (0, 0)) := fun w1 hg => (hg.block b hbl (fun e => by have := (h.row.lt b e.symm).1; omega)).trans hb
  go_enter Tryd.func10, Tryd.ntmps10
  go_wp2_with (at_builtin; refine wpList_append_own_at _ rfl _ _ 35 rfl (b + 1) 51 i0 .nilIface 1 16 Tryd.underlying35 hi hz0 hz1 hz2 rfl (by decide) _ _ _ rfl h.row ⟨c, 0, none⟩ 1 1 [p] rfl rfl (fun j v hv => by cases j with | zero => (simp at hv; subst hv; simpa [Addr.add] using hc) | succ j => simp at hv) (by simpa using hp) (by unfold maxLen; omega) (by omega) (by omega) ?_; intro v' w1 hown hgrow _ hat; obtain ⟨g, cap, rfl⟩ := succForm hown; have hB1 := hst w1 hgrow; have y1 : w1.cell? ⟨b, 0, none⟩ = some u := cellB hB1 0; have f1 := frozB hB1 0; have hl1 := ltB hB1)
  go_end0
  refine ⟨rfl, ⟨_, ⟨by rw [setB hB1 0 (.slice (some ⟨g, 0, none⟩) (xs.length + 1) cap)]; rfl, ?_⟩⟩, ?_⟩
  · have hk : w1.grownBy (w1.setCell ⟨b, 0, none⟩ (.slice (some ⟨g, 0, none⟩) (xs.length + 1) cap)) (some b) := ⟨rfl, rfl, rfl, by simp [World.setCell], fun k _ hk => Below.heap_setCell _ _ _ _ (fun e => hk (by rw [e]))⟩
    have := hown.kept hk (.inr (fun e => by have := (hown.lt b e).1; omega))
    simpa using this
  · refine ⟨hgrow.os, hgrow.tape, hgrow.output, by have := hgrow.size; simpa [World.setCell] using this, fun k hk => ?_⟩
    rw [Below.heap_setCell _ _ _ _ (by show k ≠ b; omega)]
    exact hgrow.block k (by omega) (fun e => by have := (h.row.lt k e.symm).1; omega)
end Go.Proofs.YtgjjkpnfnjpfgaaDoor
