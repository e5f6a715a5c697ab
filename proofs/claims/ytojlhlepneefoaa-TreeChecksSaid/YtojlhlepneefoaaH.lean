/- Package tree: Walk and the iterator it returns; Size. -/
import Derived.Test.YtojlhlepneefoaaG
namespace Go.Proofs.Ytojlhlepneefoaa
open Go.RowKit PAll Go.Proofs.YtojlhlepneefoaaW.PrintWords Go.Proofs.YtojlhlepneefoaaW.PrintLast Go.Proofs.YtojlhlepneefoaaW.PrintMore
open Go.Shelf
set_option linter.unusedVariables false
set_option linter.unusedSimpArgs false

attribute [local go_sem] Oper.semAt_some
theorem belowBox {w W : World} (h : Below w.heap.size w W) {B : Nat} {o : Obj} (ho : w.heap[B]? = some o) : W.heap[B]? = some o :=
  (h.block B (Array.getElem?_eq_some_iff.1 ho).1).trans ho
set_option maxRecDepth 100000 in
set_option maxHeartbeats 4000000 in
theorem walk_stops (n : Nat) (W0 w : World) (hb : Below W0.heap.size W0 w) (v : NVok W0) (Bt : Nat) (hBt : w.heap[Bt]? = some (.cells v.1.cells.toArray 25 (0, 0))) :
    SeqStopsK Fence.wide n Try.prog 83 #[.pointer (some ⟨Bt, 0, none⟩)] (Step.vals (w := W0)) (Kn W0.heap.size) (fun xs => proj xs = stepsL 1000 1 v.1.n) (fun q => proj q <+: stepsL 1000 1 v.1.n) (stepsL 1000 1 v.1.n).length w := by
  intro l J Jx W hW hJ hJx hY h0
  have hdd : ∀ k : Nat, (Fence.wide.depth.isSome = true → 1 ≤ k) := fun k h => by cases h
  have hbW : Below W0.heap.size W0 W := hb.trans (hW.mono hb.size)
  have WK := walk_in l (stepsL 1000 1 v.1.n).length W.heap.size W0 J Jx hJ (fun m pre x W1 hj hl => YieldAt.anyDepth rfl m (hY pre x W1 hj hl)) 1000 1 rfl (by omega) (n - 1) v [] W hbW h0 (by simp)
  have hB := belowBox hW hBt
  simp only [List.nil_append] at WK
  obtain ⟨⟨⟨kd, set, num, nm, mn, mx, lz, subs⟩, A1, c1, A7, c7⟩, hv⟩ := v
  dsimp only [NV.val, NV.cells] at WK hB ⊢
  have z0 := cellB hB 0; have z1 := cellB hB 1; have z2 := cellB hB 2; have z3 := cellB hB 3
  have z4 := cellB hB 4; have z5 := cellB hB 5; have z6 := cellB hB 6; have z7 := cellB hB 7
  have HWK := Lib.hid WK
  clear WK
  refine callsIn_of_wp Try.func83 rfl trivial ?_ rfl
  simp only [Try.ntmps83, List.size_toArray, List.length_cons, List.length_nil, Nat.reduceAdd, Nat.reduceSub, Array.replicate_succ, Array.replicate_zero, List.push_toArray, List.append_toArray, List.nil_append, List.cons_append]
  gi_wp2_with ((try refine ⟨trivial, ?_⟩); (try refine ⟨hdd _, ?_⟩); gi_at_call 84; refine HWK.out.mono ?_; rintro e W4 (⟨rfl, ⟨ys, hys, hJ4⟩, hk4⟩ | ⟨rfl, q, hq, hx4⟩))
  · go_end0
    exact ⟨⟨_, rfl⟩, .inl ⟨ys, hys, hJ4⟩⟩
  · go_end0
    exact ⟨⟨_, rfl⟩, .inr ⟨q, hq, hx4⟩⟩
set_option maxRecDepth 100000 in
set_option maxHeartbeats 4000000 in
/-- Walk: the node laid in a box, the function that walks it. -/
theorem Walk_in (n : Nat) (v : NV) (w : World) : CallsIn Fence.wide n Try.prog 49 #[v.val] w fun e w' =>
    e = .returned (.func (.func 83) #[] #[.pointer (some ⟨w.heap.size, 0, none⟩)]) ∧ w' = w.alloc (.cells v.cells.toArray 25) := by
  obtain ⟨⟨kd, set, num, nm, mn, mx, lz, subs⟩, A1, c1, A7, c7⟩ := v
  dsimp only [NV.val, NV.cells]
  refine callsIn_of_wp Try.func49 rfl trivial ?_ rfl
  simp only [Try.ntmps49, List.size_toArray, List.length_cons, List.length_nil, Nat.reduceAdd, Nat.reduceSub, Array.replicate_succ, Array.replicate_zero, List.push_toArray, List.append_toArray, List.nil_append, List.cons_append]
  gi_wp2
  go_ret
  exact ⟨rfl, rfl⟩
end Go.Proofs.Ytojlhlepneefoaa
