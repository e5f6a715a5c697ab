/- Package tree: Size. -/
import Derived.Test.YtojlhlepneefoaaH
import Derived.RangeFuncBox
namespace Go.Proofs.Ytojlhlepneefoaa
open Go.RowKit PAll Go.Proofs.YtojlhlepneefoaaW.PrintWords Go.Proofs.YtojlhlepneefoaaW.PrintLast Go.Proofs.YtojlhlepneefoaaW.PrintMore
open Go.Shelf
set_option linter.unusedVariables false
set_option linter.unusedSimpArgs false

attribute [local go_sem] Oper.semAt_some
theorem Kn.grown {B : Nat} {W W' : World} {row : Option Nat} (hg : W.grownBy W' row) (hB : B ≤ W.heap.size) (hr : ∀ r, row = some r → B ≤ r ∧ ∀ cs, W.heap[r]? ≠ some (Obj.cells cs 25 (0, 0))) : Kn B W W' :=
  ⟨(Below.refl B W).grown hg hB (fun k e => (hr k e).1), fun k cs hk => (hg.block k (Array.getElem?_eq_some_iff.1 hk).1 (fun e => (hr k e.symm).2 cs hk)).trans hk⟩
theorem Kn.putObj {w : World} {B : Nat} (hB : B ≤ w.heap.size) (W : World) (l : Nat) (o o' : Obj) (hl : w.heap.size ≤ l) (h : W.heap[l]? = some o) (hc : o.isCells = false) (_ : o.isWalk = false) : Kn B W (W.putObj l o') :=
  Kn.grown (grownBy_putObj' W l o') (by have := (Array.getElem?_eq_some_iff.1 h).1; omega) (fun r e => by cases e; exact ⟨by omega, fun cs hx => by rw [h] at hx; cases hx; cases hc⟩)
theorem Kn.setBox {B b : Nat} {W : World} {t : TypeId} {v : Value} (h : Boxed W b t v) (ht : t ≠ 25) (hB : B ≤ b) (u : Value) : Kn B W (W.setCell ⟨b, 0, none⟩ u) :=
  Kn.grown (grownBy_setCell' W b u) (by have := h.lt; omega) (fun r e => by cases e; exact ⟨hB, fun cs hx => by rw [show W.heap[b]? = _ from h] at hx; cases hx; exact ht rfl⟩)
set_option maxRecDepth 100000 in
set_option maxHeartbeats 4000000 in
theorem Size_in (n : Nat) (hn : 3 ≤ n) (v : NV) (w : World) (hv : v.ok w) (hN : (stepsL 1000 1 v.n).length < 9223372036854775807) : CallsIn Fence.wide n Try.prog 38 #[v.val] w fun e w' =>
    e = .returned (.int .i64 (stepsL 1000 1 v.n).length) ∧ Below w.heap.size w w' := by
  have hro : Fence.wide.round = none := rfl
  have h1 : 1 ≤ n := by omega
  have hdd : ∀ k : Nat, (Fence.wide.depth.isSome = true → 1 ≤ k) := fun k h => by cases h
  have WI := fun W => Walk_in (n - 1) v W
  obtain ⟨NN, hNN⟩ : ∃ NN, NN = v := ⟨_, rfl⟩
  rw [← hNN] at hv hN ⊢
  obtain ⟨⟨kd, set, num, nm, mn, mx, lz, subs⟩, A1, c1, A7, c7⟩ := v
  have eV : NN.val = .agg #[.int .i64 kd, .slice A1 set.length c1, .int .i64 num, .string nm, .int .i64 mn, .int .i64 mx, .bool lz, .slice A7 subs.length c7] := by rw [hNN]; rfl
  have eC : NN.cells.toArray = #[.int .i64 kd, .slice A1 set.length c1, .int .i64 num, .string nm, .int .i64 mn, .int .i64 mx, .bool lz, .slice A7 subs.length c7] := by rw [hNN]; rfl
  dsimp only [NV.val, NV.cells] at WI
  rw [eV]
  clear hNN
  refine callsIn_of_wp_marks Try.func38 rfl trivial ?_ hro
  simp only [Try.ntmps38, List.size_toArray, List.length_cons, List.length_nil, Nat.reduceAdd, Nat.reduceSub, Array.replicate_succ, Array.replicate_zero, List.push_toArray, List.append_toArray, List.nil_append, List.cons_append]
  gi_wp2_with ((try refine ⟨trivial, ?_⟩); (try refine ⟨hdd _, ?_⟩); gi_at_call 49; refine (WI _).mono ?_; rintro e w' ⟨rfl, rfl⟩)
  obtain ⟨Wa, hWa⟩ : ∃ Wa, Wa = (w.alloc (.cells NN.cells.toArray 25)).alloc (.cells #[.int .i64 0] 3) := ⟨_, rfl⟩
  have hsz : Wa.heap.size = w.heap.size + 2 := by rw [hWa]; simp
  have hba : Below w.heap.size w Wa := by rw [hWa]; exact ((Below.refl _ w).alloc (Nat.le_refl _) _).alloc (by simp) _
  have hcnt : Boxed Wa (w.heap.size + 1) 3 (.int .i64 0) := by
    rw [hWa]; have := Boxed.new (w.alloc (.cells NN.cells.toArray 25)) 3 (.int .i64 0); rwa [World.size_alloc] at this
  rw [← eC, ← hWa]
  obtain ⟨Wb, hWb⟩ : ∃ Wb, Wb = Wa.alloc (.cells NN.cells.toArray 25) := ⟨_, rfl⟩
  have hszb : Wb.heap.size = w.heap.size + 3 := by rw [hWb]; simp [hsz]
  have hbb : Below w.heap.size w Wb := by rw [hWb]; exact hba.alloc (by omega) _
  have hcb : Boxed Wb (w.heap.size + 1) 3 (.int .i64 0) := by rw [hWb]; exact hcnt.alloc _
  have hbox : Wb.heap[w.heap.size + 1 + 1]? = some (.cells NN.cells.toArray 25 (0, 0)) := by rw [hWb]; exact new_at _ _ _ (by omega)
  rw [← hWb]
  refine wpIn_rangeFunc_ownF hro h1 (gf := 83) (lb := #[.pointer (some ⟨w.heap.size + 1 + 1, 0, none⟩)]) rfl trivial (enters_of Try.func83 (by kernel_rfl) rfl)
    (walk_stops (n - 1) w Wb hbb ⟨NN, hv⟩ (w.heap.size + 1 + 1) hbox) Kn.trans (Kn.putObj (by omega)) (Below.refl _ _) (fun _ => rfl)
    (fun pre W => Boxed W (w.heap.size + 1) 3 (.int .i64 pre.length) ∧ Below w.heap.size w W)
    (fun _ _ _ => False)
    (OwnFrom.and (Own.from (boxed_own _ 3 (fun pre : List (Step w) => .int .i64 pre.length)) _) (ownFrom_below (Nat.le_refl _) (by omega)))
    (fun _ _ _ _ _ hs _ _ => hs)
    ⟨hcb, hbb⟩
    (fun x => { tmps := #[NN.val, .pointer (some ⟨w.heap.size, 0, none⟩), .int .i64 0, .pointer (some ⟨w.heap.size + 1, 0, none⟩), NN.val, .func (.func 83) #[] #[.pointer (some ⟨w.heap.size + 1 + 1, 0, none⟩)], .int .i64 x.1, x.2.1.val, undef, undef, undef], defers := [] }) ?assign ?body ?done ?stop
  case assign =>
    intro l x W K hK
    dsimp only [Step.vals]
    gi_wp2
    simp only [List.zip_toArray, List.zip_cons_cons, List.zip_nil_left, List.zip_nil_right, List.foldl_toArray', List.foldl_toArray, List.foldl_cons, List.foldl_nil, List.setIfInBounds_toArray, List.set_cons_succ, List.set_cons_zero, List.size_toArray]
    exact hK
  case body =>
    rintro l pre x W ⟨hc, hB⟩ hlen
    have hcell := hc.cell
    have hfr := hc.frozen
    dsimp only at hlen
    gi_wp2
    refine ⟨KeepsOthers.setCell _ _ _, Kn.setBox hc (by decide) (by omega) _, ?_, hB.setCell (p := ⟨w.heap.size + 1, 0, none⟩) (by simp) _⟩
    have := hc.set (.int .i64 (pre.length + 1))
    simpa using this
  case done =>
    rintro D ys W hD hys ⟨hc, hB⟩ hK
    have hcell := hc.cell
    have hfr := hc.frozen
    have hl : ys.length = (stepsL 1000 1 NN.n).length := by rw [← hys]; simp [proj]
    gi_wp2
    refine ⟨by simp, .inl ⟨_, _, rfl, run_takeDeferred hK, ?_⟩⟩
    exact ⟨_, results_tmp rfl _ _ _, rfl, hB.trans (Kn.putObj (w := Wb) (by omega) W D _ _ hD hK rfl rfl).1⟩
  case stop =>
    rintro D c pre W _ _ h _
    exact h.elim
end Go.Proofs.Ytojlhlepneefoaa
