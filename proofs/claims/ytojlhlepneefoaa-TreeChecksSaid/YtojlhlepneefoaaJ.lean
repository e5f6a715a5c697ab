/- Package tree: Groups. -/
import Derived.Test.YtojlhlepneefoaaI
import Derived.Maps.AppendAt
namespace Go.Proofs.Ytojlhlepneefoaa
open Go.RowKit PAll Go.Proofs.YtojlhlepneefoaaW.PrintWords Go.Proofs.YtojlhlepneefoaaW.PrintLast Go.Proofs.YtojlhlepneefoaaW.PrintMore
open Go.Shelf
set_option linter.unusedVariables false
set_option linter.unusedSimpArgs false

attribute [local go_sem] Oper.semAt_some
theorem try_info9 : (Try.prog.info? 9).map (fun i => (i.zero, i.size, i.bytes)) = some (some (.string .empty), 1, 16) := by kernel_rfl
/-- The names of the groups among steps. -/
def groupsP (xs : List (Int × S25)) : List ByteArray := xs.filterMap fun x => if x.2.f0 = 6 then some x.2.f3 else none
theorem groupsP_hit (xs : List (Int × S25)) (x : Int × S25) (h : x.2.f0 = 6) : groupsP (xs ++ [x]) = groupsP xs ++ [x.2.f3] := by simp [groupsP, h]
theorem groupsP_miss (xs : List (Int × S25)) (x : Int × S25) (h : ¬ x.2.f0 = 6) : groupsP (xs ++ [x]) = groupsP xs := by simp [groupsP, h]
theorem groupsP_len (xs : List (Int × S25)) : (groupsP xs).length ≤ xs.length := List.length_filterMap_le _ _
theorem box_own {β : Type} (B : Nat) (o : Obj) (ho : o.isCells = true) : Own (fun (_ : β) W => W.heap[B]? = some o) := fun _ X Y row hs hg hrow =>
  (hg.block B (Array.getElem?_eq_some_iff.1 hs).1 (fun e => by obtain ⟨o', h', hc⟩ := hrow B e.symm; rw [hs] at h'; cases h'; rw [ho] at hc; cases hc)).trans hs
/-- Behind an append to a row of other cells and its store, node blocks stay. -/
theorem Kn.appended {W w1 : World} {n₀ B b : Nat} {t e : TypeId} {size : Nat} {v : Value} {k : Nat} {xs : List Value} {tmp : Obj}
    (hv : Boxed W b t v) (ht : t ≠ 25) (he : e ≠ 25) (hte : t ≠ e) (hrow : W.ownsRow n₀ e size v k xs) (hn₀ : n₀ ≤ W.heap.size) (hB : n₀ ≤ b) (hBn : B ≤ n₀) 
    (hgrow : (W.alloc tmp).grownBy w1 v.ownBlock) (u : Value) : Kn B W (w1.setCell ⟨b, 0, none⟩ u) := by
  have hv1 : Boxed w1 b t v := (hv.alloc tmp).kept hgrow (hv.not_row hte hrow)
  refine (((Kn.refl B W).alloc (by omega) tmp).trans (Kn.grown hgrow (by simp; omega) (fun r er => ?_))).trans (Kn.setBox hv1 ht (by omega) u)
  rcases (hrow.alloc tmp).2 with ⟨rfl, _⟩ | ⟨g, cap, cur, rfl, hb, hgb, _⟩
  · simp [Value.ownBlock] at er
  · obtain rfl : g = r := by simpa [Value.ownBlock] using er
    refine ⟨by omega, fun cs hx => ?_⟩
    rw [hgb] at hx; cases hx; exact he rfl
set_option maxRecDepth 100000 in
set_option maxHeartbeats 4000000 in
theorem Groups_in (n : Nat) (hn : 3 ≤ n) (v : NV) (w : World) (hv : v.ok w) (hN : (stepsL 1000 1 v.n).length ≤ 1000000) : CallsIn Fence.wide n Try.prog 41 #[v.val] w fun e w' =>
    ∃ u, e = .returned u ∧ w'.ownsRow w.heap.size 9 1 u (groupsP (stepsL 1000 1 v.n)).length ((groupsP (stepsL 1000 1 v.n)).map .string) ∧ Below w.heap.size w w' := by
  have hro : Fence.wide.round = none := rfl
  have h1 : 1 ≤ n := by omega
  have hdd : ∀ k : Nat, (Fence.wide.depth.isSome = true → 1 ≤ k) := fun k h => by cases h
  obtain ⟨i0, hi, hz0, hz1, hz2⟩ := info_parts try_info9
  have WI := fun W => Walk_in (n - 1) v W
  obtain ⟨NN, hNN⟩ : ∃ NN, NN = v := ⟨_, rfl⟩
  rw [← hNN] at hv hN ⊢
  obtain ⟨⟨kd, set, num, nm, mn, mx, lz, subs⟩, A1, c1, A7, c7⟩ := v
  have eV : NN.val = .agg #[.int .i64 kd, .slice A1 set.length c1, .int .i64 num, .string nm, .int .i64 mn, .int .i64 mx, .bool lz, .slice A7 subs.length c7] := by rw [hNN]; rfl
  have eC : NN.cells.toArray = #[.int .i64 kd, .slice A1 set.length c1, .int .i64 num, .string nm, .int .i64 mn, .int .i64 mx, .bool lz, .slice A7 subs.length c7] := by rw [hNN]; rfl
  dsimp only [NV.val, NV.cells] at WI
  rw [eV]
  clear hNN
  refine callsIn_of_wp_marks Try.func41 rfl trivial ?_ hro
  simp only [Try.ntmps41, List.size_toArray, List.length_cons, List.length_nil, Nat.reduceAdd, Nat.reduceSub, Array.replicate_succ, Array.replicate_zero, List.push_toArray, List.append_toArray, List.nil_append, List.cons_append]
  gi_wp2_with ((try refine ⟨trivial, ?_⟩); (try refine ⟨hdd _, ?_⟩); gi_at_call 49; refine (WI _).mono ?_; rintro e w' ⟨rfl, rfl⟩)
  obtain ⟨Wa, hWa⟩ : ∃ Wa, Wa = (w.alloc (.cells NN.cells.toArray 25)).alloc (.cells #[.slice none 0 0] 57) := ⟨_, rfl⟩
  have hsz : Wa.heap.size = w.heap.size + 2 := by rw [hWa]; simp
  have hba : Below w.heap.size w Wa := by rw [hWa]; exact ((Below.refl _ w).alloc (Nat.le_refl _) _).alloc (by simp) _
  have hcnt : Boxed Wa (w.heap.size + 1) 57 (.slice none 0 0) := by
    rw [hWa]; have := Boxed.new (w.alloc (.cells NN.cells.toArray 25)) 57 (.slice none 0 0); rwa [World.size_alloc] at this
  rw [← eC, ← hWa]
  obtain ⟨Wb, hWb⟩ : ∃ Wb, Wb = Wa.alloc (.cells NN.cells.toArray 25) := ⟨_, rfl⟩
  have hszb : Wb.heap.size = w.heap.size + 3 := by rw [hWb]; simp [hsz]
  have hbb : Below w.heap.size w Wb := by rw [hWb]; exact hba.alloc (by omega) _
  have hcb : Boxed Wb (w.heap.size + 1) 57 (.slice none 0 0) := by rw [hWb]; exact hcnt.alloc _
  have hbox : Wb.heap[w.heap.size + 1 + 1]? = some (.cells NN.cells.toArray 25 (0, 0)) := by rw [hWb]; exact new_at _ _ _ (by omega)
  rw [← hWb]
  refine wpIn_rangeFunc_ownH hro h1 (gf := 83) (lb := #[.pointer (some ⟨w.heap.size + 1 + 1, 0, none⟩)]) rfl trivial (enters_of Try.func83 (by kernel_rfl) rfl)
    (walk_stops (n - 1) w Wb hbb ⟨NN, hv⟩ (w.heap.size + 1 + 1) hbox) Kn.trans (Kn.putObj (by omega)) (Below.refl _ _) (fun _ => rfl)
    (fun pre W => (∃ u, Boxed W (w.heap.size + 1) 57 u ∧ W.ownsRow w.heap.size 9 1 u (groupsP (proj pre)).length ((groupsP (proj pre)).map .string) ∧ True) ∧ Below w.heap.size w W)
    (fun _ _ _ => False)
    (OwnFrom.and (Own.from (holdsRow_own w.heap.size (w.heap.size + 1) 57 9 1 (fun pre : List (Step w) => (groupsP (proj pre)).length) (fun pre => (groupsP (proj pre)).map .string) (fun _ _ => True)) _) (ownFrom_below (Nat.le_refl _) (by omega)))
    (fun _ _ _ _ _ hs _ _ => hs)
    ⟨⟨_, hcb, World.ownsRow_nil _ _ _ _, trivial⟩, hbb⟩
    (fun x a' W => ∃ Bx, w.heap.size + 1 < Bx ∧ W.heap[Bx]? = some (.cells x.2.1.cells.toArray 25 (0, 0)) ∧ a' = { tmps := #[NN.val, .pointer (some ⟨w.heap.size, 0, none⟩), .slice none 0 0, .pointer (some ⟨w.heap.size + 1, 0, none⟩), undef, .pointer (some ⟨Bx, 0, none⟩), NN.val, .func (.func 83) #[] #[.pointer (some ⟨w.heap.size + 1 + 1, 0, none⟩)], .int .i64 x.1, x.2.1.val, undef, undef, undef, undef, undef, undef, undef, undef, undef], defers := [] })
    (fun x a' _ X Y row hs hg hr => by obtain ⟨Bx, h1, h2, h3⟩ := hs; exact ⟨Bx, h1, box_own Bx _ rfl () X Y row h2 hg (fun r e => (hr r e).2), h3⟩)
    ?assign ?body ?done ?stop
  case assign =>
    rintro l pre x W K ⟨⟨u, hu, hrow, _⟩, hB⟩ hK
    obtain ⟨dp, ⟨⟨⟨kd', set', num', nm', mn', mx', lz', subs'⟩, A1', c1', A7', c7'⟩, hvx⟩⟩ := x
    dsimp only [Step.vals, NV.val, NV.cells] at hK ⊢
    simp only [List.zip_toArray, List.zip_cons_cons, List.zip_nil_left, List.zip_nil_right, List.foldl_toArray', List.foldl_toArray, List.foldl_cons, List.foldl_nil, List.setIfInBounds_toArray, List.set_cons_succ, List.set_cons_zero, List.size_toArray]
    gi_wp2
    exact hK _ _ ((KeepsOthers.alloc _ _).from _) ((Kn.refl _ W).alloc hB.size _) ⟨⟨u, hu.alloc _, hrow.alloc _, trivial⟩, hB.alloc hB.size _⟩ ⟨W.heap.size, hu.lt, new_at _ _ _ rfl, rfl⟩
  case body =>
    rintro l pre x a' W hl ⟨r, hr⟩ ⟨⟨u, hu, hrow, _⟩, hB⟩ ⟨Bx, hBx, bX, rfl⟩ hlen
    have hc := hu.cell
    have ep : proj (pre ++ [x]) = proj pre ++ [(x.1, x.2.1.n)] := by simp [proj]
    have hpl : (groupsP (proj pre)).length ≤ pre.length := by have := groupsP_len (proj pre); simpa [proj] using this
    have hp6 : (groupsP (proj pre)).length ≤ 1000000 := by dsimp only at hlen; omega
    obtain ⟨dp, ⟨⟨⟨kd', set', num', nm', mn', mx', lz', subs'⟩, A1', c1', A7', c7'⟩, hvx⟩⟩ := x
    dsimp only [NV.val, NV.cells] at bX ep ⊢
    have z0 := cellB bX 0; have z3 := cellB bX 3
    have hmiss := groupsP_miss (proj pre) (dp, ⟨kd', set', num', nm', mn', mx', lz', subs'⟩)
    have hhit := groupsP_hit (proj pre) (dp, ⟨kd', set', num', nm', mn', mx', lz', subs'⟩)
    rw [← ep] at hmiss hhit
    dsimp only at hmiss hhit
    have HM := Lib.hid hmiss
    have HH := Lib.hid hhit
    clear hmiss hhit ep bX
    by_cases h6 : kd' = 6
    · subst h6
      gi_wp2_with (gi_at_builtin; refine wpListIn_append_own _ rfl _ _ 57 rfl w.heap.size 9 i0 (.string .empty) 1 16 Try.underlying57 hi hz0 hz1 hz2 rfl (by decide) _ _ _ rfl (hrow.alloc _) ⟨W.heap.size, 0, none⟩ 1 1 [.string nm'] rfl rfl (cell_one_new _ _ _) (by simp [Value.oneCell']) (by simp [maxLen]; omega) (by omega) (by have := hB.size; simp; omega) ?_; intro v' w1 hown' hgrow _; obtain ⟨g', cap', rfl⟩ := ownsRow_succ hown'; obtain ⟨hv1, hv2, hr2, hk2, hb2⟩ := hu.appended (by decide) hrow hB.size (by omega) hown' hgrow; have hkn := Kn.appended (B := w.heap.size) hu (by decide) (by decide) (by decide) hrow hB.size (by omega) (Nat.le_refl _) hgrow; have hc1 := hv1.cell; have hf1 := hv1.frozen)
      exact ⟨hk2.from _, hkn _, ⟨_, hv2, by rw [HH.out trivial]; simpa using hr2⟩, hB.trans hb2⟩
    · gi_wp2
      exact ⟨KeepsFrom.refl _ _, Kn.refl _ _, ⟨u, hu, by rw [HM.out h6]; exact hrow⟩, hB⟩
  case done =>
    rintro D ys W hD hys ⟨⟨u, hu, hrow, _⟩, hB⟩ hK
    have hc := hu.cell
    rw [hys] at hrow
    gi_wp2
    refine ⟨by simp, .inl ⟨_, _, rfl, run_takeDeferred hK, ?_⟩⟩
    exact ⟨_, results_tmp rfl _ _ _, u, rfl, ownsRow_putObj hrow _ hK rfl, hB.trans (Kn.putObj (w := Wb) (by omega) W D _ _ hD hK rfl rfl).1⟩
  case stop =>
    rintro D c pre W _ _ h _
    exact h.elim
end Go.Proofs.Ytojlhlepneefoaa
