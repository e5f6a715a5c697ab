/- Package tree: Check. -/
import Derived.Test.YtojlhlepneefoaaJ
import Derived.Test.YtojlhlepneefoaaE
import Derived.Test.YtojlhlepneefoaaPAllx3
import Derived.Maps.OwnIn
import Derived.Maps.Views
import Derived.StringKeys
namespace Go.Proofs.Ytojlhlepneefoaa
open Go.RowKit PAll Go.Proofs.YtojlhlepneefoaaW.PrintWords Go.Proofs.YtojlhlepneefoaaW.PrintLast Go.Proofs.YtojlhlepneefoaaW.PrintMore
open Go.Shelf
set_option linter.unusedVariables false
set_option linter.unusedSimpArgs false

attribute [local go_sem] Oper.semAt_some
open Classical in
/-- One step of Check: the names so far, or the fault. -/
noncomputable def chkStep (st : Except Int (List ByteArray)) (x : Int × S25) : Except Int (List ByteArray) :=
  match st with
  | .error c => .error c
  | .ok ns =>
    if fitsV x.2 = false then .error 60
    else if ¬ x.2.f0 = 6 then .ok ns
    else if ¬ x.2.f2 = (ns.length : Int) + 1 then .error 60
    else if 31 < (ns.length : Int) + 1 then .error 2
    else if x.2.f3 ∈ ns ∧ emptyS x.2.f3 = false then .error 6
    else .ok (ns ++ [x.2.f3])
noncomputable def chkL (xs : List (Int × S25)) : Except Int (List ByteArray) := xs.foldl chkStep (.ok [])
theorem chkL_snoc (xs : List (Int × S25)) (x : Int × S25) : chkL (xs ++ [x]) = chkStep (chkL xs) x := by simp [chkL]
theorem chk_err (c : Int) (xs : List (Int × S25)) : xs.foldl chkStep (.error c) = .error c := by
  induction xs with
  | nil => rfl
  | cons x xs ih => simpa [chkStep] using ih
theorem chkL_pre {c : Int} {xs ys : List (Int × S25)} (h : chkL xs = .error c) (hp : xs <+: ys) : chkL ys = .error c := by
  obtain ⟨r, rfl⟩ := hp
  unfold chkL at *
  rw [List.foldl_append, h, chk_err]
def chkOut : Except Int (List ByteArray) → Int
  | .ok _ => 0
  | .error c => c
/-- The map knows the names. -/
def Knows (D : DataW Nat) (ns : List ByteArray) : Prop := Maps.IsMap D ∧ ∀ s : ByteArray, (Maps.has D (.string s.data.toList) = true ↔ s ∈ ns)
theorem knows_nil : Knows (.map []) [] := ⟨Maps.isMap_empty, fun s => by simp [Maps.has]⟩
theorem bytes_inj {s t : ByteArray} (h : s.data.toList = t.data.toList) : s = t := by
  cases s; cases t; simp at h; simp [h]
theorem Knows.put {D : DataW Nat} {ns : List ByteArray} (h : Knows D ns) (s : ByteArray) (d : DataW Nat) : Knows (D.put (.string s.data.toList) d) (ns ++ [s]) := by
  refine ⟨h.1.put _ _, fun t => ?_⟩
  by_cases e : t = s
  · subst e; rw [Maps.has_put_same h.1 (by simp [WideAt.IsKeyLit])]; simp
  · rw [Maps.has_put_other (fun e' => e (bytes_inj (by simpa using e'))), h.2]; simp [e]
theorem chk_no {ns : List ByteArray} {x : Int × S25} (hf : fitsV x.2 = false) : chkStep (.ok ns) x = .error 60 := by simp [chkStep, hf]
theorem chk_skip {ns : List ByteArray} {x : Int × S25} (hf : fitsV x.2 = true) (h6 : ¬ x.2.f0 = 6) : chkStep (.ok ns) x = .ok ns := by simp [chkStep, hf, h6]
theorem chk_num {ns : List ByteArray} {x : Int × S25} (hf : fitsV x.2 = true) (h6 : x.2.f0 = 6) (hnum : ¬ x.2.f2 = (ns.length : Int) + 1) : chkStep (.ok ns) x = .error 60 := by
  unfold chkStep; dsimp only; rw [if_neg (by rw [hf]; simp), if_neg (by simp [h6]), if_pos hnum]
theorem chk_long {ns : List ByteArray} {x : Int × S25} (hf : fitsV x.2 = true) (h6 : x.2.f0 = 6) (hnum : x.2.f2 = (ns.length : Int) + 1) (hb : ns.length = 31) : chkStep (.ok ns) x = .error 2 := by
  unfold chkStep; dsimp only; rw [if_neg (by rw [hf]; simp), if_neg (by simp [h6]), if_neg (by simp [hnum]), if_pos (by omega)]
theorem chk_twice {ns : List ByteArray} {x : Int × S25} (hf : fitsV x.2 = true) (h6 : x.2.f0 = 6) (hnum : x.2.f2 = (ns.length : Int) + 1) (hb : ns.length ≤ 30) (hi : x.2.f3 ∈ ns) (he : emptyS x.2.f3 = false) : chkStep (.ok ns) x = .error 6 := by
  unfold chkStep; dsimp only; rw [if_neg (by rw [hf]; simp), if_neg (by simp [h6]), if_neg (by simp [hnum]), if_neg (by omega), if_pos ⟨hi, he⟩]
theorem chk_fine {ns : List ByteArray} {x : Int × S25} (hf : fitsV x.2 = true) (h6 : x.2.f0 = 6) (hnum : x.2.f2 = (ns.length : Int) + 1) (hb : ns.length ≤ 30) (hi : ¬ (x.2.f3 ∈ ns ∧ emptyS x.2.f3 = false)) : chkStep (.ok ns) x = .ok (ns ++ [x.2.f3]) := by
  unfold chkStep; dsimp only; rw [if_neg (by rw [hf]; simp), if_neg (by simp [h6]), if_neg (by simp [hnum]), if_neg (by omega), if_neg hi]
theorem kpFrom {B : Nat} {W W' : World} (k : Kp [] W W') : KeepsFrom B W W' := ⟨k.size, fun i o _ hi _ => kblk k hi⟩
theorem wf_small (n : Nat) (h : n ≤ 31) : (Lit.int .i64 ((n : Int) + 1)).wf = true := by
  have e : wrap64 ((n : Int) + 1) = (n : Int) + 1 := by unfold wrap64; omega
  have := wrap64_wf ((n : Int) + 1)
  exact e ▸ this
theorem okBelow {w w' : World} {v : NV} (h : v.ok w) (hb : Below w.heap.size w w') : v.ok w' := ⟨h.l1, Kd.C_below h.g1 hb, h.l7, Kd.C_below h.g7 hb⟩
theorem ownsKp {w w' : World} {M k : Nat} {D : DataW Nat} (k0 : Kp [] w w') (h : w.ownsMap Try.prog 9 (plainElem (H := Nat) Try.prog 3) M k D) : w'.ownsMap Try.prog 9 (plainElem (H := Nat) Try.prog 3) M k D := by
  obtain ⟨es, ck, hh, r⟩ := h
  exact ⟨es, ck, kblk k0 hh, r⟩
theorem notEmpty (a : ByteArray) (h : 0 < a.size) : a.toList.isEmpty = false := by
  have e : a.toList = a.data.toList := Lib.toList_data a
  rw [e]
  cases hl : a.data.toList with
  | nil => have : a.size = 0 := by show a.data.size = 0; rw [← Array.length_toList, hl]; rfl
           omega
  | cons x l => rfl
set_option maxRecDepth 10000 in
theorem name_short {n : S25} (hf : fitsV n = true) (h6 : n.f0 = 6) : n.f3.size ≤ maxLen := by
  have : emptyS n.f3 = true ∨ n.f3.data.toList.length ≤ 32 := by
    simp only [fitsV, fitsN, h6] at hf
    simp [nameB] at hf
    rcases hf.2.1 with h | h
    · exact .inl h
    · exact .inr (by have := h.2.1; simpa using this)
  rcases this with h | h
  · have : ¬ 0 < n.f3.size := fun h0 => by
      have := notEmpty _ h0
      unfold emptyS at h
      rw [this] at h
      cases h
    have : n.f3.size = 0 := by omega
    rw [this]; exact Nat.zero_le _
  · have e : n.f3.size = n.f3.data.toList.length := Array.length_toList.symm
    rw [e]
    have : (32 : Nat) ≤ maxLen := by decide
    omega
set_option maxRecDepth 100000 in
set_option maxHeartbeats 4000000 in
theorem Check_in (n : Nat) (hn : 3 ≤ n) (v : NV) (w : World) (hv : v.ok w) (hN : (stepsL 1000 1 v.n).length ≤ 1000000) (k : Nat) (dep : Int)
    (hdep : tree_Depth.f k v.n.f0 v.n.f1 v.n.f2 v.n.f3 v.n.f4 v.n.f5 v.n.f6 v.n.f7 = some dep) : CallsIn Fence.wide n Try.prog 24 #[v.val] w fun e w' =>
    e = .returned (.int .i64 (if dep > 1000 then 61 else chkOut (chkL (stepsL 1000 1 v.n)))) ∧ Below w.heap.size w w' := by
  have hro : Fence.wide.round = none := rfl
  have h1 : 1 ≤ n := by omega
  have hdd : ∀ k : Nat, (Fence.wide.depth.isSome = true → 1 ≤ k) := fun k h => by cases h
  have hmm := @run_makeMap Try.prog
  have WI := fun W => Walk_in (n - 1) v W
  obtain ⟨NN, hNN⟩ : ∃ NN, NN = v := ⟨_, rfl⟩
  rw [← hNN] at hv hN hdep ⊢
  have DP := fun W (hb : Below w.heap.size w W) => tree_Depth.calls k NN.n.f0 NN.A1 NN.c1 NN.n.f1 NN.n.f2 NN.n.f3 NN.n.f4 NN.n.f5 NN.n.f6 NN.A7 NN.c7 NN.n.f7 dep W (Kd.C_below hv.g1 hb) hv.l1 (Kd.C_below hv.g7 hb) hv.l7 hdep
  obtain ⟨⟨kd, set, num, nm, mn, mx, lz, subs⟩, A1, c1, A7, c7⟩ := v
  have eV : NN.val = .agg #[.int .i64 kd, .slice A1 set.length c1, .int .i64 num, .string nm, .int .i64 mn, .int .i64 mx, .bool lz, .slice A7 subs.length c7] := by rw [hNN]; rfl
  have eC : NN.cells.toArray = #[.int .i64 kd, .slice A1 set.length c1, .int .i64 num, .string nm, .int .i64 mn, .int .i64 mx, .bool lz, .slice A7 subs.length c7] := by rw [hNN]; rfl
  have eP : (#[.int .i64 NN.n.f0, .slice NN.A1 NN.n.f1.length NN.c1, .int .i64 NN.n.f2, .string NN.n.f3, .int .i64 NN.n.f4, .int .i64 NN.n.f5, .bool NN.n.f6, .slice NN.A7 NN.n.f7.length NN.c7] : Array Value) = NN.cells.toArray := rfl
  simp only [eP, eC] at DP
  dsimp only [NV.val, NV.cells] at WI
  rw [eV]
  clear hNN eP
  have HB0 : Below w.heap.size w ((w.alloc (.cells #[.int .i64 kd, .slice A1 set.length c1, .int .i64 num, .string nm, .int .i64 mn, .int .i64 mx, .bool lz, .slice A7 subs.length c7] 25)).alloc (.cells #[.int .i64 0] 28)) := ((Below.refl _ w).alloc (Nat.le_refl _) _).alloc (by simp) _
  have hbox0 : ((w.alloc (.cells #[.int .i64 kd, .slice A1 set.length c1, .int .i64 num, .string nm, .int .i64 mn, .int .i64 mx, .bool lz, .slice A7 subs.length c7] 25)).alloc (.cells #[.int .i64 0] 28)).heap[w.heap.size]? = some (.cells #[.int .i64 kd, .slice A1 set.length c1, .int .i64 num, .string nm, .int .i64 mn, .int .i64 mx, .bool lz, .slice A7 subs.length c7] 25 (0, 0)) := (Below.heap_alloc _ _ _ (by simp)).trans (heap_alloc_new _ _)
  have hres0 : Boxed ((w.alloc (.cells #[.int .i64 kd, .slice A1 set.length c1, .int .i64 num, .string nm, .int .i64 mn, .int .i64 mx, .bool lz, .slice A7 subs.length c7] 25)).alloc (.cells #[.int .i64 0] 28)) (w.heap.size + 1) 28 (.int .i64 0) := by
    have := Boxed.new (w.alloc (.cells #[.int .i64 kd, .slice A1 set.length c1, .int .i64 num, .string nm, .int .i64 mn, .int .i64 mx, .bool lz, .slice A7 subs.length c7] 25)) 28 (.int .i64 0); rwa [World.size_alloc] at this
  obtain ⟨V0, hV0⟩ : ∃ V0, V0 = (w.alloc (.cells #[.int .i64 kd, .slice A1 set.length c1, .int .i64 num, .string nm, .int .i64 mn, .int .i64 mx, .bool lz, .slice A7 subs.length c7] 25)).alloc (.cells #[.int .i64 0] 28) := ⟨_, rfl⟩
  have hs0 : V0.heap.size = w.heap.size + 2 := by rw [hV0]; simp
  have DP0 := DP V0 (by rw [hV0]; exact HB0)
  have DP1 := DP0.mono (R' := fun e W => e = .returned (.int .i64 dep) ∧ Below w.heap.size w W ∧ w.heap.size + 2 ≤ W.heap.size ∧ Boxed W (w.heap.size + 1) 28 (.int .i64 0) ∧ W.heap[w.heap.size]? = some (.cells NN.cells.toArray 25 (0, 0)))
    (fun e W ⟨he, hb⟩ => ⟨he, by rw [hV0] at hb; exact HB0.trans (hb.mono (by simp; omega)), by have := hb.size; omega, by rw [hV0] at hb; exact (hb.block _ (by simp)).trans hres0, by rw [hV0] at hb; rw [eC]; exact (hb.block _ (by simp; omega)).trans hbox0⟩)
  rw [hV0] at DP1
  clear DP DP0 hV0 hs0
  by_cases hd : dep > 1000
  · refine callsIn_of_wp_marks Try.func24 rfl trivial ?_ hro
    simp only [Try.ntmps24, List.size_toArray, List.length_cons, List.length_nil, Nat.reduceAdd, Nat.reduceSub, Array.replicate_succ, Array.replicate_zero, List.push_toArray, List.append_toArray, List.nil_append, List.cons_append]
    have hd2 : (1000 : Int) < dep := hd
    gi_wp2_with ((try refine ⟨trivial, ?_⟩); (try refine ⟨hdd _, ?_⟩); gi_at_call 39; refine (callsIn_wide.2 DP1).mono ?_; rintro e W1 ⟨rfl, hb1, hs1, hr1, hx1⟩; have c7 := hr1.cell; have f7 := hr1.frozen)
    have hc5 := (hr1.set (.int .i64 61)).cell
    refine ⟨.int .i64 61, ?_, rfl, hb1.setCell (p := ⟨w.heap.size + 1, 0, none⟩) (by simp) _⟩
    simp [results, Try.f24, go_sem, hc5]
  · refine callsIn_of_wp_marks Try.func24 rfl trivial ?_ hro
    simp only [Try.ntmps24, List.size_toArray, List.length_cons, List.length_nil, Nat.reduceAdd, Nat.reduceSub, Array.replicate_succ, Array.replicate_zero, List.push_toArray, List.append_toArray, List.nil_append, List.cons_append]
    gi_wp2_with (first
      | ((try refine ⟨trivial, ?_⟩); (try refine ⟨hdd _, ?_⟩); gi_at_call 39; refine (callsIn_wide.2 DP1).mono ?_; rintro e W1 ⟨rfl, hb1, hs1, hr1, hx1⟩; rw [eC] at hx1; have y1 : w.heap.size < W1.heap.size := (by omega); have y2 : w.heap.size < W1.heap.size + 1 := (by omega); have y3 : w.heap.size < W1.heap.size + 1 + 1 := (by omega); have y4 : w.heap.size ≠ W1.heap.size := (by omega); have z0 : W1.cell? ⟨w.heap.size, 0, none⟩ = some (.int .i64 kd) := cellB hx1 0; have z1 : W1.cell? ⟨w.heap.size, 1, none⟩ = some (.slice A1 set.length c1) := cellB hx1 1; have z2 : W1.cell? ⟨w.heap.size, 2, none⟩ = some (.int .i64 num) := cellB hx1 2; have z3 : W1.cell? ⟨w.heap.size, 3, none⟩ = some (.string nm) := cellB hx1 3; have z4 : W1.cell? ⟨w.heap.size, 4, none⟩ = some (.int .i64 mn) := cellB hx1 4; have z5 : W1.cell? ⟨w.heap.size, 5, none⟩ = some (.int .i64 mx) := cellB hx1 5; have z6 : W1.cell? ⟨w.heap.size, 6, none⟩ = some (.bool lz) := cellB hx1 6; have z7 : W1.cell? ⟨w.heap.size, 7, none⟩ = some (.slice A7 subs.length c7) := cellB hx1 7)
      | ((try refine ⟨trivial, ?_⟩); (try refine ⟨hdd _, ?_⟩); gi_at_call 49; refine (WI _).mono ?_; rintro e w' ⟨rfl, rfl⟩))
    obtain ⟨M, hM⟩ : ∃ M, M = W1.heap.size := ⟨_, rfl⟩
    clear y2 y3 y4 z0 z1 z2 z3 z4 z5 z6 z7
    obtain ⟨Wb, hWb⟩ : ∃ Wb, Wb = (((W1.alloc (.map #[] 0)).alloc (.cells #[.map (some M)] 91)).alloc (.cells #[.int .i64 0] 3)).alloc (.cells NN.cells.toArray 25) := ⟨_, rfl⟩
    rw [← eC, ← hM, ← hWb]
    have hszb : Wb.heap.size = M + 4 := by rw [hWb]; simp [hM]
    have hMw : w.heap.size + 2 ≤ M := by omega
    have hbb : Below w.heap.size w Wb := by rw [hWb]; exact (((hb1.alloc (by omega) _).alloc (by simp; omega) _).alloc (by simp; omega) _).alloc (by simp; omega) _
    have bm : Boxed Wb (M + 1) 91 (.map (some M)) := by
      rw [hWb]; have := ((Boxed.new (W1.alloc (.map #[] 0)) 91 (.map (some M))).alloc (.cells #[.int .i64 0] 3)).alloc (.cells NN.cells.toArray 25); rwa [World.size_alloc, ← hM] at this
    have bc : Boxed Wb (M + 2) 3 (.int .i64 0) := by
      rw [hWb]; have := (Boxed.new ((W1.alloc (.map #[] 0)).alloc (.cells #[.map (some M)] 91)) 3 (.int .i64 0)).alloc (.cells NN.cells.toArray 25); rwa [World.size_alloc, World.size_alloc, ← hM] at this
    have br : Boxed Wb (w.heap.size + 1) 28 (.int .i64 0) := by rw [hWb]; exact (((hr1.alloc _).alloc _).alloc _).alloc _
    have hown0 : Wb.ownsMap Try.prog 9 (plainElem (H := Nat) Try.prog 3) M 0 (.map []) := by
      rw [hWb, hM]; exact (((World.ownsMap_made W1 Try.prog 9 (plainElem (H := Nat) Try.prog 3)).alloc _).alloc _).alloc _
    have hbox : Wb.heap[M + 1 + 1 + 1]? = some (.cells NN.cells.toArray 25 (0, 0)) := by rw [hWb]; exact new_at _ _ _ (by simp [hM])
    clear hWb hx1 DP1 HB0 hbox0 hres0 hmm
    clear hM
    refine wpIn_rangeFunc_ownH hro h1 (gf := 83) (lb := #[.pointer (some ⟨M + 1 + 1 + 1, 0, none⟩)]) rfl trivial (enters_of Try.func83 (by kernel_rfl) rfl)
      (walk_stops (n - 1) w Wb hbb ⟨NN, hv⟩ (M + 1 + 1 + 1) hbox) Kn.trans (Kn.putObj (by omega)) (Below.refl _ _) (fun _ => rfl)
      (fun pre W => (∃ ns D, chkL (proj pre) = .ok ns ∧ Knows D ns ∧ ns.length ≤ 31 ∧ W.ownsMap Try.prog 9 (plainElem (H := Nat) Try.prog 3) M ns.length D ∧ Boxed W (M + 1) 91 (.map (some M)) ∧ Boxed W (M + 2) 3 (.int .i64 ns.length) ∧ Boxed W (w.heap.size + 1) 28 (.int .i64 0)) ∧ Below w.heap.size w W)
      (fun c pre W => (∃ ec, c = .ret ∧ chkL (proj pre) = .error ec ∧ Boxed W (w.heap.size + 1) 28 (.int .i64 ec)) ∧ Below w.heap.size w W)
      (OwnFrom.and (fun pre X Y row hs hg hr => by
        obtain ⟨ns, D, a1, a2, a3, a4, a5, a6, a7⟩ := hs
        exact ⟨ns, D, a1, a2, a3, a4.kept hg (fun e => by have := (hr _ e.symm).1; omega), boxed_own _ _ (fun (_ : Unit) => Value.map (some M)) () X Y row a5 hg (fun r e => (hr r e).2), boxed_own _ _ (fun (_ : Unit) => Value.int .i64 ns.length) () X Y row a6 hg (fun r e => (hr r e).2), boxed_own _ _ (fun (_ : Unit) => Value.int .i64 0) () X Y row a7 hg (fun r e => (hr r e).2)⟩) (ownFrom_below (Nat.le_refl _) (by omega)))
      (fun c => OwnFrom.and (fun pre X Y row hs hg hr => by
        obtain ⟨ec, a1, a2, a7⟩ := hs
        exact ⟨ec, a1, a2, boxed_own _ _ (fun (_ : Unit) => Value.int .i64 ec) () X Y row a7 hg (fun r e => (hr r e).2)⟩) (ownFrom_below (Nat.le_refl _) (by omega)))
      ⟨⟨[], .map [], rfl, knows_nil, by simp, hown0, bm, bc, br⟩, hbb⟩
      (fun x a' W => ∃ Bx, M + 2 < Bx ∧ W.heap[Bx]? = some (.cells x.2.1.cells.toArray 25 (0, 0)) ∧ a' = { tmps := #[NN.val, .pointer (some ⟨w.heap.size, 0, none⟩), .pointer (some ⟨w.heap.size + 1, 0, none⟩), .pointer (some ⟨M + 1, 0, none⟩), .pointer (some ⟨M + 1 + 1, 0, none⟩), undef, .pointer (some ⟨Bx, 0, none⟩), undef, undef, NN.val, .int .i64 dep, .bool (decide (1000 < dep)), .map (some M), NN.val, .func (.func 83) #[] #[.pointer (some ⟨M + 1 + 1 + 1, 0, none⟩)], .int .i64 x.1, x.2.1.val, undef, undef, undef, undef, undef, undef, undef, undef, undef, undef, undef, undef, undef, undef, undef, undef, undef, undef, undef, undef, undef, undef, undef, undef, undef, undef, undef, undef, undef, undef, undef, undef, undef, undef], defers := [] })
      (fun x a' _ X Y row hs hg hr => by obtain ⟨Bx, h1, h2, h3⟩ := hs; exact ⟨Bx, h1, box_own Bx _ rfl () X Y row h2 hg (fun r e => (hr r e).2), h3⟩)
      ?assign ?body ?done ?stop
    case assign =>
      rintro l pre x W K ⟨⟨ns, D, a1, a2, a3, a4, a5, a6, a7⟩, hB⟩ hK
      obtain ⟨dp, ⟨⟨⟨kd', set', num', nm', mn', mx', lz', subs'⟩, A1', c1', A7', c7'⟩, hvx⟩⟩ := x
      dsimp only [Step.vals, NV.val, NV.cells] at hK ⊢
      simp only [List.zip_toArray, List.zip_cons_cons, List.zip_nil_left, List.zip_nil_right, List.foldl_toArray', List.foldl_toArray, List.foldl_cons, List.foldl_nil, List.setIfInBounds_toArray, List.set_cons_succ, List.set_cons_zero, List.size_toArray]
      gi_wp2
      exact hK _ _ ((KeepsOthers.alloc _ _).from _) ((Kn.refl _ W).alloc hB.size _) ⟨⟨ns, D, a1, a2, a3, a4.alloc _, a5.alloc _, a6.alloc _, a7.alloc _⟩, hB.alloc hB.size _⟩ ⟨W.heap.size, a6.lt, new_at _ _ _ rfl, rfl⟩
    case body =>
      rintro l pre x a' W hl ⟨r, hr⟩ ⟨⟨ns, D, a1, a2, a3, a4, a5, a6, a7⟩, hB⟩ ⟨Bx, hBx, bX, rfl⟩ hlen
      have ep : proj (pre ++ [x]) = proj pre ++ [(x.1, x.2.1.n)] := by simp [proj]
      have hst : chkL (proj (pre ++ [x])) = chkStep (.ok ns) (x.1, x.2.1.n) := by rw [ep, chkL_snoc, a1]
      obtain ⟨dp, ⟨xv, hvx⟩⟩ := x
      have hvW : xv.ok W := okBelow hvx hB
      have FT := (fits_calls xv W hvW hvW.g1.2.1).mono (R' := fun e W2 => e = .returned (.bool (fitsV xv.n)) ∧ Kp [] W W2 ∧ Below w.heap.size w W2 ∧ W2.heap[Bx]? = some (.cells xv.cells.toArray 25 (0, 0)) ∧ W2.ownsMap Try.prog 9 (plainElem (H := Nat) Try.prog 3) M ns.length D ∧ Boxed W2 (M + 1) 91 (.map (some M)) ∧ Boxed W2 (M + 2) 3 (.int .i64 ns.length) ∧ Boxed W2 (w.heap.size + 1) 28 (.int .i64 0))
        (fun e W2 ⟨he, k⟩ => ⟨he, k, hB.trans (k.bel.mono hB.size), kblk k bX, ownsKp k a4, kblk k a5, kblk k a6, kblk k a7⟩)
      have hshort := name_short (n := xv.n)
      obtain ⟨⟨kd', set', num', nm', mn', mx', lz', subs'⟩, A1', c1', A7', c7'⟩ := xv
      dsimp only [NV.val, NV.cells] at bX hst FT hshort ⊢
      have z0 := cellB bX 0; have z1 := cellB bX 1; have z2 := cellB bX 2; have z3 := cellB bX 3
      have z4 := cellB bX 4; have z5 := cellB bX 5; have z6 := cellB bX 6; have z7 := cellB bX 7
      have HST := Lib.hid hst
      have HSH := Lib.hid hshort
      clear hst ep hvW hshort bX
      cases hf : fitsV ⟨kd', set', num', nm', mn', mx', lz', subs'⟩
      · rw [hf] at FT
        gi_wp2_with ((try refine ⟨trivial, ?_⟩); (try refine ⟨hdd _, ?_⟩); gi_at_call 68; refine (CallsIn.inRound l (callsIn_wide.2 FT)).mono ?_; rintro e W2 ⟨rfl, k2, hB2, bX2, o2, b5, b6, b7⟩; have c7 := b7.cell; have f7 := b7.frozen)
        exact ⟨(kpFrom k2).trans ((KeepsOthers.setCell _ _ _).from _), ⟨60, rfl, by rw [HST.out]; exact chk_no hf, b7.set _⟩, hB2.setCell (p := ⟨w.heap.size + 1, 0, none⟩) (by simp) _⟩
      · rw [hf] at FT
        by_cases h6 : kd' = 6
        rotate_left
        · have FT2 := FT
          gi_wp2_with ((try refine ⟨trivial, ?_⟩); (try refine ⟨hdd _, ?_⟩); gi_at_call 68; refine (CallsIn.inRound l (callsIn_wide.2 FT)).mono ?_; rintro e W2 ⟨rfl, k2, hB2, bX2, o2, b5, b6, b7⟩; have c7 := b7.cell; have f7 := b7.frozen; have c6 := b6.cell; have f6 := b6.frozen; have c5 := b5.cell; have y0 : W2.cell? ⟨Bx, 0, none⟩ = some (.int .i64 kd') := cellB bX2 0; have y2 : W2.cell? ⟨Bx, 2, none⟩ = some (.int .i64 num') := cellB bX2 2; have y3 : W2.cell? ⟨Bx, 3, none⟩ = some (.string nm') := cellB bX2 3)
          exact ⟨kpFrom k2, Kn.ofKp k2 hB.size, ⟨ns, D, by rw [HST.out]; exact chk_skip hf h6, a2, a3, o2, b5, b6, b7⟩, hB2⟩
        · subst h6
          have hkey := WideMaps.keyOf_string_mk (P := Try.prog) (k := 9) Try.underlying9 (HSH.out hf rfl)
          have hroom : ns.length < maxLen := by have : (32 : Nat) ≤ maxLen := by { decide }
                                                omega
          have hwf := wf_small ns.length a3
          have hne1 : Bx ≠ M + 1 + 1 := by omega
          have hne2 : M + 1 ≠ M + 1 + 1 := by omega
          have hne3 : w.heap.size + 1 ≠ M + 1 + 1 := by omega
          by_cases hnum : num' = (ns.length : Int) + 1
          rotate_left
          · have dn : (num' != (ns.length : Int) + 1) = true := (bne_iff_ne).2 hnum
            gi_wp2_with (first | ((try refine ⟨trivial, ?_⟩); (try refine ⟨hdd _, ?_⟩); gi_at_call 68; refine (CallsIn.inRound l (callsIn_wide.2 FT)).mono ?_; rintro e W2 ⟨rfl, k2, hB2, bX2, o2, b5, b6, b7⟩; have c7 := b7.cell; have f7 := b7.frozen; have c6 := b6.cell; have f6 := b6.frozen; have c5 := b5.cell; have y0 : W2.cell? ⟨Bx, 0, none⟩ = some (.int .i64 6) := cellB bX2 0; have y2 : W2.cell? ⟨Bx, 2, none⟩ = some (.int .i64 num') := cellB bX2 2; have y3 : W2.cell? ⟨Bx, 3, none⟩ = some (.string nm') := cellB bX2 3) | (gi_at_lookup; refine wpListIn_lookup_own_ok_int _ rfl _ _ 91 rfl 9 3 .i64 (Maps.string_keyed Try.underlying9) Try.underlying91 Try.underlying3 (Try.zeroValue3 _) M ns.length D rfl (o2.kept (grownBy_setCell' W2 (M + 1 + 1) _) (fun e => by injection e; omega)) _ _ rfl hkey ?_; intro c hat hwc))
            exact ⟨((kpFrom k2).trans ((KeepsOthers.setCell _ _ _).from _)).trans ((KeepsOthers.setCell _ _ _).from _), ⟨60, rfl, by rw [HST.out]; exact chk_num hf rfl hnum, (b7.other (by omega) _).set _⟩, (hB2.setCell (p := ⟨M + 2, 0, none⟩) (by simp; omega) _).setCell (p := ⟨w.heap.size + 1, 0, none⟩) (by simp) _⟩
          · have dn : (num' != (ns.length : Int) + 1) = false := by rw [hnum]; simp
            replace hnum := Lib.hid hnum
            by_cases hbig : ns.length = 31
            · have db : decide ((31 : Int) < (ns.length : Int) + 1) = true := decide_eq_true (by omega)
              replace hbig := Lib.hid hbig
              gi_wp2_with (first | ((try refine ⟨trivial, ?_⟩); (try refine ⟨hdd _, ?_⟩); gi_at_call 68; refine (CallsIn.inRound l (callsIn_wide.2 FT)).mono ?_; rintro e W2 ⟨rfl, k2, hB2, bX2, o2, b5, b6, b7⟩; have c7 := b7.cell; have f7 := b7.frozen; have c6 := b6.cell; have f6 := b6.frozen; have c5 := b5.cell; have y0 : W2.cell? ⟨Bx, 0, none⟩ = some (.int .i64 6) := cellB bX2 0; have y2 : W2.cell? ⟨Bx, 2, none⟩ = some (.int .i64 num') := cellB bX2 2; have y3 : W2.cell? ⟨Bx, 3, none⟩ = some (.string nm') := cellB bX2 3) | (gi_at_lookup; refine wpListIn_lookup_own_ok_int _ rfl _ _ 91 rfl 9 3 .i64 (Maps.string_keyed Try.underlying9) Try.underlying91 Try.underlying3 (Try.zeroValue3 _) M ns.length D rfl (o2.kept (grownBy_setCell' W2 (M + 1 + 1) _) (fun e => by injection e; omega)) _ _ rfl hkey ?_; intro c hat hwc) | (gi_at_mapUpdate; refine wpListIn_mapUpdate_own _ rfl _ _ _ 91 rfl 9 3 (Maps.string_keyed Try.underlying9) Try.underlying91 _ M ns.length _ rfl (o2.kept (grownBy_setCell' W2 (M + 1 + 1) _) (fun e => by injection e; omega)) hroom _ _ _ rfl rfl hkey _ [] (plainElem_int Try.underlying3 hwf) ?_; intro w1 hown1 hgrow1))
              exact ⟨((kpFrom k2).trans ((KeepsOthers.setCell _ _ _).from _)).trans ((KeepsOthers.setCell _ _ _).from _), ⟨2, rfl, by rw [HST.out]; exact chk_long hf rfl hnum.out hbig.out, (b7.other (by omega) _).set _⟩, (hB2.setCell (p := ⟨M + 2, 0, none⟩) (by simp; omega) _).setCell (p := ⟨w.heap.size + 1, 0, none⟩) (by simp) _⟩
            · have db : decide ((31 : Int) < (ns.length : Int) + 1) = false := decide_eq_false (by omega)
              have a30 : ns.length ≤ 30 := by omega
              clear hbig
              by_cases hin : nm' ∈ ns
              · have hhas : Maps.has D (.string nm'.data.toList) = true := (a2.2 nm').2 hin
                have hem2 : ∃ b, nm'.toList.isEmpty = b := ⟨_, rfl⟩
                obtain ⟨b, hem2⟩ := hem2
                have HIN := Lib.hid hin
                clear hin
                cases b
                · have HE := Lib.hid (show emptyS nm' = false from hem2)
                  gi_wp2_with (first | ((try refine ⟨trivial, ?_⟩); (try refine ⟨hdd _, ?_⟩); gi_at_call 68; refine (CallsIn.inRound l (callsIn_wide.2 FT)).mono ?_; rintro e W2 ⟨rfl, k2, hB2, bX2, o2, b5, b6, b7⟩; have c7 := b7.cell; have f7 := b7.frozen; have c6 := b6.cell; have f6 := b6.frozen; have c5 := b5.cell; have y0 : W2.cell? ⟨Bx, 0, none⟩ = some (.int .i64 6) := cellB bX2 0; have y2 : W2.cell? ⟨Bx, 2, none⟩ = some (.int .i64 num') := cellB bX2 2; have y3 : W2.cell? ⟨Bx, 3, none⟩ = some (.string nm') := cellB bX2 3) | (gi_at_lookup; refine wpListIn_lookup_own_ok_int _ rfl _ _ 91 rfl 9 3 .i64 (Maps.string_keyed Try.underlying9) Try.underlying91 Try.underlying3 (Try.zeroValue3 _) M ns.length D rfl (o2.kept (grownBy_setCell' W2 (M + 1 + 1) _) (fun e => by injection e; omega)) _ _ rfl hkey ?_; intro c hat hwc) | (gi_at_mapUpdate; refine wpListIn_mapUpdate_own _ rfl _ _ _ 91 rfl 9 3 (Maps.string_keyed Try.underlying9) Try.underlying91 _ M ns.length _ rfl (o2.kept (grownBy_setCell' W2 (M + 1 + 1) _) (fun e => by injection e; omega)) hroom _ _ _ rfl rfl hkey _ [] (plainElem_int Try.underlying3 hwf) ?_; intro w1 hown1 hgrow1))
                  exact ⟨((kpFrom k2).trans ((KeepsOthers.setCell _ _ _).from _)).trans ((KeepsOthers.setCell _ _ _).from _), ⟨6, rfl, by rw [HST.out]; exact chk_twice hf rfl hnum.out a30 HIN.out HE.out, (b7.other (by omega) _).set _⟩, (hB2.setCell (p := ⟨M + 2, 0, none⟩) (by simp; omega) _).setCell (p := ⟨w.heap.size + 1, 0, none⟩) (by simp) _⟩
                · have HE := Lib.hid (show emptyS nm' = true from hem2)
                  gi_wp2_with (first | ((try refine ⟨trivial, ?_⟩); (try refine ⟨hdd _, ?_⟩); gi_at_call 68; refine (CallsIn.inRound l (callsIn_wide.2 FT)).mono ?_; rintro e W2 ⟨rfl, k2, hB2, bX2, o2, b5, b6, b7⟩; have c7 := b7.cell; have f7 := b7.frozen; have c6 := b6.cell; have f6 := b6.frozen; have c5 := b5.cell; have y0 : W2.cell? ⟨Bx, 0, none⟩ = some (.int .i64 6) := cellB bX2 0; have y2 : W2.cell? ⟨Bx, 2, none⟩ = some (.int .i64 num') := cellB bX2 2; have y3 : W2.cell? ⟨Bx, 3, none⟩ = some (.string nm') := cellB bX2 3) | (gi_at_lookup; refine wpListIn_lookup_own_ok_int _ rfl _ _ 91 rfl 9 3 .i64 (Maps.string_keyed Try.underlying9) Try.underlying91 Try.underlying3 (Try.zeroValue3 _) M ns.length D rfl (o2.kept (grownBy_setCell' W2 (M + 1 + 1) _) (fun e => by injection e; omega)) _ _ rfl hkey ?_; intro c hat hwc) | (gi_at_mapUpdate; refine wpListIn_mapUpdate_own _ rfl _ _ _ 91 rfl 9 3 (Maps.string_keyed Try.underlying9) Try.underlying91 _ M ns.length _ rfl (o2.kept (grownBy_setCell' W2 (M + 1 + 1) _) (fun e => by injection e; omega)) hroom _ _ _ rfl rfl hkey _ [] (plainElem_int Try.underlying3 hwf) ?_; intro w1 hown1 hgrow1))
                  obtain ⟨es, ck, hh, _⟩ := o2.kept (grownBy_setCell' W2 (M + 1 + 1) (.int .i64 ((ns.length : Int) + 1))) (fun e => by injection e; omega)
                  exact ⟨((kpFrom k2).trans ((KeepsOthers.setCell _ _ _).from _)).trans (KeepsFrom.of_grownBy hgrow1 (fun j e => by cases e; omega)), ((Kn.ofKp k2 hB.size).trans (Kn.setBox b6 (by decide) (by omega) _)).trans (Kn.grown hgrow1 (by have := hB2.size; simp; omega) (fun r e => by cases e; exact ⟨by omega, fun cs hx => by rw [hh] at hx; cases hx⟩)),
                    ⟨ns ++ [nm'], _, by rw [HST.out]; exact chk_fine hf rfl hnum.out (by omega) (fun h => by have := h.2; dsimp only at this; rw [HE.out] at this; cases this), a2.put nm' _, by simp; omega, by rw [List.length_append]; exact hown1, (b5.other (by omega) _).kept hgrow1 (fun e => by injection e; omega), by simp only [List.length_append, List.length_singleton]; exact (b6.set _).kept hgrow1 (fun e => by injection e; omega), (b7.other (by omega) _).kept hgrow1 (fun e => by injection e; omega)⟩,
                    (hB2.setCell (p := ⟨M + 2, 0, none⟩) (by simp; omega) _).grown hgrow1 (by have := hB2.size; simp; omega) (fun k e => by cases e; omega)⟩
              · have hhas : Maps.has D (.string nm'.data.toList) = false := Bool.eq_false_iff.2 (fun h => hin ((a2.2 nm').1 h))
                have HIN := Lib.hid hin
                clear hin
                · gi_wp2_with (first | ((try refine ⟨trivial, ?_⟩); (try refine ⟨hdd _, ?_⟩); gi_at_call 68; refine (CallsIn.inRound l (callsIn_wide.2 FT)).mono ?_; rintro e W2 ⟨rfl, k2, hB2, bX2, o2, b5, b6, b7⟩; have c7 := b7.cell; have f7 := b7.frozen; have c6 := b6.cell; have f6 := b6.frozen; have c5 := b5.cell; have y0 : W2.cell? ⟨Bx, 0, none⟩ = some (.int .i64 6) := cellB bX2 0; have y2 : W2.cell? ⟨Bx, 2, none⟩ = some (.int .i64 num') := cellB bX2 2; have y3 : W2.cell? ⟨Bx, 3, none⟩ = some (.string nm') := cellB bX2 3) | (gi_at_lookup; refine wpListIn_lookup_own_ok_int _ rfl _ _ 91 rfl 9 3 .i64 (Maps.string_keyed Try.underlying9) Try.underlying91 Try.underlying3 (Try.zeroValue3 _) M ns.length D rfl (o2.kept (grownBy_setCell' W2 (M + 1 + 1) _) (fun e => by injection e; omega)) _ _ rfl hkey ?_; intro c hat hwc) | (gi_at_mapUpdate; refine wpListIn_mapUpdate_own _ rfl _ _ _ 91 rfl 9 3 (Maps.string_keyed Try.underlying9) Try.underlying91 _ M ns.length _ rfl (o2.kept (grownBy_setCell' W2 (M + 1 + 1) _) (fun e => by injection e; omega)) hroom _ _ _ rfl rfl hkey _ [] (plainElem_int Try.underlying3 hwf) ?_; intro w1 hown1 hgrow1))
                  obtain ⟨es, ck, hh, _⟩ := o2.kept (grownBy_setCell' W2 (M + 1 + 1) (.int .i64 ((ns.length : Int) + 1))) (fun e => by injection e; omega)
                  exact ⟨((kpFrom k2).trans ((KeepsOthers.setCell _ _ _).from _)).trans (KeepsFrom.of_grownBy hgrow1 (fun j e => by cases e; omega)), ((Kn.ofKp k2 hB.size).trans (Kn.setBox b6 (by decide) (by omega) _)).trans (Kn.grown hgrow1 (by have := hB2.size; simp; omega) (fun r e => by cases e; exact ⟨by omega, fun cs hx => by rw [hh] at hx; cases hx⟩)),
                    ⟨ns ++ [nm'], _, by rw [HST.out]; exact chk_fine hf rfl hnum.out (by omega) (fun h => HIN.out h.1), a2.put nm' _, by simp; omega, by rw [List.length_append]; exact hown1, (b5.other (by omega) _).kept hgrow1 (fun e => by injection e; omega), by simp only [List.length_append, List.length_singleton]; exact (b6.set _).kept hgrow1 (fun e => by injection e; omega), (b7.other (by omega) _).kept hgrow1 (fun e => by injection e; omega)⟩,
                    (hB2.setCell (p := ⟨M + 2, 0, none⟩) (by simp; omega) _).grown hgrow1 (by have := hB2.size; simp; omega) (fun k e => by cases e; omega)⟩
    case done =>
      rintro D0 ys W hD hys ⟨⟨ns, D, a1, a2, a3, a4, a5, a6, a7⟩, hB⟩ hK
      rw [hys] at a1
      have hcell := a7.cell
      have hfr := a7.frozen
      gi_wp2
      have hK' := (KeepsOthers.setCell W ⟨w.heap.size + 1, 0, none⟩ (.int .i64 0)).same D0 _ hK rfl
      refine ⟨by simp, .inl ⟨_, _, rfl, run_takeDeferred hK', ?_⟩⟩
      have hc5 := cell_kept (a7.set (.int .i64 0)).cell (grownBy_putObj' _ D0 (.deferred none)) (fun r e => by cases e; exact ⟨_, hK', rfl⟩)
      refine ⟨.int .i64 0, ?_, rfl, (hB.setCell (p := ⟨w.heap.size + 1, 0, none⟩) (by simp) _).trans (belowK_b (w := Wb) (by omega) _ D0 _ _ (by omega) hK' rfl rfl)⟩
      simp [results, Try.f24, go_sem, hc5]
    case stop =>
      rintro D0 c pre W hD hpre ⟨⟨ec, rfl, a1, a7⟩, hB⟩ hK
      have a2 := chkL_pre a1 hpre
      have hcell := a7.cell
      have hfr := a7.frozen
      gi_wp2
      refine ⟨by simp, .inl ⟨_, _, rfl, run_takeDeferred hK, ?_⟩⟩
      have hc5 := cell_kept hcell (grownBy_putObj' _ D0 (.deferred none)) (fun r e => by cases e; exact ⟨_, hK, rfl⟩)
      refine ⟨.int .i64 ec, ?_, rfl, hB.trans (belowK_b (w := Wb) (by omega) _ D0 _ _ (by omega) hK rfl rfl)⟩
      simp [results, Try.f24, go_sem, hc5]
end Go.Proofs.Ytojlhlepneefoaa
