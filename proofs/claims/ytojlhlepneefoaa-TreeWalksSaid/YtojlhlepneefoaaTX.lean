/- The law TreeWalks: the walk of the whole. -/
import Derived.Test.YtojlhlepneefoaaTW
import Derived.Stop.RegionWithIn
import Derived.Test.YtojlhlepneefoaaTB
namespace Go.Proofs.Ytojlhlepneefoaa
open Go.RowKit PAll Go.Proofs.YtojlhlepneefoaaW.PrintWords Go.Proofs.YtojlhlepneefoaaW.PrintLast Go.Proofs.YtojlhlepneefoaaW.PrintMore
open Go.Shelf
set_option linter.unusedVariables false
set_option linter.unusedSimpArgs false

theorem cellSet {W : World} {p q : Addr} {u v : Value} (h : W.cell? p = some v) (hne : p.block ≠ q.block) : (W.setCell q u).cell? p = some v := (World.cell?_of_block (Below.heap_setCell _ _ _ _ hne)).trans h
theorem kf_set (B : Nat) (W : World) (p : Addr) (u : Value) : KeepsFrom B W (W.setCell p u) := ⟨by simp [World.setCell], fun k o _ hk ho => by
  by_cases e : k = p.block
  · subst e
    cases o <;> simp_all [World.setCell, Array.getElem?_modify, Obj.isCells]
  · rw [Below.heap_setCell _ _ _ _ e]; exact hk⟩
theorem kf_kp (B : Nat) {W W' : World} (k : Kp [] W W') : KeepsFrom B W W' := ⟨k.size, fun i o _ hk _ => kblk k hk⟩
theorem kf_drew {B : Nat} {W W' : World} (h : KeepsFrom B W W') : KeepsFrom B W W'.drew := ⟨h.size, h.same⟩
theorem run_eql_func_nil (f : Fn) (ts a : Array Value) (w : World) : (binOp .eql 67 (.func f ts a) .nilFunc).run Try.prog w = .ok (.bool false) w := by
  have : Op.maxDepth = (Op.maxDepth - 1) + 1 := rfl
  simp only [binOp, Op.equal]
  rw [this]
  simp [Op.equalIn, go_sem, Try.underlying67, run_underlying]
theorem pre_ext {α : Type} {ss l : List α} {y : α} (h : l <+: ss) (hk : l.length < ss.length) : l ++ [y] <+: ss ↔ ss[l.length] = y := by
  obtain ⟨r, rfl⟩ := h
  cases r with
  | nil => simp at hk
  | cons z r =>
    rw [List.prefix_append_right_inj]
    simp
    exact eq_comm
def TwI (V0 W4 : World) (M : Nat) (most : Int) (ss : List (Int × S25)) (pre : List (Step V0)) (W : World) : Prop :=
  (Boxed W (M + 1 + 1) 3 (.int .i64 (pre.length : Int)) ∧ (pre.length = 0 ∨ (pre.length : Int) ≤ most) ∧ proj pre <+: ss) ∧ Below W4.heap.size W4 W
def TwX (V0 W4 : World) (M : Nat) (most : Int) (ss : List (Int × S25)) (c : Code) (q : List (Step V0)) (W : World) : Prop :=
  (c = .exit 0 ∧ (∃ k : Nat, q.length = k + 1 ∧ most ≤ (k : Int) ∧ (k = 0 ∨ (k : Int) ≤ most) ∧ Boxed W (M + 1 + 1) 3 (.int .i64 (k : Int))) ∧ Below W4.heap.size W4 W) ∨ (c = .ret ∧ ¬ proj q <+: ss)
attribute [local go_sem] Oper.semAt_some run_eql_func_nil max2_int min2_int max_two min_two
set_option maxRecDepth 100000 in
set_option maxHeartbeats 16000000 in
theorem walks_in (n : Nat) (hn : 3 ≤ n) (va vb : NV) (most : Int) (w : World) (hva : va.ok w) (hvb : vb.ok w) : CallsIn Fence.wide n Try.prog 10 #[va.val, vb.val, .int .i64 most] w fun e w' => e = .returned (.bool true) ∧ Below w.heap.size w w' := by
  have hro : Fence.wide.round = none := rfl
  have h1 : 1 ≤ n := by omega
  have hdd : ∀ k : Nat, (Fence.wide.depth.isSome = true → 1 ≤ k) := fun k h => by cases h
  have WI := fun W => Walk_in (n - 1) va W
  obtain ⟨V0, hV0⟩ : ∃ V0, V0 = (((w.alloc (.cells va.cells.toArray 25)).alloc (.cells vb.cells.toArray 25)).alloc (.cells #[.int .i64 most] 3)).alloc (.cells #[.bool false] 4) := ⟨_, rfl⟩
  have k0 : Kp [] w V0 := by rw [hV0]; exact ((((Kp.refl [] w).alloc _).alloc _).alloc _).alloc _
  have hs0 : V0.heap.size = w.heap.size + 4 := by rw [hV0]; simp
  have hB0 : V0.heap[w.heap.size]? = some (.cells va.cells.toArray 25 (0, 0)) := by rw [hV0]; exact (Below.heap_alloc _ _ _ (by simp <;> omega)).trans ((Below.heap_alloc _ _ _ (by simp <;> omega)).trans ((Below.heap_alloc _ _ _ (by simp)).trans (heap_alloc_new _ _)))
  have hB1 : V0.heap[w.heap.size + 1]? = some (.cells vb.cells.toArray 25 (0, 0)) := by rw [hV0]; exact (Below.heap_alloc _ _ _ (by simp <;> omega)).trans ((Below.heap_alloc _ _ _ (by simp)).trans (new_at _ _ _ (by simp)))
  have hB2 : V0.heap[w.heap.size + 1 + 1]? = some (.cells #[.int .i64 most] 3 (0, 0)) := by rw [hV0]; exact (Below.heap_alloc _ _ _ (by simp)).trans (new_at _ _ _ (by simp))
  have hB3 : V0.heap[w.heap.size + 1 + 1 + 1]? = some (.cells #[.bool false] 4 (0, 0)) := by rw [hV0]; exact new_at _ _ _ (by simp)
  have ha0 := hva.kp k0
  have hb0 := hvb.kp k0
  have CG : ∀ v : NV, v.ok V0 → ∀ (W : World), Kp [] V0 W → Calls Try.prog 31 #[v.val, .int .i64 300] W fun e w' => e = .returned (.bool (decide (weighP 40 v.n 300 < 0))) ∧ Kp [] V0 w' := fun v hv0 W k => by
    obtain ⟨K, hK⟩ := Great_f v.n 300 (by omega)
    have ho := hv0.kp k
    exact (burinbook_Great.calls K v.n.f0 v.A1 v.c1 v.n.f1 v.n.f2 v.n.f3 v.n.f4 v.n.f5 v.n.f6 v.A7 v.c7 v.n.f7 300 _ W ho.g1 ho.l1 ho.g7 ho.l7 (hK K (Nat.le_refl _))).mono fun e w' ⟨h, q⟩ => ⟨h, k.trans (Kp.ofBelow q)⟩
  have CW := Lib.hid (fun W (k : Kp [] V0 W) => (works_calls W).mono fun e w' ⟨h, q⟩ => (⟨h, k.trans q⟩ : _ ∧ Kp [] V0 w'))
  have CGa := Lib.hid (CG va ha0)
  have CGb := Lib.hid (CG vb hb0)
  have kv := Kp.refl [] V0
  clear CG
  by_cases hga : weighP 40 va.n 300 < 0 ∨ weighP 40 vb.n 300 < 0
  · obtain ⟨ga, hga1⟩ : ∃ ga, ga = decide (weighP 40 va.n 300 < 0) := ⟨_, rfl⟩
    obtain ⟨gb, hgb1⟩ : ∃ gb, gb = decide (weighP 40 vb.n 300 < 0) := ⟨_, rfl⟩
    have hg : ga = true ∨ gb = true := by rw [hga1, hgb1]; simpa using hga
    rw [← hga1] at CGa
    rw [← hgb1] at CGb
    clear hga hga1 hgb1 ha0 hb0 hva hvb
    obtain ⟨⟨kd, set, num, nm, mn, mx, lz, subs⟩, A1, c1, A7, c7⟩ := va
    obtain ⟨⟨kd', set', num', nm', mn', mx', lz', subs'⟩, A1', c1', A7', c7'⟩ := vb
    dsimp only [NV.val, NV.cells] at hV0 hB0 hB1 CGa CGb ⊢
    refine callsIn_of_wp_marks Try.func10 rfl trivial ?_ hro
    simp only [Try.ntmps10, List.size_toArray, List.length_cons, List.length_nil, Nat.reduceAdd, Nat.reduceSub, Array.replicate_succ, Array.replicate_zero, List.push_toArray, List.append_toArray, List.nil_append, List.cons_append]
    refine wpIn_wide.2 ?_
    go_upto_region 1 with fail
    rw [← hV0]
    have z0 : V0.cell? ⟨w.heap.size, 0, none⟩ = some (Value.int .i64 kd) := cellB (hB0) 0; have z1 : V0.cell? ⟨w.heap.size, 1, none⟩ = some (Value.slice A1 set.length c1) := cellB (hB0) 1; have z2 : V0.cell? ⟨w.heap.size, 2, none⟩ = some (Value.int .i64 num) := cellB (hB0) 2; have z3 : V0.cell? ⟨w.heap.size, 3, none⟩ = some (Value.string nm) := cellB (hB0) 3; have z4 : V0.cell? ⟨w.heap.size, 4, none⟩ = some (Value.int .i64 mn) := cellB (hB0) 4; have z5 : V0.cell? ⟨w.heap.size, 5, none⟩ = some (Value.int .i64 mx) := cellB (hB0) 5; have z6 : V0.cell? ⟨w.heap.size, 6, none⟩ = some (Value.bool lz) := cellB (hB0) 6; have z7 : V0.cell? ⟨w.heap.size, 7, none⟩ = some (Value.slice A7 subs.length c7) := cellB (hB0) 7
    have y0 : V0.cell? ⟨(w.heap.size + 1), 0, none⟩ = some (Value.int .i64 kd') := cellB (hB1) 0; have y1 : V0.cell? ⟨(w.heap.size + 1), 1, none⟩ = some (Value.slice A1' set'.length c1') := cellB (hB1) 1; have y2 : V0.cell? ⟨(w.heap.size + 1), 2, none⟩ = some (Value.int .i64 num') := cellB (hB1) 2; have y3 : V0.cell? ⟨(w.heap.size + 1), 3, none⟩ = some (Value.string nm') := cellB (hB1) 3; have y4 : V0.cell? ⟨(w.heap.size + 1), 4, none⟩ = some (Value.int .i64 mn') := cellB (hB1) 4; have y5 : V0.cell? ⟨(w.heap.size + 1), 5, none⟩ = some (Value.int .i64 mx') := cellB (hB1) 5; have y6 : V0.cell? ⟨(w.heap.size + 1), 6, none⟩ = some (Value.bool lz') := cellB (hB1) 6; have y7 : V0.cell? ⟨(w.heap.size + 1), 7, none⟩ = some (Value.slice A7' subs'.length c7') := cellB (hB1) 7
    have x3 : V0.cell? ⟨w.heap.size + 1 + 1 + 1, 0, none⟩ = some (.bool false) := cellB hB3 0
    have fin : ∀ W, Kp [] V0 W → W.cell? ⟨w.heap.size + 1 + 1 + 1, 0, none⟩ = some (.bool false) ∧ W.frozen? ⟨w.heap.size + 1 + 1 + 1, 0, none⟩ = false ∧ w.heap.size + 1 + 1 + 1 < W.heap.size ∧ (W.setCell ⟨w.heap.size + 1 + 1 + 1, 0, none⟩ (.bool true)).cell? ⟨w.heap.size + 1 + 1 + 1, 0, none⟩ = some (.bool true) ∧ Below w.heap.size w (W.setCell ⟨w.heap.size + 1 + 1 + 1, 0, none⟩ (.bool true)) := by
      intro W k
      have hb := kblk k hB3
      exact ⟨cellB hb 0, frozB hb 0, ltB hb, cellB (setB hb 0 (.bool true)) 0, setKeeps (k0.trans k).bel (by omega) _ _⟩
    replace hV0 := Lib.hid hV0
    have FIN := Lib.hid fin
    clear fin
    rcases hg with rfl | rfl
    · go_wp2_with (first
        | (go_at_call 31; refine (CGa.out _ kv).mono ?_; clear CGa; rintro e w4 ⟨rfl, kv⟩)
        | (go_at_call 32; refine (CW.out _ kv).mono ?_; clear CW; rintro e w5 ⟨rfl, kv⟩; obtain ⟨c1', c2', c3', c4', c5'⟩ := FIN.out _ kv))
      refine ⟨.bool true, ?_, rfl, c5'⟩
      simp [results, Try.f10, go_sem, c4']
    · cases ga
      · go_wp2_with (first
          | (go_at_call 31; refine (CGa.out _ kv).mono ?_; clear CGa; rintro e w4 ⟨rfl, kv⟩; have y0 : w4.cell? ⟨(w.heap.size + 1), 0, none⟩ = some (Value.int .i64 kd') := cellB (kblk kv hB1) 0; have y1 : w4.cell? ⟨(w.heap.size + 1), 1, none⟩ = some (Value.slice A1' set'.length c1') := cellB (kblk kv hB1) 1; have y2 : w4.cell? ⟨(w.heap.size + 1), 2, none⟩ = some (Value.int .i64 num') := cellB (kblk kv hB1) 2; have y3 : w4.cell? ⟨(w.heap.size + 1), 3, none⟩ = some (Value.string nm') := cellB (kblk kv hB1) 3; have y4 : w4.cell? ⟨(w.heap.size + 1), 4, none⟩ = some (Value.int .i64 mn') := cellB (kblk kv hB1) 4; have y5 : w4.cell? ⟨(w.heap.size + 1), 5, none⟩ = some (Value.int .i64 mx') := cellB (kblk kv hB1) 5; have y6 : w4.cell? ⟨(w.heap.size + 1), 6, none⟩ = some (Value.bool lz') := cellB (kblk kv hB1) 6; have y7 : w4.cell? ⟨(w.heap.size + 1), 7, none⟩ = some (Value.slice A7' subs'.length c7') := cellB (kblk kv hB1) 7)
          | (go_at_call 31; refine (CGb.out _ kv).mono ?_; clear CGb; rintro e w4 ⟨rfl, kv⟩)
          | (go_at_call 32; refine (CW.out _ kv).mono ?_; clear CW; rintro e w5 ⟨rfl, kv⟩; obtain ⟨c1', c2', c3', c4', c5'⟩ := FIN.out _ kv))
        refine ⟨.bool true, ?_, rfl, c5'⟩
        simp [results, Try.f10, go_sem, c4']
      · go_wp2_with (first
          | (go_at_call 31; refine (CGa.out _ kv).mono ?_; clear CGa; rintro e w4 ⟨rfl, kv⟩)
          | (go_at_call 32; refine (CW.out _ kv).mono ?_; clear CW; rintro e w5 ⟨rfl, kv⟩; obtain ⟨c1', c2', c3', c4', c5'⟩ := FIN.out _ kv))
        refine ⟨.bool true, ?_, rfl, c5'⟩
        simp [results, Try.f10, go_sem, c4']
  · have hga1 : ¬ weighP 40 va.n 300 < 0 := fun h => hga (.inl h)
    have hgb1 : ¬ weighP 40 vb.n 300 < 0 := fun h => hga (.inr h)
    obtain ⟨hta, hlena⟩ := Great_no (a := 300) hga1
    obtain ⟨htb, _⟩ := Great_no (a := 300) hgb1
    have hst := hlena 1000 1
    rw [decide_eq_false hga1] at CGa
    rw [decide_eq_false hgb1] at CGb
    have C45 := Lib.hid (fun W (k : Kp [] V0 W) => all_calls va W (ha0.kp k) (by omega))
    have C49 : Hid (∀ W, Calls Try.prog 49 #[va.val] W fun e w' => e = .returned (.func (.func 83) #[] #[.pointer (some ⟨W.heap.size, 0, none⟩)]) ∧ w' = W.alloc (.cells va.cells.toArray 25)) := Lib.hid fun W => callsIn_wide.1 (WI W)
    obtain ⟨NN, hNN⟩ : ∃ NN, NN = va := ⟨_, rfl⟩
    obtain ⟨MM, hMM⟩ : ∃ MM, MM = vb := ⟨_, rfl⟩
    obtain ⟨ss, hss⟩ : ∃ ss, ss = stepsL 1000 1 va.n := ⟨_, rfl⟩
    simp only [← hss] at C45
    have C45 : Hid (∀ W, Kp [] V0 W → Calls Try.prog 45 #[.slice none 0 0, va.val, .int .i64 1] W fun e w' => ∃ (g cap : Nat) (xs : List (Step W)), e = .returned (.slice (some ⟨g, 0, none⟩) ss.length cap) ∧ proj xs = ss ∧ w'.ownsRow W.heap.size 70 9 (.slice (some ⟨g, 0, none⟩) ss.length cap) ss.length (stepCells xs) ∧ Kp [] W w') := Lib.hid fun W k => (C45.out W k).mono fun e w' ⟨u, xs, h, hp, ho, q⟩ => (show ∃ (g cap : Nat) (xs : List (Step W)), e = Ending.returned (.slice (some ⟨g, 0, none⟩) ss.length cap) ∧ proj xs = ss ∧ w'.ownsRow W.heap.size 70 9 (.slice (some ⟨g, 0, none⟩) ss.length cap) ss.length (stepCells xs) ∧ Kp [] W w' from by
      have hxl : xs.length = ss.length := by have := congrArg List.length hp; simpa [proj] using this
      obtain ⟨A, c, rfl, hA⟩ := rowForm ho
      obtain ⟨g, rfl⟩ := hA (by rw [hxl, hss]; simp [stepsL])
      rw [hxl] at h ho
      exact ⟨g, c, xs, h, hp, ho, q⟩)
    rw [← hss] at hst
    have hpos : 0 < ss.length := by rw [hss]; simp [stepsL]
    replace hss := Lib.hid hss
    have HVA := Lib.hid ha0; have HVB := Lib.hid hb0; have HTA := Lib.hid hta; have HTB := Lib.hid htb
    rw [← hNN] at HVA HTA hss
    rw [← hMM] at HVB HTB
    clear hga hga1 hgb1 ha0 hb0 hva hvb hlena hta htb WI
    obtain ⟨⟨kd, set, num, nm, mn, mx, lz, subs⟩, A1, c1, A7, c7⟩ := va
    obtain ⟨⟨kd', set', num', nm', mn', mx', lz', subs'⟩, A1', c1', A7', c7'⟩ := vb
    dsimp only [NV.val, NV.cells] at hV0 hB0 hB1 CGa CGb C45 C49 ⊢
    refine callsIn_of_wp_marks Try.func10 rfl trivial ?_ hro
    simp only [Try.ntmps10, List.size_toArray, List.length_cons, List.length_nil, Nat.reduceAdd, Nat.reduceSub, Array.replicate_succ, Array.replicate_zero, List.push_toArray, List.append_toArray, List.nil_append, List.cons_append]
    refine wpIn_wide.2 ?_
    go_upto_region 1 with fail
    rw [← hV0]
    replace hV0 := Lib.hid hV0
    have z0 : V0.cell? ⟨w.heap.size, 0, none⟩ = some (Value.int .i64 kd) := cellB (hB0) 0; have z1 : V0.cell? ⟨w.heap.size, 1, none⟩ = some (Value.slice A1 set.length c1) := cellB (hB0) 1; have z2 : V0.cell? ⟨w.heap.size, 2, none⟩ = some (Value.int .i64 num) := cellB (hB0) 2; have z3 : V0.cell? ⟨w.heap.size, 3, none⟩ = some (Value.string nm) := cellB (hB0) 3; have z4 : V0.cell? ⟨w.heap.size, 4, none⟩ = some (Value.int .i64 mn) := cellB (hB0) 4; have z5 : V0.cell? ⟨w.heap.size, 5, none⟩ = some (Value.int .i64 mx) := cellB (hB0) 5; have z6 : V0.cell? ⟨w.heap.size, 6, none⟩ = some (Value.bool lz) := cellB (hB0) 6; have z7 : V0.cell? ⟨w.heap.size, 7, none⟩ = some (Value.slice A7 subs.length c7) := cellB (hB0) 7
    have y0 : V0.cell? ⟨(w.heap.size + 1), 0, none⟩ = some (Value.int .i64 kd') := cellB (hB1) 0; have y1 : V0.cell? ⟨(w.heap.size + 1), 1, none⟩ = some (Value.slice A1' set'.length c1') := cellB (hB1) 1; have y2 : V0.cell? ⟨(w.heap.size + 1), 2, none⟩ = some (Value.int .i64 num') := cellB (hB1) 2; have y3 : V0.cell? ⟨(w.heap.size + 1), 3, none⟩ = some (Value.string nm') := cellB (hB1) 3; have y4 : V0.cell? ⟨(w.heap.size + 1), 4, none⟩ = some (Value.int .i64 mn') := cellB (hB1) 4; have y5 : V0.cell? ⟨(w.heap.size + 1), 5, none⟩ = some (Value.int .i64 mx') := cellB (hB1) 5; have y6 : V0.cell? ⟨(w.heap.size + 1), 6, none⟩ = some (Value.bool lz') := cellB (hB1) 6; have y7 : V0.cell? ⟨(w.heap.size + 1), 7, none⟩ = some (Value.slice A7' subs'.length c7') := cellB (hB1) 7
    have hBl0 := ltB hB0; have hBl1 := ltB hB1; have hBl2 := ltB hB2; have hBl3 := ltB hB3
    go_wp2_with (first
      | (go_at_call 31; refine (CGa.out _ kv).mono ?_; clear CGa; rintro e w4 ⟨rfl, kv⟩; have y0 : w4.cell? ⟨(w.heap.size + 1), 0, none⟩ = some (Value.int .i64 kd') := cellB (kblk kv hB1) 0; have y1 : w4.cell? ⟨(w.heap.size + 1), 1, none⟩ = some (Value.slice A1' set'.length c1') := cellB (kblk kv hB1) 1; have y2 : w4.cell? ⟨(w.heap.size + 1), 2, none⟩ = some (Value.int .i64 num') := cellB (kblk kv hB1) 2; have y3 : w4.cell? ⟨(w.heap.size + 1), 3, none⟩ = some (Value.string nm') := cellB (kblk kv hB1) 3; have y4 : w4.cell? ⟨(w.heap.size + 1), 4, none⟩ = some (Value.int .i64 mn') := cellB (kblk kv hB1) 4; have y5 : w4.cell? ⟨(w.heap.size + 1), 5, none⟩ = some (Value.int .i64 mx') := cellB (kblk kv hB1) 5; have y6 : w4.cell? ⟨(w.heap.size + 1), 6, none⟩ = some (Value.bool lz') := cellB (kblk kv hB1) 6; have y7 : w4.cell? ⟨(w.heap.size + 1), 7, none⟩ = some (Value.slice A7' subs'.length c7') := cellB (kblk kv hB1) 7)
      | (go_at_call 31; refine (CGb.out _ kv).mono ?_; clear CGb; rintro e w4 ⟨rfl, kv⟩; have z0 : w4.cell? ⟨w.heap.size, 0, none⟩ = some (Value.int .i64 kd) := cellB (kblk kv hB0) 0; have z1 : w4.cell? ⟨w.heap.size, 1, none⟩ = some (Value.slice A1 set.length c1) := cellB (kblk kv hB0) 1; have z2 : w4.cell? ⟨w.heap.size, 2, none⟩ = some (Value.int .i64 num) := cellB (kblk kv hB0) 2; have z3 : w4.cell? ⟨w.heap.size, 3, none⟩ = some (Value.string nm) := cellB (kblk kv hB0) 3; have z4 : w4.cell? ⟨w.heap.size, 4, none⟩ = some (Value.int .i64 mn) := cellB (kblk kv hB0) 4; have z5 : w4.cell? ⟨w.heap.size, 5, none⟩ = some (Value.int .i64 mx) := cellB (kblk kv hB0) 5; have z6 : w4.cell? ⟨w.heap.size, 6, none⟩ = some (Value.bool lz) := cellB (kblk kv hB0) 6; have z7 : w4.cell? ⟨w.heap.size, 7, none⟩ = some (Value.slice A7 subs.length c7) := cellB (kblk kv hB0) 7)
      | (go_at_call 45; refine (C45.out _ kv).mono ?_; clear C45; rintro e W2 ⟨g, cap, xs, rfl, hp, ho, k2⟩; have kv2 := kv.trans k2; have z0 : W2.cell? ⟨w.heap.size, 0, none⟩ = some (Value.int .i64 kd) := cellB (kblk kv2 hB0) 0; have z1 : W2.cell? ⟨w.heap.size, 1, none⟩ = some (Value.slice A1 set.length c1) := cellB (kblk kv2 hB0) 1; have z2 : W2.cell? ⟨w.heap.size, 2, none⟩ = some (Value.int .i64 num) := cellB (kblk kv2 hB0) 2; have z3 : W2.cell? ⟨w.heap.size, 3, none⟩ = some (Value.string nm) := cellB (kblk kv2 hB0) 3; have z4 : W2.cell? ⟨w.heap.size, 4, none⟩ = some (Value.int .i64 mn) := cellB (kblk kv2 hB0) 4; have z5 : W2.cell? ⟨w.heap.size, 5, none⟩ = some (Value.int .i64 mx) := cellB (kblk kv2 hB0) 5; have z6 : W2.cell? ⟨w.heap.size, 6, none⟩ = some (Value.bool lz) := cellB (kblk kv2 hB0) 6; have z7 : W2.cell? ⟨w.heap.size, 7, none⟩ = some (Value.slice A7 subs.length c7) := cellB (kblk kv2 hB0) 7; have m1 := Nat.lt_of_lt_of_le hBl0 kv2.size; have m2 := Nat.lt_of_lt_of_le hBl0 (Nat.le_succ_of_le kv2.size))
      | (go_at_call 49; refine (C49.out _).mono ?_; clear C49; rintro e w' ⟨rfl, rfl⟩))
    obtain ⟨M, hM⟩ : ∃ M, M = W2.heap.size := ⟨_, rfl⟩
    obtain ⟨W4, hW4⟩ : ∃ W4, W4 = (W2.alloc (.cells #[.slice (some ⟨g, 0, none⟩) ss.length cap] 61)).alloc (.cells NN.cells.toArray 25) := ⟨_, rfl⟩
    obtain ⟨W5, hW5⟩ : ∃ W5, W5 = W4.alloc (.cells #[.int .i64 0] 3) := ⟨_, rfl⟩
    have eN : NN.cells.toArray = #[.int .i64 kd, .slice A1 set.length c1, .int .i64 num, .string nm, .int .i64 mn, .int .i64 mx, .bool lz, .slice A7 subs.length c7] := by rw [hNN]; rfl
    have e5 : ((W2.alloc (.cells #[.slice (some ⟨g, 0, none⟩) ss.length cap] 61)).alloc (.cells #[.int .i64 kd, .slice A1 set.length c1, .int .i64 num, .string nm, .int .i64 mn, .int .i64 mx, .bool lz, .slice A7 subs.length c7] 25)).alloc (.cells #[.int .i64 0] 3) = W5 := by rw [hW5, hW4, eN]
    rw [e5, ← hM]
    have hs4 : W4.heap.size = M + 2 := by rw [hW4]; simp [hM]
    have hs5 : W5.heap.size = M + 3 := by rw [hW5]; simp [hs4]
    have k24 : Kp [] W2 W4 := by rw [hW4]; exact ((Kp.refl [] W2).alloc _).alloc _
    have k45 : Kp [] W4 W5 := by rw [hW5]; exact (Kp.refl [] W4).alloc _
    have kv4 := kv2.trans k24
    have hM0 : V0.heap.size ≤ M := by rw [hM]; exact kv2.size
    have hBt : W5.heap[M + 1]? = some (.cells NN.cells.toArray 25 (0, 0)) := by
      refine kblk k45 ?_
      rw [hW4]; exact new_at _ _ _ (by simp [hM])
    have hB7 : W4.heap[M]? = some (.cells #[.slice (some ⟨g, 0, none⟩) ss.length cap] 61 (0, 0)) := by rw [hW4, hM]; exact (Below.heap_alloc _ _ _ (by simp)).trans (heap_alloc_new _ _)
    have b9 : Boxed W5 (M + 1 + 1) 3 (.int .i64 0) := by
      rw [hW5]; have := Boxed.new W4 3 (.int .i64 0); rwa [hs4] at this
    have HS : SeqStopsK Fence.wide (n - 1) Try.prog 83 #[.pointer (some ⟨M + 1, 0, none⟩)] (Step.vals (w := V0)) (Kn V0.heap.size) (fun xs => proj xs = ss) (fun q => proj q <+: ss) ss.length W5 := by
      have := walk_stops (n - 1) V0 W5 (kv4.trans k45).bel ⟨NN, HVA.out⟩ (M + 1) hBt
      rw [← hss.out] at this
      exact this
    have hxl : xs.length = ss.length := by have := congrArg List.length hp; simpa [proj] using this
    have hcell : ∀ j (hj : j < xs.length) i u, (.int .i64 xs[j].1 :: xs[j].2.1.cells)[i]? = some u → W2.cell? ⟨g, j * 9 + i, none⟩ = some u := by
      intro j hj i u hu
      have hi : i < 9 := (List.getElem?_eq_some_iff.1 hu).1
      rw [ho.cellAt (j * 9 + i) (by omega)]
      exact stepCell xs j hj i u hu
    have hglt : g < W2.heap.size := (ho.lt g rfl).2
    have hsg : ∀ j (hj : j < xs.length), ss[j]'(by omega) = (xs[j].1, xs[j].2.1.n) := by
      intro j hj
      have : ss = proj xs := hp.symm
      subst this
      simp [proj]
    have HC := Lib.hid hcell; have HG := Lib.hid hsg; have H7 := Lib.hid hB7; have HO := Lib.hid ho
    clear hcell hsg hB7 ho hp e5 hW5 hW4
    replace hM := Lib.hid hM
    replace eN := Lib.hid eN
    try clear m1 m2
    try clear z0 z1 z2 z3 z4 z5 z6 z7 y0 y1 y2 y3 y4 y5 y6 y7
    try clear z0 z1 z2 z3 z4 z5 z6 z7 y0 y1 y2 y3 y4 y5 y6 y7
    try clear z0 z1 z2 z3 z4 z5 z6 z7 y0 y1 y2 y3 y4 y5 y6 y7
    try clear z0 z1 z2 z3 z4 z5 z6 z7 y0 y1 y2 y3 y4 y5 y6 y7
    try clear z0 z1 z2 z3 z4 z5 z6 z7 y0 y1 y2 y3 y4 y5 y6 y7
    try clear z0 z1 z2 z3 z4 z5 z6 z7 y0 y1 y2 y3 y4 y5 y6 y7
    try clear z0
    try clear z1
    try clear z2
    try clear z3
    try clear z4
    try clear z5
    try clear z6
    try clear z7
    try clear y0
    try clear y1
    try clear y2
    try clear y3
    try clear y4
    try clear y5
    try clear y6
    try clear y7
    try clear z0
    try clear z1
    try clear z2
    try clear z3
    try clear z4
    try clear z5
    try clear z6
    try clear z7
    try clear y0
    try clear y1
    try clear y2
    try clear y3
    try clear y4
    try clear y5
    try clear y6
    try clear y7
    try clear z0
    try clear z1
    try clear z2
    try clear z3
    try clear z4
    try clear z5
    try clear z6
    try clear z7
    try clear y0
    try clear y1
    try clear y2
    try clear y3
    try clear y4
    try clear y5
    try clear y6
    try clear y7
    refine (wpIn_wide (n := n)).1 ?_
    refine wpIn_rangeFunc_ownH hro h1 (gf := 83) (lb := #[.pointer (some ⟨M + 1, 0, none⟩)]) rfl trivial (enters_of Try.func83 (by kernel_rfl) rfl)
      HS Kn.trans (Kn.putObj (by omega)) (Below.refl _ _) (fun _ => rfl)
      (TwI V0 W4 M most ss)
      (TwX V0 W4 M most ss)
      (fun pre X Y row hs hg hr => by
        obtain ⟨⟨h1, h2, h3⟩, hb⟩ := hs
        exact ⟨⟨boxed_own _ _ (fun (_ : Unit) => Value.int .i64 (pre.length : Int)) () X Y row h1 hg (fun r e => (hr r e).2), h2, h3⟩, ownFrom_below (β := List (Step V0)) (Nat.le_refl _) (by omega) pre X Y row hb hg hr⟩)
      (fun c q X Y row hs hg hr => by
        rcases hs with ⟨e, ⟨k, h1, h2, h3, h4⟩, hb⟩ | h
        · exact .inl ⟨e, ⟨k, h1, h2, h3, boxed_own _ _ (fun (_ : Unit) => Value.int .i64 (k : Int)) () X Y row h4 hg (fun r e => (hr r e).2)⟩, ownFrom_below (β := List (Step V0)) (Nat.le_refl _) (by omega) q X Y row hb hg hr⟩
        · exact .inr h)
      ⟨⟨b9, .inl rfl, List.nil_prefix⟩, k45.bel⟩
      (fun x a' W => ∃ Bx, M + 1 + 1 < Bx ∧ W.heap[Bx]? = some (.cells x.2.1.cells.toArray 25 (0, 0)) ∧ a' = { tmps := #[.agg #[.int .i64 kd, .slice A1 set.length c1, .int .i64 num, .string nm, .int .i64 mn, .int .i64 mx, .bool lz, .slice A7 subs.length c7], .agg #[.int .i64 kd', .slice A1' set'.length c1', .int .i64 num', .string nm', .int .i64 mn', .int .i64 mx', .bool lz', .slice A7' subs'.length c7'], .int .i64 most, .pointer (some ⟨w.heap.size, 0, none⟩), .pointer (some ⟨w.heap.size + 1, 0, none⟩), .pointer (some ⟨w.heap.size + 1 + 1, 0, none⟩), .pointer (some ⟨w.heap.size + 1 + 1 + 1, 0, none⟩), .pointer (some ⟨M, 0, none⟩), .func (.func 83) #[] #[.pointer (some ⟨M + 1, 0, none⟩)], .pointer (some ⟨M + 1 + 1, 0, none⟩), .int .i64 x.1, .pointer (some ⟨Bx, 0, none⟩), .agg #[.int .i64 kd, .slice A1 set.length c1, .int .i64 num, .string nm, .int .i64 mn, .int .i64 mx, .bool lz, .slice A7 subs.length c7], .bool false, .bool false, .agg #[.int .i64 kd', .slice A1' set'.length c1', .int .i64 num', .string nm', .int .i64 mn', .int .i64 mx', .bool lz', .slice A7' subs'.length c7'], .bool false, .bool false, undef, .agg #[.int .i64 kd, .slice A1 set.length c1, .int .i64 num, .string nm, .int .i64 mn, .int .i64 mx, .bool lz, .slice A7 subs.length c7], .slice (some ⟨g, 0, none⟩) ss.length cap, .agg #[.int .i64 kd, .slice A1 set.length c1, .int .i64 num, .string nm, .int .i64 mn, .int .i64 mx, .bool lz, .slice A7 subs.length c7], .func (.func 83) #[] #[.pointer (some ⟨M + 1, 0, none⟩)], .func (.func 83) #[] #[.pointer (some ⟨M + 1, 0, none⟩)], .bool false, .func (.func 83) #[] #[.pointer (some ⟨M + 1, 0, none⟩)], .int .i64 x.1, x.2.1.val, undef, undef, undef, undef, undef, undef, undef, undef, undef, undef, undef, undef, undef, undef, undef, undef, undef, undef, undef, undef, undef, undef, undef, undef, undef, undef, undef, undef, undef, undef, undef, undef, undef, undef, undef, undef, undef, undef, undef, undef, undef, undef, undef, undef, undef, undef, undef, undef, undef, undef, undef, undef], defers := [] })
      (fun x a' _ X Y row hs hg hr => by obtain ⟨Bx, h1, h2, h3⟩ := hs; exact ⟨Bx, h1, box_own Bx _ rfl () X Y row h2 hg (fun r e => (hr r e).2), h3⟩)
      ?assign ?body ?done ?stop
    case assign =>
      rintro l pre x W K ⟨⟨hb9, hpre⟩, hB⟩ hK
      have hBs := hB.size
      obtain ⟨dp, ⟨⟨⟨kd2, set2, num2, nm2, mn2, mx2, lz2, subs2⟩, A12, c12, A72, c72⟩, hvx⟩⟩ := x
      dsimp only [Step.vals, NV.val, NV.cells] at hK ⊢
      simp only [List.zip_toArray, List.zip_cons_cons, List.zip_nil_left, List.zip_nil_right, List.foldl_toArray', List.foldl_toArray, List.foldl_cons, List.foldl_nil, List.setIfInBounds_toArray, List.set_cons_succ, List.set_cons_zero, List.size_toArray]
      gi_wp2
      exact hK _ _ ((KeepsOthers.alloc _ _).from _) ((Kn.refl _ W).alloc (by omega) _) ⟨⟨hb9.alloc _, hpre⟩, hB.alloc hB.size _⟩ ⟨W.heap.size, hb9.lt, new_at _ _ _ rfl, rfl⟩
    case body =>
      rintro l pre x a' W hl ⟨r, hr⟩ ⟨⟨hb9, hpre0, hpre⟩, hB⟩ ⟨Bx, hBx, bX, rfl⟩ hlen
      have hc := hb9.cell
      have kw := kv4.trans (Kp.ofBelow hB)
      have hBs := hB.size
      have hext : proj (pre ++ [x]) <+: ss ↔ ss[pre.length] = (x.1, x.2.1.n) := by
        have hpl : (proj pre).length = pre.length := by simp [proj]
        have h := pre_ext (y := (x.1, x.2.1.n)) hpre (by rw [hpl]; exact hlen)
        rw [show proj (pre ++ [x]) = proj pre ++ [(x.1, x.2.1.n)] by simp [proj]]
        simp only [hpl] at h
        exact h
      clear hc
      obtain ⟨q, hq⟩ : ∃ q, pre.length = q := ⟨_, rfl⟩
      have HQ := Lib.hid hq.symm
      simp only [hq] at hb9 hpre0 hlen hext
      have hc := hb9.cell
      obtain ⟨y, hy⟩ : ∃ y, y = xs[q]'(by omega) := ⟨_, rfl⟩
      have hsy : ss[q] = (y.1, y.2.1.n) := by rw [hy]; exact HG.out _ (by omega)
      rw [hsy] at hext
      have okx := x.2.2.kp kw
      have oky := y.2.2.kp ((k2.trans k24).trans (Kp.ofBelow hB))
      have hthy : Thin 40 y.2.1.n := by
        have := thin_steps2 40 NN.n HTA.out 1000 1 (y.1, y.2.1.n) (by rw [← hss.out, ← hsy]; exact List.getElem_mem _)
        exact this
      have C50 := fun (W' : World) (k : Kp [] W W') => (samenode2_calls x.2.1 y.2.1 W' (okx.kp k) (oky.kp k) hthy).mono fun e w' ⟨h, p⟩ => (⟨h, k.trans p⟩ : _ ∧ Kp [] W w')
      have cy : ∀ i u, (.int .i64 y.1 :: y.2.1.cells)[i]? = some u → W.cell? ⟨g, q * 9 + i, none⟩ = some u := by
        intro i u hu
        have h1 := HC.out q (by omega) i u (by rw [← hy]; exact hu)
        exact kcell (k24.trans (Kp.ofBelow hB)) h1
      have hgW : g < W.heap.size := Nat.lt_of_lt_of_le hglt (k24.trans (Kp.ofBelow hB)).size
      have y7 : W.cell? ⟨M, 0, none⟩ = some (.slice (some ⟨g, 0, none⟩) ss.length cap) := kcell (Kp.ofBelow hB) (cellB H7.out 0)
      have y5 : W.cell? ⟨w.heap.size + 1 + 1, 0, none⟩ = some (.int .i64 most) := kcell kw (cellB hB2 0)
      have y6 : W.cell? ⟨w.heap.size + 1 + 1 + 1, 0, none⟩ = some (.bool false) := kcell kw (cellB hB3 0)
      have f6 : W.frozen? ⟨w.heap.size + 1 + 1 + 1, 0, none⟩ = false := frozB (kblk kw hB3) 0
      have hs9 := hb9.lt
      replace HPRE := Lib.hid hpre; replace HEXT := Lib.hid hext
      clear hy hsy hpre hext okx oky hthy
      obtain ⟨dx, ⟨⟨⟨kd2, set2, num2, nm2, mn2, mx2, lz2, subs2⟩, A12, c12, A72, c72⟩, hvx⟩⟩ := x
      obtain ⟨dy, ⟨⟨⟨kd3, set3, num3, nm3, mn3, mx3, lz3, subs3⟩, A13, c13, A73, c73⟩, hvy⟩⟩ := y
      dsimp only [NV.val, NV.cells] at bX C50 cy ⊢
      have x0 := cellB bX 0; have x1 := cellB bX 1; have x2 := cellB bX 2; have x3 := cellB bX 3; have x4 := cellB bX 4; have x5 := cellB bX 5; have x6 := cellB bX 6; have x7 := cellB bX 7
      simp at x0 x1 x2 x3 x4 x5 x6 x7
      have v0 := cy 0 _ rfl; have v1 := cy 1 _ rfl; have v2 := cy 2 _ rfl; have v3 := cy 3 _ rfl; have v4 := cy 4 _ rfl; have v5 := cy 5 _ rfl; have v6 := cy 6 _ rfl; have v7 := cy 7 _ rfl; have v8 := cy 8 _ rfl
      simp only [Nat.add_zero] at v0
      have hbxl := ltB bX
      replace bX := Lib.hid bX
      clear cy
      by_cases hm : most ≤ (q : Int)
      · have dm : decide (most ≤ (q : Int)) = true := decide_eq_true hm
        gi_wp2
        exact ⟨KeepsFrom.refl _ _, .inl ⟨rfl, ⟨q, by simp; exact HQ.out.symm, hm, hpre0, hb9⟩, hB⟩⟩
      · have dm : decide (most ≤ (q : Int)) = false := decide_eq_false hm
        have dl : decide ((ss.length : Int) ≤ (q : Int)) = false := decide_eq_false (by omega)
        have dlN : decide (ss.length ≤ q) = false := decide_eq_false (by omega)
        have wq : IntKind.i64.wrap ((q : Int) + 1) = (q : Int) + 1 := IntWalk.i64_in _ (by omega)
        have hpl1 : (pre.length : Int) = (q : Int) := by rw [HQ.out]
        have hq0 : (0 : Int) ≤ (q : Int) := by omega
        have hql : (q : Int) < (ss.length : Int) := by omega
        have hpre1 : (q : Int) + 1 ≤ most := by omega
        replace hs0 := Lib.hid hs0; replace hs4 := Lib.hid hs4; replace hs5 := Lib.hid hs5; replace hpl1 := Lib.hid hpl1
        obtain ⟨r5, hr5⟩ : ∃ r5, r5 = eqB (⟨kd2, set2, num2, nm2, mn2, mx2, lz2, subs2⟩ : S25) ⟨kd3, set3, num3, nm3, mn3, mx3, lz3, subs3⟩ := ⟨_, rfl⟩
        simp only [← hr5] at C50
        have KBX : Hid (∀ W', Kp [] W W' → Boxed W' (M + 1 + 1) 3 (.int .i64 (q : Int))) := Lib.hid fun W' k => kblk k hb9
        replace hr5 := Lib.hid hr5
        try dsimp only at C50
        replace C50 := Lib.hid C50
        have RET : ¬ ((dy, (⟨kd3, set3, num3, nm3, mn3, mx3, lz3, subs3⟩ : S25)) = (dx, ⟨kd2, set2, num2, nm2, mn2, mx2, lz2, subs2⟩)) → ∀ W', TwX V0 W4 M most ss .ret (pre ++ [(dx, ⟨⟨⟨kd2, set2, num2, nm2, mn2, mx2, lz2, subs2⟩, A12, c12, A72, c72⟩, hvx⟩)]) W' := fun h W' => .inr ⟨rfl, fun hp => h (HEXT.out.1 hp)⟩
        have GO : ((dy, (⟨kd3, set3, num3, nm3, mn3, mx3, lz3, subs3⟩ : S25)) = (dx, ⟨kd2, set2, num2, nm2, mn2, mx2, lz2, subs2⟩)) → ∀ W', Boxed W' (M + 1 + 1) 3 (.int .i64 ((q : Int) + 1)) → Below W4.heap.size W4 W' → TwI V0 W4 M most ss (pre ++ [(dx, ⟨⟨⟨kd2, set2, num2, nm2, mn2, mx2, lz2, subs2⟩, A12, c12, A72, c72⟩, hvx⟩)]) W' := fun h W' h1 h2 => by
          have e : ((pre ++ [(dx, (⟨⟨⟨kd2, set2, num2, nm2, mn2, mx2, lz2, subs2⟩, A12, c12, A72, c72⟩, hvx⟩ : NVok V0))]).length : Int) = (q : Int) + 1 := by rw [List.length_append, HQ.out]; simp
          exact ⟨⟨by rw [e]; exact h1, .inr (by rw [e]; exact hpre1), HEXT.out.2 h⟩, h2⟩
        replace RET := Lib.hid RET; replace GO := Lib.hid GO
        have KB := Lib.hid kw
        have HB3 := Lib.hid hB3
        by_cases hd : dx = dy
        · have bd : (dx != dy) = false := nebF hd
          subst hd
          cases r5 with
          | true =>
            have EQ := Lib.hid (eqB_iff.1 hr5.out.symm)
            gi_wp2
            refine region_round (by kernel_rfl) (by kernel_rfl) (S := (fun (w' : World) => Kp [] W w' ∧ w'.cell? ⟨M + 1 + 1, 0, none⟩ = some (.int .i64 (q : Int)) ∧ w'.cell? ⟨M, 0, none⟩ = some (.slice (some ⟨g, 0, none⟩) ss.length cap) ∧ w'.cell? ⟨g, q * 9, none⟩ = some (.int .i64 dx) ∧ w'.cell? ⟨g, q * 9 + 1, none⟩ = some (.int .i64 kd3) ∧ w'.cell? ⟨g, q * 9 + 2, none⟩ = some (.slice A13 set3.length c13) ∧ w'.cell? ⟨g, q * 9 + 3, none⟩ = some (.int .i64 num3) ∧ w'.cell? ⟨g, q * 9 + 4, none⟩ = some (.string nm3) ∧ w'.cell? ⟨g, q * 9 + 5, none⟩ = some (.int .i64 mn3) ∧ w'.cell? ⟨g, q * 9 + 6, none⟩ = some (.int .i64 mx3) ∧ w'.cell? ⟨g, q * 9 + 7, none⟩ = some (.bool lz3) ∧ w'.cell? ⟨g, q * 9 + 8, none⟩ = some (.slice A73 subs3.length c73) ∧ w'.cell? ⟨Bx, 0, none⟩ = some (.int .i64 kd2) ∧ w'.cell? ⟨Bx, 1, none⟩ = some (.slice A12 set2.length c12) ∧ w'.cell? ⟨Bx, 2, none⟩ = some (.int .i64 num2) ∧ w'.cell? ⟨Bx, 3, none⟩ = some (.string nm2) ∧ w'.cell? ⟨Bx, 4, none⟩ = some (.int .i64 mn2) ∧ w'.cell? ⟨Bx, 5, none⟩ = some (.int .i64 mx2) ∧ w'.cell? ⟨Bx, 6, none⟩ = some (.bool lz2) ∧ w'.cell? ⟨Bx, 7, none⟩ = some (.slice A72 subs2.length c72))) ?_ (fun hHeld => ?_)
            · exact ⟨(Kp.refl [] W).drew, hc, y7, v0, v1, v2, v3, v4, v5, v6, v7, v8, x0, x1, x2, x3, x4, x5, x6, x7⟩
            refine wpAnyH_take (i := 0) (oi := ({ dst := some 31, op := Go.Op.load 3 (Go.Operand.tmp 9), type := 3, pos := "law.go:45", after := #[], guard := none } : Oper)) (v := ?vt0) rfl (by kernel_rfl) (by kernel_rfl) (by kernel_rfl) (fun _ _ _ h => h) (Or.inl ⟨by rfl, ?hyt0⟩) hHeld ?rt0
            case hyt0 => (intro w hSw; (try dsimp only at hSw); go_simp; (try with_reducible rfl))
            try simp only [Act.put, List.setIfInBounds_toArray, List.set_cons_zero, List.set_cons_succ]
            refine wpAnyH_take (i := 1) (oi := ({ dst := some 32, op := Go.Op.load 61 (Go.Operand.tmp 7), type := 61, pos := "law.go:45", after := #[], guard := none } : Oper)) (v := ?vt1) rfl (by kernel_rfl) (by kernel_rfl) (by kernel_rfl) (fun _ _ _ h => h) (Or.inl ⟨by rfl, ?hyt1⟩) hHeld ?rt1
            case hyt1 => (intro w hSw; (try dsimp only at hSw); go_simp; (try with_reducible rfl))
            try simp only [Act.put, List.setIfInBounds_toArray, List.set_cons_zero, List.set_cons_succ]
            refine wpAnyH_take (i := 2) (oi := ({ dst := some 33, op := Go.Op.call { callee := Go.Callee.builtin Go.Builtin.len, args := #[Go.Operand.tmp 32], argTypes := #[61] }, type := 3, pos := "law.go:45", after := #[{ on := 1, ground := Go.Ground.data }], guard := none } : Oper)) (v := ?vt2) rfl (by kernel_rfl) (by kernel_rfl) (by kernel_rfl) (fun _ _ _ h => h) (Or.inl ⟨by rfl, ?hyt2⟩) hHeld ?rt2
            case hyt2 => (intro w hSw; (try dsimp only at hSw); go_simp; (try with_reducible rfl))
            try simp only [Act.put, List.setIfInBounds_toArray, List.set_cons_zero, List.set_cons_succ]
            refine wpAnyH_take (i := 3) (oi := ({ dst := some 34, op := Go.Op.binOp Go.BinOp.geq 3 (Go.Operand.tmp 31) (Go.Operand.tmp 33) 3, type := 4, pos := "law.go:45", after := #[{ on := 0, ground := Go.Ground.data }, { on := 2, ground := Go.Ground.data }], guard := none } : Oper)) (v := ?vt3) rfl (by kernel_rfl) (by kernel_rfl) (by kernel_rfl) (fun _ _ _ h => h) (Or.inl ⟨by rfl, ?hyt3⟩) hHeld ?rt3
            case hyt3 => (intro w hSw; (try dsimp only at hSw); go_simp; (try with_reducible rfl))
            try simp only [Act.put, List.setIfInBounds_toArray, List.set_cons_zero, List.set_cons_succ]
            refine wpAnyH_take (i := 4) (oi := ({ dst := some 35, op := Go.Op.move (Go.Operand.tmp 34), type := 4, pos := "law.go:45", after := #[{ on := 3, ground := Go.Ground.data }], guard := none } : Oper)) (v := ?vt4) rfl (by kernel_rfl) (by kernel_rfl) (by kernel_rfl) (fun _ _ _ h => h) (Or.inl ⟨by rfl, ?hyt4⟩) hHeld ?rt4
            case hyt4 => (intro w hSw; (try dsimp only at hSw); go_simp; (try with_reducible rfl))
            try simp only [Act.put, List.setIfInBounds_toArray, List.set_cons_zero, List.set_cons_succ]
            refine wpAnyH_take (i := 5) (oi := ({ dst := some 36, op := Go.Op.move (Go.Operand.tmp 10), type := 3, pos := "law.go:45", after := #[{ on := 4, ground := Go.Ground.guard }], guard := some (4, false) } : Oper)) (v := ?vt5) rfl (by kernel_rfl) (by kernel_rfl) (by kernel_rfl) (fun _ _ _ h => h) (Or.inl ⟨by rfl, ?hyt5⟩) hHeld ?rt5
            case hyt5 => (intro w hSw; (try dsimp only at hSw); go_simp; (try with_reducible rfl))
            try simp only [Act.put, List.setIfInBounds_toArray, List.set_cons_zero, List.set_cons_succ]
            refine wpAnyH_take (i := 6) (oi := ({ dst := some 37, op := Go.Op.load 61 (Go.Operand.tmp 7), type := 61, pos := "law.go:45", after := #[{ on := 4, ground := Go.Ground.guard }], guard := some (4, false) } : Oper)) (v := ?vt6) rfl (by kernel_rfl) (by kernel_rfl) (by kernel_rfl) (fun _ _ _ h => h) (Or.inl ⟨by rfl, ?hyt6⟩) hHeld ?rt6
            case hyt6 => (intro w hSw; (try dsimp only at hSw); go_simp; (try with_reducible rfl))
            try simp only [Act.put, List.setIfInBounds_toArray, List.set_cons_zero, List.set_cons_succ]
            refine wpAnyH_take (i := 7) (oi := ({ dst := some 38, op := Go.Op.load 3 (Go.Operand.tmp 9), type := 3, pos := "law.go:45", after := #[{ on := 4, ground := Go.Ground.guard }], guard := some (4, false) } : Oper)) (v := ?vt7) rfl (by kernel_rfl) (by kernel_rfl) (by kernel_rfl) (fun _ _ _ h => h) (Or.inl ⟨by rfl, ?hyt7⟩) hHeld ?rt7
            case hyt7 => (intro w hSw; (try dsimp only at hSw); go_simp; (try with_reducible rfl))
            try simp only [Act.put, List.setIfInBounds_toArray, List.set_cons_zero, List.set_cons_succ]
            refine wpAnyH_take (i := 8) (oi := ({ dst := some 39, op := Go.Op.indexAddr 61 (Go.Operand.tmp 37) (Go.Operand.tmp 38), type := 0, pos := "law.go:45", after := #[{ on := 6, ground := Go.Ground.data }, { on := 7, ground := Go.Ground.data }, { on := 4, ground := Go.Ground.guard }], guard := some (4, false) } : Oper)) (v := ?vt8) rfl (by kernel_rfl) (by kernel_rfl) (by kernel_rfl) (fun _ _ _ h => h) (Or.inl ⟨by rfl, ?hyt8⟩) hHeld ?rt8
            case hyt8 => (intro w hSw; (try dsimp only at hSw); go_simp; (try with_reducible rfl))
            try simp only [Act.put, List.setIfInBounds_toArray, List.set_cons_zero, List.set_cons_succ]
            refine wpAnyH_take (i := 9) (oi := ({ dst := some 40, op := Go.Op.fieldAddr 70 (Go.Operand.tmp 39) 0, type := 0, pos := "law.go:45", after := #[{ on := 8, ground := Go.Ground.data }, { on := 4, ground := Go.Ground.guard }], guard := some (4, false) } : Oper)) (v := ?vt9) rfl (by kernel_rfl) (by kernel_rfl) (by kernel_rfl) (fun _ _ _ h => h) (Or.inl ⟨by rfl, ?hyt9⟩) hHeld ?rt9
            case hyt9 => (intro w hSw; (try dsimp only at hSw); go_simp; (try with_reducible rfl))
            try simp only [Act.put, List.setIfInBounds_toArray, List.set_cons_zero, List.set_cons_succ]
            refine wpAnyH_take (i := 10) (oi := ({ dst := some 41, op := Go.Op.load 3 (Go.Operand.tmp 40), type := 3, pos := "law.go:45", after := #[{ on := 9, ground := Go.Ground.data }, { on := 4, ground := Go.Ground.guard }], guard := some (4, false) } : Oper)) (v := ?vt10) rfl (by kernel_rfl) (by kernel_rfl) (by kernel_rfl) (fun _ _ _ h => h) (Or.inl ⟨by rfl, ?hyt10⟩) hHeld ?rt10
            case hyt10 => (intro w hSw; (try dsimp only at hSw); go_simp; (try with_reducible rfl))
            try simp only [Act.put, List.setIfInBounds_toArray, List.set_cons_zero, List.set_cons_succ]
            refine wpAnyH_take (i := 11) (oi := ({ dst := some 42, op := Go.Op.binOp Go.BinOp.neq 3 (Go.Operand.tmp 36) (Go.Operand.tmp 41) 3, type := 4, pos := "law.go:45", after := #[{ on := 5, ground := Go.Ground.data }, { on := 10, ground := Go.Ground.data }, { on := 4, ground := Go.Ground.guard }], guard := some (4, false) } : Oper)) (v := ?vt11) rfl (by kernel_rfl) (by kernel_rfl) (by kernel_rfl) (fun _ _ _ h => h) (Or.inl ⟨by rfl, ?hyt11⟩) hHeld ?rt11
            case hyt11 => (intro w hSw; (try dsimp only at hSw); go_simp; (try with_reducible rfl))
            try simp only [Act.put, List.setIfInBounds_toArray, List.set_cons_zero, List.set_cons_succ]
            refine wpAnyH_take (i := 12) (oi := ({ dst := some 43, op := Go.Op.pick (Go.Operand.tmp 35) (Go.Operand.const (Go.Value.bool true)) (Go.Operand.tmp 42), type := 4, pos := "law.go:45", after := #[{ on := 4, ground := Go.Ground.data }, { on := 11, ground := Go.Ground.data }], guard := none } : Oper)) (v := ?vt12) rfl (by kernel_rfl) (by kernel_rfl) (by kernel_rfl) (fun _ _ _ h => h) (Or.inl ⟨by rfl, ?hyt12⟩) hHeld ?rt12
            case hyt12 => (intro w hSw; (try dsimp only at hSw); go_simp; (try with_reducible rfl))
            try simp only [Act.put, List.setIfInBounds_toArray, List.set_cons_zero, List.set_cons_succ]
            refine wpAnyH_take (i := 13) (oi := ({ dst := some 44, op := Go.Op.move (Go.Operand.tmp 43), type := 4, pos := "law.go:45", after := #[{ on := 12, ground := Go.Ground.data }, { on := 4, ground := Go.Ground.chain }], guard := none } : Oper)) (v := ?vt13) rfl (by kernel_rfl) (by kernel_rfl) (by kernel_rfl) (fun _ _ _ h => h) (Or.inl ⟨by rfl, ?hyt13⟩) hHeld ?rt13
            case hyt13 => (intro w hSw; (try dsimp only at hSw); go_simp; (try with_reducible rfl))
            try simp only [Act.put, List.setIfInBounds_toArray, List.set_cons_zero, List.set_cons_succ]
            refine wpAnyH_take (i := 14) (oi := ({ dst := some 45, op := Go.Op.load 25 (Go.Operand.tmp 11), type := 25, pos := "law.go:45", after := #[{ on := 13, ground := Go.Ground.guard }], guard := some (13, false) } : Oper)) (v := ?vt14) rfl (by kernel_rfl) (by kernel_rfl) (by kernel_rfl) (fun _ _ _ h => h) (Or.inl ⟨by rfl, ?hyt14⟩) hHeld ?rt14
            case hyt14 => (intro w hSw; (try dsimp only at hSw); go_simp; (try with_reducible rfl))
            try simp only [Act.put, List.setIfInBounds_toArray, List.set_cons_zero, List.set_cons_succ]
            refine wpAnyH_take (i := 15) (oi := ({ dst := some 46, op := Go.Op.load 61 (Go.Operand.tmp 7), type := 61, pos := "law.go:45", after := #[{ on := 13, ground := Go.Ground.guard }], guard := some (13, false) } : Oper)) (v := ?vt15) rfl (by kernel_rfl) (by kernel_rfl) (by kernel_rfl) (fun _ _ _ h => h) (Or.inl ⟨by rfl, ?hyt15⟩) hHeld ?rt15
            case hyt15 => (intro w hSw; (try dsimp only at hSw); go_simp; (try with_reducible rfl))
            try simp only [Act.put, List.setIfInBounds_toArray, List.set_cons_zero, List.set_cons_succ]
            refine wpAnyH_take (i := 16) (oi := ({ dst := some 47, op := Go.Op.load 3 (Go.Operand.tmp 9), type := 3, pos := "law.go:45", after := #[{ on := 13, ground := Go.Ground.guard }], guard := some (13, false) } : Oper)) (v := ?vt16) rfl (by kernel_rfl) (by kernel_rfl) (by kernel_rfl) (fun _ _ _ h => h) (Or.inl ⟨by rfl, ?hyt16⟩) hHeld ?rt16
            case hyt16 => (intro w hSw; (try dsimp only at hSw); go_simp; (try with_reducible rfl))
            try simp only [Act.put, List.setIfInBounds_toArray, List.set_cons_zero, List.set_cons_succ]
            refine wpAnyH_take (i := 17) (oi := ({ dst := some 48, op := Go.Op.indexAddr 61 (Go.Operand.tmp 46) (Go.Operand.tmp 47), type := 0, pos := "law.go:45", after := #[{ on := 15, ground := Go.Ground.data }, { on := 16, ground := Go.Ground.data }, { on := 13, ground := Go.Ground.guard }], guard := some (13, false) } : Oper)) (v := ?vt17) rfl (by kernel_rfl) (by kernel_rfl) (by kernel_rfl) (fun _ _ _ h => h) (Or.inl ⟨by rfl, ?hyt17⟩) hHeld ?rt17
            case hyt17 => (intro w hSw; (try dsimp only at hSw); go_simp; (try with_reducible rfl))
            try simp only [Act.put, List.setIfInBounds_toArray, List.set_cons_zero, List.set_cons_succ]
            refine wpAnyH_take (i := 18) (oi := ({ dst := some 49, op := Go.Op.fieldAddr 70 (Go.Operand.tmp 48) 1, type := 0, pos := "law.go:45", after := #[{ on := 17, ground := Go.Ground.data }, { on := 13, ground := Go.Ground.guard }], guard := some (13, false) } : Oper)) (v := ?vt18) rfl (by kernel_rfl) (by kernel_rfl) (by kernel_rfl) (fun _ _ _ h => h) (Or.inl ⟨by rfl, ?hyt18⟩) hHeld ?rt18
            case hyt18 => (intro w hSw; (try dsimp only at hSw); go_simp; (try with_reducible rfl))
            try simp only [Act.put, List.setIfInBounds_toArray, List.set_cons_zero, List.set_cons_succ]
            refine wpAnyH_take (i := 19) (oi := ({ dst := some 50, op := Go.Op.load 25 (Go.Operand.tmp 49), type := 25, pos := "law.go:45", after := #[{ on := 18, ground := Go.Ground.data }, { on := 13, ground := Go.Ground.guard }], guard := some (13, false) } : Oper)) (v := ?vt19) rfl (by kernel_rfl) (by kernel_rfl) (by kernel_rfl) (fun _ _ _ h => h) (Or.inl ⟨by rfl, ?hyt19⟩) hHeld ?rt19
            case hyt19 => (intro w hSw; (try dsimp only at hSw); go_simp; (try with_reducible rfl))
            try simp only [Act.put, List.setIfInBounds_toArray, List.set_cons_zero, List.set_cons_succ]
            refine wpAnyH_ready (rs := [20]) (by kernel_rfl) (by simp) ?_
            refine AllReadyH.cons (o := ({ dst := some 51, op := Go.Op.call { callee := Go.Callee.value (Go.Operand.func 50), args := #[Go.Operand.tmp 45, Go.Operand.tmp 50, Go.Operand.const (Go.Value.int Go.IntKind.i64 50)], argTypes := #[25, 25, 3] }, type := 4, pos := "law.go:45", after := #[{ on := 14, ground := Go.Ground.data }, { on := 19, ground := Go.Ground.data }, { on := 13, ground := Go.Ground.chain }, { on := 13, ground := Go.Ground.guard }], guard := some (13, false) } : Oper)) rfl (fun K hK => ?_) AllReadyH.nil
            go_simp
            refine (C50.out _ (Kp.refl [] W).drew).mono ?_
            rintro e w5 ⟨rfl, k5⟩
            try simp only []
            refine hK.out _ _ ⟨k5, kcell k5 hc, kcell k5 y7, kcell k5 v0, kcell k5 v1, kcell k5 v2, kcell k5 v3, kcell k5 v4, kcell k5 v5, kcell k5 v6, kcell k5 v7, kcell k5 v8, kcell k5 x0, kcell k5 x1, kcell k5 x2, kcell k5 x3, kcell k5 x4, kcell k5 x5, kcell k5 x6, kcell k5 x7⟩ (fun hHeld => ?_)
            clear hK K
            try simp only [Act.put, List.setIfInBounds_toArray, List.set_cons_zero, List.set_cons_succ]
            refine wpAnyH_take (i := 21) (oi := ({ dst := some 52, op := Go.Op.unOp Go.UnOp.not 4 (Go.Operand.tmp 51), type := 4, pos := "law.go:45", after := #[{ on := 20, ground := Go.Ground.data }, { on := 13, ground := Go.Ground.guard }], guard := some (13, false) } : Oper)) (v := ?vt21) rfl (by kernel_rfl) (by kernel_rfl) (by kernel_rfl) (fun _ _ _ h => h) (Or.inl ⟨by rfl, ?hyt21⟩) hHeld ?rt21
            case hyt21 => (intro w hSw; (try dsimp only at hSw); go_simp; (try with_reducible rfl))
            try simp only [Act.put, List.setIfInBounds_toArray, List.set_cons_zero, List.set_cons_succ]
            refine wpAnyH_take (i := 22) (oi := ({ dst := some 53, op := Go.Op.pick (Go.Operand.tmp 44) (Go.Operand.const (Go.Value.bool true)) (Go.Operand.tmp 52), type := 4, pos := "law.go:45", after := #[{ on := 13, ground := Go.Ground.data }, { on := 21, ground := Go.Ground.data }], guard := none } : Oper)) (v := ?vt22) rfl (by kernel_rfl) (by kernel_rfl) (by kernel_rfl) (fun _ _ _ h => h) (Or.inl ⟨by rfl, ?hyt22⟩) hHeld ?rt22
            case hyt22 => (intro w hSw; (try dsimp only at hSw); go_simp; (try with_reducible rfl))
            try simp only [Act.put, List.setIfInBounds_toArray, List.set_cons_zero, List.set_cons_succ]
            refine wpAnyH_done (by kernel_rfl) ?_ _
            refine calm_mk ?_
            have hb5 := KBX.out w5 k5
            have hc5 := hb5.cell
            have fz5 := hb5.frozen
            gi_wp2
            refine ⟨(kf_kp _ k5).trans (kf_set _ _ _ _), (Kn.ofKp k5 (by omega)).trans (Kn.setBox hb5 (by decide) (by omega) _), GO.out (by rw [EQ.out]) _ (hb5.set _) ?_⟩
            exact (hB.trans (k5.below hBs (by simp))).setCell (p := ⟨M + 1 + 1, 0, none⟩) (by have := hs4.out; show W4.heap.size ≤ M + 1 + 1; omega) _
          | false =>
            gi_wp2
            refine region_round (by kernel_rfl) (by kernel_rfl) (S := (fun (w' : World) => Kp [] W w' ∧ w'.cell? ⟨M + 1 + 1, 0, none⟩ = some (.int .i64 (q : Int)) ∧ w'.cell? ⟨M, 0, none⟩ = some (.slice (some ⟨g, 0, none⟩) ss.length cap) ∧ w'.cell? ⟨g, q * 9, none⟩ = some (.int .i64 dx) ∧ w'.cell? ⟨g, q * 9 + 1, none⟩ = some (.int .i64 kd3) ∧ w'.cell? ⟨g, q * 9 + 2, none⟩ = some (.slice A13 set3.length c13) ∧ w'.cell? ⟨g, q * 9 + 3, none⟩ = some (.int .i64 num3) ∧ w'.cell? ⟨g, q * 9 + 4, none⟩ = some (.string nm3) ∧ w'.cell? ⟨g, q * 9 + 5, none⟩ = some (.int .i64 mn3) ∧ w'.cell? ⟨g, q * 9 + 6, none⟩ = some (.int .i64 mx3) ∧ w'.cell? ⟨g, q * 9 + 7, none⟩ = some (.bool lz3) ∧ w'.cell? ⟨g, q * 9 + 8, none⟩ = some (.slice A73 subs3.length c73) ∧ w'.cell? ⟨Bx, 0, none⟩ = some (.int .i64 kd2) ∧ w'.cell? ⟨Bx, 1, none⟩ = some (.slice A12 set2.length c12) ∧ w'.cell? ⟨Bx, 2, none⟩ = some (.int .i64 num2) ∧ w'.cell? ⟨Bx, 3, none⟩ = some (.string nm2) ∧ w'.cell? ⟨Bx, 4, none⟩ = some (.int .i64 mn2) ∧ w'.cell? ⟨Bx, 5, none⟩ = some (.int .i64 mx2) ∧ w'.cell? ⟨Bx, 6, none⟩ = some (.bool lz2) ∧ w'.cell? ⟨Bx, 7, none⟩ = some (.slice A72 subs2.length c72))) ?_ (fun hHeld => ?_)
            · exact ⟨(Kp.refl [] W).drew, hc, y7, v0, v1, v2, v3, v4, v5, v6, v7, v8, x0, x1, x2, x3, x4, x5, x6, x7⟩
            refine wpAnyH_take (i := 0) (oi := ({ dst := some 31, op := Go.Op.load 3 (Go.Operand.tmp 9), type := 3, pos := "law.go:45", after := #[], guard := none } : Oper)) (v := ?vf0) rfl (by kernel_rfl) (by kernel_rfl) (by kernel_rfl) (fun _ _ _ h => h) (Or.inl ⟨by rfl, ?hyf0⟩) hHeld ?rf0
            case hyf0 => (intro w hSw; (try dsimp only at hSw); go_simp; (try with_reducible rfl))
            try simp only [Act.put, List.setIfInBounds_toArray, List.set_cons_zero, List.set_cons_succ]
            refine wpAnyH_take (i := 1) (oi := ({ dst := some 32, op := Go.Op.load 61 (Go.Operand.tmp 7), type := 61, pos := "law.go:45", after := #[], guard := none } : Oper)) (v := ?vf1) rfl (by kernel_rfl) (by kernel_rfl) (by kernel_rfl) (fun _ _ _ h => h) (Or.inl ⟨by rfl, ?hyf1⟩) hHeld ?rf1
            case hyf1 => (intro w hSw; (try dsimp only at hSw); go_simp; (try with_reducible rfl))
            try simp only [Act.put, List.setIfInBounds_toArray, List.set_cons_zero, List.set_cons_succ]
            refine wpAnyH_take (i := 2) (oi := ({ dst := some 33, op := Go.Op.call { callee := Go.Callee.builtin Go.Builtin.len, args := #[Go.Operand.tmp 32], argTypes := #[61] }, type := 3, pos := "law.go:45", after := #[{ on := 1, ground := Go.Ground.data }], guard := none } : Oper)) (v := ?vf2) rfl (by kernel_rfl) (by kernel_rfl) (by kernel_rfl) (fun _ _ _ h => h) (Or.inl ⟨by rfl, ?hyf2⟩) hHeld ?rf2
            case hyf2 => (intro w hSw; (try dsimp only at hSw); go_simp; (try with_reducible rfl))
            try simp only [Act.put, List.setIfInBounds_toArray, List.set_cons_zero, List.set_cons_succ]
            refine wpAnyH_take (i := 3) (oi := ({ dst := some 34, op := Go.Op.binOp Go.BinOp.geq 3 (Go.Operand.tmp 31) (Go.Operand.tmp 33) 3, type := 4, pos := "law.go:45", after := #[{ on := 0, ground := Go.Ground.data }, { on := 2, ground := Go.Ground.data }], guard := none } : Oper)) (v := ?vf3) rfl (by kernel_rfl) (by kernel_rfl) (by kernel_rfl) (fun _ _ _ h => h) (Or.inl ⟨by rfl, ?hyf3⟩) hHeld ?rf3
            case hyf3 => (intro w hSw; (try dsimp only at hSw); go_simp; (try with_reducible rfl))
            try simp only [Act.put, List.setIfInBounds_toArray, List.set_cons_zero, List.set_cons_succ]
            refine wpAnyH_take (i := 4) (oi := ({ dst := some 35, op := Go.Op.move (Go.Operand.tmp 34), type := 4, pos := "law.go:45", after := #[{ on := 3, ground := Go.Ground.data }], guard := none } : Oper)) (v := ?vf4) rfl (by kernel_rfl) (by kernel_rfl) (by kernel_rfl) (fun _ _ _ h => h) (Or.inl ⟨by rfl, ?hyf4⟩) hHeld ?rf4
            case hyf4 => (intro w hSw; (try dsimp only at hSw); go_simp; (try with_reducible rfl))
            try simp only [Act.put, List.setIfInBounds_toArray, List.set_cons_zero, List.set_cons_succ]
            refine wpAnyH_take (i := 5) (oi := ({ dst := some 36, op := Go.Op.move (Go.Operand.tmp 10), type := 3, pos := "law.go:45", after := #[{ on := 4, ground := Go.Ground.guard }], guard := some (4, false) } : Oper)) (v := ?vf5) rfl (by kernel_rfl) (by kernel_rfl) (by kernel_rfl) (fun _ _ _ h => h) (Or.inl ⟨by rfl, ?hyf5⟩) hHeld ?rf5
            case hyf5 => (intro w hSw; (try dsimp only at hSw); go_simp; (try with_reducible rfl))
            try simp only [Act.put, List.setIfInBounds_toArray, List.set_cons_zero, List.set_cons_succ]
            refine wpAnyH_take (i := 6) (oi := ({ dst := some 37, op := Go.Op.load 61 (Go.Operand.tmp 7), type := 61, pos := "law.go:45", after := #[{ on := 4, ground := Go.Ground.guard }], guard := some (4, false) } : Oper)) (v := ?vf6) rfl (by kernel_rfl) (by kernel_rfl) (by kernel_rfl) (fun _ _ _ h => h) (Or.inl ⟨by rfl, ?hyf6⟩) hHeld ?rf6
            case hyf6 => (intro w hSw; (try dsimp only at hSw); go_simp; (try with_reducible rfl))
            try simp only [Act.put, List.setIfInBounds_toArray, List.set_cons_zero, List.set_cons_succ]
            refine wpAnyH_take (i := 7) (oi := ({ dst := some 38, op := Go.Op.load 3 (Go.Operand.tmp 9), type := 3, pos := "law.go:45", after := #[{ on := 4, ground := Go.Ground.guard }], guard := some (4, false) } : Oper)) (v := ?vf7) rfl (by kernel_rfl) (by kernel_rfl) (by kernel_rfl) (fun _ _ _ h => h) (Or.inl ⟨by rfl, ?hyf7⟩) hHeld ?rf7
            case hyf7 => (intro w hSw; (try dsimp only at hSw); go_simp; (try with_reducible rfl))
            try simp only [Act.put, List.setIfInBounds_toArray, List.set_cons_zero, List.set_cons_succ]
            refine wpAnyH_take (i := 8) (oi := ({ dst := some 39, op := Go.Op.indexAddr 61 (Go.Operand.tmp 37) (Go.Operand.tmp 38), type := 0, pos := "law.go:45", after := #[{ on := 6, ground := Go.Ground.data }, { on := 7, ground := Go.Ground.data }, { on := 4, ground := Go.Ground.guard }], guard := some (4, false) } : Oper)) (v := ?vf8) rfl (by kernel_rfl) (by kernel_rfl) (by kernel_rfl) (fun _ _ _ h => h) (Or.inl ⟨by rfl, ?hyf8⟩) hHeld ?rf8
            case hyf8 => (intro w hSw; (try dsimp only at hSw); go_simp; (try with_reducible rfl))
            try simp only [Act.put, List.setIfInBounds_toArray, List.set_cons_zero, List.set_cons_succ]
            refine wpAnyH_take (i := 9) (oi := ({ dst := some 40, op := Go.Op.fieldAddr 70 (Go.Operand.tmp 39) 0, type := 0, pos := "law.go:45", after := #[{ on := 8, ground := Go.Ground.data }, { on := 4, ground := Go.Ground.guard }], guard := some (4, false) } : Oper)) (v := ?vf9) rfl (by kernel_rfl) (by kernel_rfl) (by kernel_rfl) (fun _ _ _ h => h) (Or.inl ⟨by rfl, ?hyf9⟩) hHeld ?rf9
            case hyf9 => (intro w hSw; (try dsimp only at hSw); go_simp; (try with_reducible rfl))
            try simp only [Act.put, List.setIfInBounds_toArray, List.set_cons_zero, List.set_cons_succ]
            refine wpAnyH_take (i := 10) (oi := ({ dst := some 41, op := Go.Op.load 3 (Go.Operand.tmp 40), type := 3, pos := "law.go:45", after := #[{ on := 9, ground := Go.Ground.data }, { on := 4, ground := Go.Ground.guard }], guard := some (4, false) } : Oper)) (v := ?vf10) rfl (by kernel_rfl) (by kernel_rfl) (by kernel_rfl) (fun _ _ _ h => h) (Or.inl ⟨by rfl, ?hyf10⟩) hHeld ?rf10
            case hyf10 => (intro w hSw; (try dsimp only at hSw); go_simp; (try with_reducible rfl))
            try simp only [Act.put, List.setIfInBounds_toArray, List.set_cons_zero, List.set_cons_succ]
            refine wpAnyH_take (i := 11) (oi := ({ dst := some 42, op := Go.Op.binOp Go.BinOp.neq 3 (Go.Operand.tmp 36) (Go.Operand.tmp 41) 3, type := 4, pos := "law.go:45", after := #[{ on := 5, ground := Go.Ground.data }, { on := 10, ground := Go.Ground.data }, { on := 4, ground := Go.Ground.guard }], guard := some (4, false) } : Oper)) (v := ?vf11) rfl (by kernel_rfl) (by kernel_rfl) (by kernel_rfl) (fun _ _ _ h => h) (Or.inl ⟨by rfl, ?hyf11⟩) hHeld ?rf11
            case hyf11 => (intro w hSw; (try dsimp only at hSw); go_simp; (try with_reducible rfl))
            try simp only [Act.put, List.setIfInBounds_toArray, List.set_cons_zero, List.set_cons_succ]
            refine wpAnyH_take (i := 12) (oi := ({ dst := some 43, op := Go.Op.pick (Go.Operand.tmp 35) (Go.Operand.const (Go.Value.bool true)) (Go.Operand.tmp 42), type := 4, pos := "law.go:45", after := #[{ on := 4, ground := Go.Ground.data }, { on := 11, ground := Go.Ground.data }], guard := none } : Oper)) (v := ?vf12) rfl (by kernel_rfl) (by kernel_rfl) (by kernel_rfl) (fun _ _ _ h => h) (Or.inl ⟨by rfl, ?hyf12⟩) hHeld ?rf12
            case hyf12 => (intro w hSw; (try dsimp only at hSw); go_simp; (try with_reducible rfl))
            try simp only [Act.put, List.setIfInBounds_toArray, List.set_cons_zero, List.set_cons_succ]
            refine wpAnyH_take (i := 13) (oi := ({ dst := some 44, op := Go.Op.move (Go.Operand.tmp 43), type := 4, pos := "law.go:45", after := #[{ on := 12, ground := Go.Ground.data }, { on := 4, ground := Go.Ground.chain }], guard := none } : Oper)) (v := ?vf13) rfl (by kernel_rfl) (by kernel_rfl) (by kernel_rfl) (fun _ _ _ h => h) (Or.inl ⟨by rfl, ?hyf13⟩) hHeld ?rf13
            case hyf13 => (intro w hSw; (try dsimp only at hSw); go_simp; (try with_reducible rfl))
            try simp only [Act.put, List.setIfInBounds_toArray, List.set_cons_zero, List.set_cons_succ]
            refine wpAnyH_take (i := 14) (oi := ({ dst := some 45, op := Go.Op.load 25 (Go.Operand.tmp 11), type := 25, pos := "law.go:45", after := #[{ on := 13, ground := Go.Ground.guard }], guard := some (13, false) } : Oper)) (v := ?vf14) rfl (by kernel_rfl) (by kernel_rfl) (by kernel_rfl) (fun _ _ _ h => h) (Or.inl ⟨by rfl, ?hyf14⟩) hHeld ?rf14
            case hyf14 => (intro w hSw; (try dsimp only at hSw); go_simp; (try with_reducible rfl))
            try simp only [Act.put, List.setIfInBounds_toArray, List.set_cons_zero, List.set_cons_succ]
            refine wpAnyH_take (i := 15) (oi := ({ dst := some 46, op := Go.Op.load 61 (Go.Operand.tmp 7), type := 61, pos := "law.go:45", after := #[{ on := 13, ground := Go.Ground.guard }], guard := some (13, false) } : Oper)) (v := ?vf15) rfl (by kernel_rfl) (by kernel_rfl) (by kernel_rfl) (fun _ _ _ h => h) (Or.inl ⟨by rfl, ?hyf15⟩) hHeld ?rf15
            case hyf15 => (intro w hSw; (try dsimp only at hSw); go_simp; (try with_reducible rfl))
            try simp only [Act.put, List.setIfInBounds_toArray, List.set_cons_zero, List.set_cons_succ]
            refine wpAnyH_take (i := 16) (oi := ({ dst := some 47, op := Go.Op.load 3 (Go.Operand.tmp 9), type := 3, pos := "law.go:45", after := #[{ on := 13, ground := Go.Ground.guard }], guard := some (13, false) } : Oper)) (v := ?vf16) rfl (by kernel_rfl) (by kernel_rfl) (by kernel_rfl) (fun _ _ _ h => h) (Or.inl ⟨by rfl, ?hyf16⟩) hHeld ?rf16
            case hyf16 => (intro w hSw; (try dsimp only at hSw); go_simp; (try with_reducible rfl))
            try simp only [Act.put, List.setIfInBounds_toArray, List.set_cons_zero, List.set_cons_succ]
            refine wpAnyH_take (i := 17) (oi := ({ dst := some 48, op := Go.Op.indexAddr 61 (Go.Operand.tmp 46) (Go.Operand.tmp 47), type := 0, pos := "law.go:45", after := #[{ on := 15, ground := Go.Ground.data }, { on := 16, ground := Go.Ground.data }, { on := 13, ground := Go.Ground.guard }], guard := some (13, false) } : Oper)) (v := ?vf17) rfl (by kernel_rfl) (by kernel_rfl) (by kernel_rfl) (fun _ _ _ h => h) (Or.inl ⟨by rfl, ?hyf17⟩) hHeld ?rf17
            case hyf17 => (intro w hSw; (try dsimp only at hSw); go_simp; (try with_reducible rfl))
            try simp only [Act.put, List.setIfInBounds_toArray, List.set_cons_zero, List.set_cons_succ]
            refine wpAnyH_take (i := 18) (oi := ({ dst := some 49, op := Go.Op.fieldAddr 70 (Go.Operand.tmp 48) 1, type := 0, pos := "law.go:45", after := #[{ on := 17, ground := Go.Ground.data }, { on := 13, ground := Go.Ground.guard }], guard := some (13, false) } : Oper)) (v := ?vf18) rfl (by kernel_rfl) (by kernel_rfl) (by kernel_rfl) (fun _ _ _ h => h) (Or.inl ⟨by rfl, ?hyf18⟩) hHeld ?rf18
            case hyf18 => (intro w hSw; (try dsimp only at hSw); go_simp; (try with_reducible rfl))
            try simp only [Act.put, List.setIfInBounds_toArray, List.set_cons_zero, List.set_cons_succ]
            refine wpAnyH_take (i := 19) (oi := ({ dst := some 50, op := Go.Op.load 25 (Go.Operand.tmp 49), type := 25, pos := "law.go:45", after := #[{ on := 18, ground := Go.Ground.data }, { on := 13, ground := Go.Ground.guard }], guard := some (13, false) } : Oper)) (v := ?vf19) rfl (by kernel_rfl) (by kernel_rfl) (by kernel_rfl) (fun _ _ _ h => h) (Or.inl ⟨by rfl, ?hyf19⟩) hHeld ?rf19
            case hyf19 => (intro w hSw; (try dsimp only at hSw); go_simp; (try with_reducible rfl))
            try simp only [Act.put, List.setIfInBounds_toArray, List.set_cons_zero, List.set_cons_succ]
            refine wpAnyH_ready (rs := [20]) (by kernel_rfl) (by simp) ?_
            refine AllReadyH.cons (o := ({ dst := some 51, op := Go.Op.call { callee := Go.Callee.value (Go.Operand.func 50), args := #[Go.Operand.tmp 45, Go.Operand.tmp 50, Go.Operand.const (Go.Value.int Go.IntKind.i64 50)], argTypes := #[25, 25, 3] }, type := 4, pos := "law.go:45", after := #[{ on := 14, ground := Go.Ground.data }, { on := 19, ground := Go.Ground.data }, { on := 13, ground := Go.Ground.chain }, { on := 13, ground := Go.Ground.guard }], guard := some (13, false) } : Oper)) rfl (fun K hK => ?_) AllReadyH.nil
            go_simp
            refine (C50.out _ (Kp.refl [] W).drew).mono ?_
            rintro e w5 ⟨rfl, k5⟩
            try simp only []
            refine hK.out _ _ ⟨k5, kcell k5 hc, kcell k5 y7, kcell k5 v0, kcell k5 v1, kcell k5 v2, kcell k5 v3, kcell k5 v4, kcell k5 v5, kcell k5 v6, kcell k5 v7, kcell k5 v8, kcell k5 x0, kcell k5 x1, kcell k5 x2, kcell k5 x3, kcell k5 x4, kcell k5 x5, kcell k5 x6, kcell k5 x7⟩ (fun hHeld => ?_)
            clear hK K
            try simp only [Act.put, List.setIfInBounds_toArray, List.set_cons_zero, List.set_cons_succ]
            refine wpAnyH_take (i := 21) (oi := ({ dst := some 52, op := Go.Op.unOp Go.UnOp.not 4 (Go.Operand.tmp 51), type := 4, pos := "law.go:45", after := #[{ on := 20, ground := Go.Ground.data }, { on := 13, ground := Go.Ground.guard }], guard := some (13, false) } : Oper)) (v := ?vf21) rfl (by kernel_rfl) (by kernel_rfl) (by kernel_rfl) (fun _ _ _ h => h) (Or.inl ⟨by rfl, ?hyf21⟩) hHeld ?rf21
            case hyf21 => (intro w hSw; (try dsimp only at hSw); go_simp; (try with_reducible rfl))
            try simp only [Act.put, List.setIfInBounds_toArray, List.set_cons_zero, List.set_cons_succ]
            refine wpAnyH_take (i := 22) (oi := ({ dst := some 53, op := Go.Op.pick (Go.Operand.tmp 44) (Go.Operand.const (Go.Value.bool true)) (Go.Operand.tmp 52), type := 4, pos := "law.go:45", after := #[{ on := 13, ground := Go.Ground.data }, { on := 21, ground := Go.Ground.data }], guard := none } : Oper)) (v := ?vf22) rfl (by kernel_rfl) (by kernel_rfl) (by kernel_rfl) (fun _ _ _ h => h) (Or.inl ⟨by rfl, ?hyf22⟩) hHeld ?rf22
            case hyf22 => (intro w hSw; (try dsimp only at hSw); go_simp; (try with_reducible rfl))
            try simp only [Act.put, List.setIfInBounds_toArray, List.set_cons_zero, List.set_cons_succ]
            refine wpAnyH_done (by kernel_rfl) ?_ _
            refine calm_mk ?_
            have f6' : w5.frozen? ⟨w.heap.size + 1 + 1 + 1, 0, none⟩ = false := frozB (kblk (KB.out.trans k5) HB3.out) 0
            have y6' := kcell k5 y6
            gi_wp2
            exact ⟨(kf_kp _ k5).trans (kf_set _ _ _ _), RET.out (fun e => by have e2 := congrArg Prod.snd e; have e3 := hr5.out; rw [eqB_iff.2 e2.symm] at e3; cases e3) _⟩
        · have bd := nebT hd
          have HN := Lib.hid (RET.out (fun e => hd (by injection e with e1 _; exact e1.symm)))
          clear hd
          gi_wp2
          refine region_round (by kernel_rfl) (by kernel_rfl) (S := (fun (w' : World) => Kp [] W w' ∧ w'.cell? ⟨M + 1 + 1, 0, none⟩ = some (.int .i64 (q : Int)) ∧ w'.cell? ⟨M, 0, none⟩ = some (.slice (some ⟨g, 0, none⟩) ss.length cap) ∧ w'.cell? ⟨g, q * 9, none⟩ = some (.int .i64 dy) ∧ w'.cell? ⟨g, q * 9 + 1, none⟩ = some (.int .i64 kd3) ∧ w'.cell? ⟨g, q * 9 + 2, none⟩ = some (.slice A13 set3.length c13) ∧ w'.cell? ⟨g, q * 9 + 3, none⟩ = some (.int .i64 num3) ∧ w'.cell? ⟨g, q * 9 + 4, none⟩ = some (.string nm3) ∧ w'.cell? ⟨g, q * 9 + 5, none⟩ = some (.int .i64 mn3) ∧ w'.cell? ⟨g, q * 9 + 6, none⟩ = some (.int .i64 mx3) ∧ w'.cell? ⟨g, q * 9 + 7, none⟩ = some (.bool lz3) ∧ w'.cell? ⟨g, q * 9 + 8, none⟩ = some (.slice A73 subs3.length c73) ∧ w'.cell? ⟨Bx, 0, none⟩ = some (.int .i64 kd2) ∧ w'.cell? ⟨Bx, 1, none⟩ = some (.slice A12 set2.length c12) ∧ w'.cell? ⟨Bx, 2, none⟩ = some (.int .i64 num2) ∧ w'.cell? ⟨Bx, 3, none⟩ = some (.string nm2) ∧ w'.cell? ⟨Bx, 4, none⟩ = some (.int .i64 mn2) ∧ w'.cell? ⟨Bx, 5, none⟩ = some (.int .i64 mx2) ∧ w'.cell? ⟨Bx, 6, none⟩ = some (.bool lz2) ∧ w'.cell? ⟨Bx, 7, none⟩ = some (.slice A72 subs2.length c72))) ?_ (fun hHeld => ?_)
          · exact ⟨(Kp.refl [] W).drew, hc, y7, v0, v1, v2, v3, v4, v5, v6, v7, v8, x0, x1, x2, x3, x4, x5, x6, x7⟩
          refine wpAnyH_take (i := 0) (oi := ({ dst := some 31, op := Go.Op.load 3 (Go.Operand.tmp 9), type := 3, pos := "law.go:45", after := #[], guard := none } : Oper)) (v := ?vn0) rfl (by kernel_rfl) (by kernel_rfl) (by kernel_rfl) (fun _ _ _ h => h) (Or.inl ⟨by rfl, ?hyn0⟩) hHeld ?rn0
          case hyn0 => (intro w hSw; (try dsimp only at hSw); go_simp; (try with_reducible rfl))
          try simp only [Act.put, List.setIfInBounds_toArray, List.set_cons_zero, List.set_cons_succ]
          refine wpAnyH_take (i := 1) (oi := ({ dst := some 32, op := Go.Op.load 61 (Go.Operand.tmp 7), type := 61, pos := "law.go:45", after := #[], guard := none } : Oper)) (v := ?vn1) rfl (by kernel_rfl) (by kernel_rfl) (by kernel_rfl) (fun _ _ _ h => h) (Or.inl ⟨by rfl, ?hyn1⟩) hHeld ?rn1
          case hyn1 => (intro w hSw; (try dsimp only at hSw); go_simp; (try with_reducible rfl))
          try simp only [Act.put, List.setIfInBounds_toArray, List.set_cons_zero, List.set_cons_succ]
          refine wpAnyH_take (i := 2) (oi := ({ dst := some 33, op := Go.Op.call { callee := Go.Callee.builtin Go.Builtin.len, args := #[Go.Operand.tmp 32], argTypes := #[61] }, type := 3, pos := "law.go:45", after := #[{ on := 1, ground := Go.Ground.data }], guard := none } : Oper)) (v := ?vn2) rfl (by kernel_rfl) (by kernel_rfl) (by kernel_rfl) (fun _ _ _ h => h) (Or.inl ⟨by rfl, ?hyn2⟩) hHeld ?rn2
          case hyn2 => (intro w hSw; (try dsimp only at hSw); go_simp; (try with_reducible rfl))
          try simp only [Act.put, List.setIfInBounds_toArray, List.set_cons_zero, List.set_cons_succ]
          refine wpAnyH_take (i := 3) (oi := ({ dst := some 34, op := Go.Op.binOp Go.BinOp.geq 3 (Go.Operand.tmp 31) (Go.Operand.tmp 33) 3, type := 4, pos := "law.go:45", after := #[{ on := 0, ground := Go.Ground.data }, { on := 2, ground := Go.Ground.data }], guard := none } : Oper)) (v := ?vn3) rfl (by kernel_rfl) (by kernel_rfl) (by kernel_rfl) (fun _ _ _ h => h) (Or.inl ⟨by rfl, ?hyn3⟩) hHeld ?rn3
          case hyn3 => (intro w hSw; (try dsimp only at hSw); go_simp; (try with_reducible rfl))
          try simp only [Act.put, List.setIfInBounds_toArray, List.set_cons_zero, List.set_cons_succ]
          refine wpAnyH_take (i := 4) (oi := ({ dst := some 35, op := Go.Op.move (Go.Operand.tmp 34), type := 4, pos := "law.go:45", after := #[{ on := 3, ground := Go.Ground.data }], guard := none } : Oper)) (v := ?vn4) rfl (by kernel_rfl) (by kernel_rfl) (by kernel_rfl) (fun _ _ _ h => h) (Or.inl ⟨by rfl, ?hyn4⟩) hHeld ?rn4
          case hyn4 => (intro w hSw; (try dsimp only at hSw); go_simp; (try with_reducible rfl))
          try simp only [Act.put, List.setIfInBounds_toArray, List.set_cons_zero, List.set_cons_succ]
          refine wpAnyH_take (i := 5) (oi := ({ dst := some 36, op := Go.Op.move (Go.Operand.tmp 10), type := 3, pos := "law.go:45", after := #[{ on := 4, ground := Go.Ground.guard }], guard := some (4, false) } : Oper)) (v := ?vn5) rfl (by kernel_rfl) (by kernel_rfl) (by kernel_rfl) (fun _ _ _ h => h) (Or.inl ⟨by rfl, ?hyn5⟩) hHeld ?rn5
          case hyn5 => (intro w hSw; (try dsimp only at hSw); go_simp; (try with_reducible rfl))
          try simp only [Act.put, List.setIfInBounds_toArray, List.set_cons_zero, List.set_cons_succ]
          refine wpAnyH_take (i := 6) (oi := ({ dst := some 37, op := Go.Op.load 61 (Go.Operand.tmp 7), type := 61, pos := "law.go:45", after := #[{ on := 4, ground := Go.Ground.guard }], guard := some (4, false) } : Oper)) (v := ?vn6) rfl (by kernel_rfl) (by kernel_rfl) (by kernel_rfl) (fun _ _ _ h => h) (Or.inl ⟨by rfl, ?hyn6⟩) hHeld ?rn6
          case hyn6 => (intro w hSw; (try dsimp only at hSw); go_simp; (try with_reducible rfl))
          try simp only [Act.put, List.setIfInBounds_toArray, List.set_cons_zero, List.set_cons_succ]
          refine wpAnyH_take (i := 7) (oi := ({ dst := some 38, op := Go.Op.load 3 (Go.Operand.tmp 9), type := 3, pos := "law.go:45", after := #[{ on := 4, ground := Go.Ground.guard }], guard := some (4, false) } : Oper)) (v := ?vn7) rfl (by kernel_rfl) (by kernel_rfl) (by kernel_rfl) (fun _ _ _ h => h) (Or.inl ⟨by rfl, ?hyn7⟩) hHeld ?rn7
          case hyn7 => (intro w hSw; (try dsimp only at hSw); go_simp; (try with_reducible rfl))
          try simp only [Act.put, List.setIfInBounds_toArray, List.set_cons_zero, List.set_cons_succ]
          refine wpAnyH_take (i := 8) (oi := ({ dst := some 39, op := Go.Op.indexAddr 61 (Go.Operand.tmp 37) (Go.Operand.tmp 38), type := 0, pos := "law.go:45", after := #[{ on := 6, ground := Go.Ground.data }, { on := 7, ground := Go.Ground.data }, { on := 4, ground := Go.Ground.guard }], guard := some (4, false) } : Oper)) (v := ?vn8) rfl (by kernel_rfl) (by kernel_rfl) (by kernel_rfl) (fun _ _ _ h => h) (Or.inl ⟨by rfl, ?hyn8⟩) hHeld ?rn8
          case hyn8 => (intro w hSw; (try dsimp only at hSw); go_simp; (try with_reducible rfl))
          try simp only [Act.put, List.setIfInBounds_toArray, List.set_cons_zero, List.set_cons_succ]
          refine wpAnyH_take (i := 9) (oi := ({ dst := some 40, op := Go.Op.fieldAddr 70 (Go.Operand.tmp 39) 0, type := 0, pos := "law.go:45", after := #[{ on := 8, ground := Go.Ground.data }, { on := 4, ground := Go.Ground.guard }], guard := some (4, false) } : Oper)) (v := ?vn9) rfl (by kernel_rfl) (by kernel_rfl) (by kernel_rfl) (fun _ _ _ h => h) (Or.inl ⟨by rfl, ?hyn9⟩) hHeld ?rn9
          case hyn9 => (intro w hSw; (try dsimp only at hSw); go_simp; (try with_reducible rfl))
          try simp only [Act.put, List.setIfInBounds_toArray, List.set_cons_zero, List.set_cons_succ]
          refine wpAnyH_take (i := 10) (oi := ({ dst := some 41, op := Go.Op.load 3 (Go.Operand.tmp 40), type := 3, pos := "law.go:45", after := #[{ on := 9, ground := Go.Ground.data }, { on := 4, ground := Go.Ground.guard }], guard := some (4, false) } : Oper)) (v := ?vn10) rfl (by kernel_rfl) (by kernel_rfl) (by kernel_rfl) (fun _ _ _ h => h) (Or.inl ⟨by rfl, ?hyn10⟩) hHeld ?rn10
          case hyn10 => (intro w hSw; (try dsimp only at hSw); go_simp; (try with_reducible rfl))
          try simp only [Act.put, List.setIfInBounds_toArray, List.set_cons_zero, List.set_cons_succ]
          refine wpAnyH_take (i := 11) (oi := ({ dst := some 42, op := Go.Op.binOp Go.BinOp.neq 3 (Go.Operand.tmp 36) (Go.Operand.tmp 41) 3, type := 4, pos := "law.go:45", after := #[{ on := 5, ground := Go.Ground.data }, { on := 10, ground := Go.Ground.data }, { on := 4, ground := Go.Ground.guard }], guard := some (4, false) } : Oper)) (v := ?vn11) rfl (by kernel_rfl) (by kernel_rfl) (by kernel_rfl) (fun _ _ _ h => h) (Or.inl ⟨by rfl, ?hyn11⟩) hHeld ?rn11
          case hyn11 => (intro w hSw; (try dsimp only at hSw); go_simp; (try with_reducible rfl))
          try simp only [Act.put, List.setIfInBounds_toArray, List.set_cons_zero, List.set_cons_succ]
          refine wpAnyH_take (i := 12) (oi := ({ dst := some 43, op := Go.Op.pick (Go.Operand.tmp 35) (Go.Operand.const (Go.Value.bool true)) (Go.Operand.tmp 42), type := 4, pos := "law.go:45", after := #[{ on := 4, ground := Go.Ground.data }, { on := 11, ground := Go.Ground.data }], guard := none } : Oper)) (v := ?vn12) rfl (by kernel_rfl) (by kernel_rfl) (by kernel_rfl) (fun _ _ _ h => h) (Or.inl ⟨by rfl, ?hyn12⟩) hHeld ?rn12
          case hyn12 => (intro w hSw; (try dsimp only at hSw); go_simp; (try with_reducible rfl))
          try simp only [Act.put, List.setIfInBounds_toArray, List.set_cons_zero, List.set_cons_succ]
          refine wpAnyH_take (i := 13) (oi := ({ dst := some 44, op := Go.Op.move (Go.Operand.tmp 43), type := 4, pos := "law.go:45", after := #[{ on := 12, ground := Go.Ground.data }, { on := 4, ground := Go.Ground.chain }], guard := none } : Oper)) (v := ?vn13) rfl (by kernel_rfl) (by kernel_rfl) (by kernel_rfl) (fun _ _ _ h => h) (Or.inl ⟨by rfl, ?hyn13⟩) hHeld ?rn13
          case hyn13 => (intro w hSw; (try dsimp only at hSw); go_simp; (try with_reducible rfl))
          try simp only [Act.put, List.setIfInBounds_toArray, List.set_cons_zero, List.set_cons_succ]
          refine wpAnyH_take (i := 14) (oi := ({ dst := some 45, op := Go.Op.load 25 (Go.Operand.tmp 11), type := 25, pos := "law.go:45", after := #[{ on := 13, ground := Go.Ground.guard }], guard := some (13, false) } : Oper)) (v := undef) rfl (by kernel_rfl) (by kernel_rfl) (by kernel_rfl) (fun _ _ _ h => h) (Or.inr ⟨by rfl, rfl⟩) hHeld ?_
          try simp only [Act.put, List.setIfInBounds_toArray, List.set_cons_zero, List.set_cons_succ]
          refine wpAnyH_take (i := 15) (oi := ({ dst := some 46, op := Go.Op.load 61 (Go.Operand.tmp 7), type := 61, pos := "law.go:45", after := #[{ on := 13, ground := Go.Ground.guard }], guard := some (13, false) } : Oper)) (v := undef) rfl (by kernel_rfl) (by kernel_rfl) (by kernel_rfl) (fun _ _ _ h => h) (Or.inr ⟨by rfl, rfl⟩) hHeld ?_
          try simp only [Act.put, List.setIfInBounds_toArray, List.set_cons_zero, List.set_cons_succ]
          refine wpAnyH_take (i := 16) (oi := ({ dst := some 47, op := Go.Op.load 3 (Go.Operand.tmp 9), type := 3, pos := "law.go:45", after := #[{ on := 13, ground := Go.Ground.guard }], guard := some (13, false) } : Oper)) (v := undef) rfl (by kernel_rfl) (by kernel_rfl) (by kernel_rfl) (fun _ _ _ h => h) (Or.inr ⟨by rfl, rfl⟩) hHeld ?_
          try simp only [Act.put, List.setIfInBounds_toArray, List.set_cons_zero, List.set_cons_succ]
          refine wpAnyH_take (i := 17) (oi := ({ dst := some 48, op := Go.Op.indexAddr 61 (Go.Operand.tmp 46) (Go.Operand.tmp 47), type := 0, pos := "law.go:45", after := #[{ on := 15, ground := Go.Ground.data }, { on := 16, ground := Go.Ground.data }, { on := 13, ground := Go.Ground.guard }], guard := some (13, false) } : Oper)) (v := undef) rfl (by kernel_rfl) (by kernel_rfl) (by kernel_rfl) (fun _ _ _ h => h) (Or.inr ⟨by rfl, rfl⟩) hHeld ?_
          try simp only [Act.put, List.setIfInBounds_toArray, List.set_cons_zero, List.set_cons_succ]
          refine wpAnyH_take (i := 18) (oi := ({ dst := some 49, op := Go.Op.fieldAddr 70 (Go.Operand.tmp 48) 1, type := 0, pos := "law.go:45", after := #[{ on := 17, ground := Go.Ground.data }, { on := 13, ground := Go.Ground.guard }], guard := some (13, false) } : Oper)) (v := undef) rfl (by kernel_rfl) (by kernel_rfl) (by kernel_rfl) (fun _ _ _ h => h) (Or.inr ⟨by rfl, rfl⟩) hHeld ?_
          try simp only [Act.put, List.setIfInBounds_toArray, List.set_cons_zero, List.set_cons_succ]
          refine wpAnyH_take (i := 19) (oi := ({ dst := some 50, op := Go.Op.load 25 (Go.Operand.tmp 49), type := 25, pos := "law.go:45", after := #[{ on := 18, ground := Go.Ground.data }, { on := 13, ground := Go.Ground.guard }], guard := some (13, false) } : Oper)) (v := undef) rfl (by kernel_rfl) (by kernel_rfl) (by kernel_rfl) (fun _ _ _ h => h) (Or.inr ⟨by rfl, rfl⟩) hHeld ?_
          try simp only [Act.put, List.setIfInBounds_toArray, List.set_cons_zero, List.set_cons_succ]
          refine wpAnyH_take (i := 20) (oi := ({ dst := some 51, op := Go.Op.call { callee := Go.Callee.value (Go.Operand.func 50), args := #[Go.Operand.tmp 45, Go.Operand.tmp 50, Go.Operand.const (Go.Value.int Go.IntKind.i64 50)], argTypes := #[25, 25, 3] }, type := 4, pos := "law.go:45", after := #[{ on := 14, ground := Go.Ground.data }, { on := 19, ground := Go.Ground.data }, { on := 13, ground := Go.Ground.chain }, { on := 13, ground := Go.Ground.guard }], guard := some (13, false) } : Oper)) (v := undef) rfl (by kernel_rfl) (by kernel_rfl) (by kernel_rfl) (fun _ _ _ h => h) (Or.inr ⟨by rfl, rfl⟩) hHeld ?_
          try simp only [Act.put, List.setIfInBounds_toArray, List.set_cons_zero, List.set_cons_succ]
          refine wpAnyH_take (i := 21) (oi := ({ dst := some 52, op := Go.Op.unOp Go.UnOp.not 4 (Go.Operand.tmp 51), type := 4, pos := "law.go:45", after := #[{ on := 20, ground := Go.Ground.data }, { on := 13, ground := Go.Ground.guard }], guard := some (13, false) } : Oper)) (v := undef) rfl (by kernel_rfl) (by kernel_rfl) (by kernel_rfl) (fun _ _ _ h => h) (Or.inr ⟨by rfl, rfl⟩) hHeld ?_
          try simp only [Act.put, List.setIfInBounds_toArray, List.set_cons_zero, List.set_cons_succ]
          refine wpAnyH_take (i := 22) (oi := ({ dst := some 53, op := Go.Op.pick (Go.Operand.tmp 44) (Go.Operand.const (Go.Value.bool true)) (Go.Operand.tmp 52), type := 4, pos := "law.go:45", after := #[{ on := 13, ground := Go.Ground.data }, { on := 21, ground := Go.Ground.data }], guard := none } : Oper)) (v := ?vn22) rfl (by kernel_rfl) (by kernel_rfl) (by kernel_rfl) (fun _ _ _ h => h) (Or.inl ⟨by rfl, ?hyn22⟩) hHeld ?rn22
          case hyn22 => (intro w hSw; (try dsimp only at hSw); go_simp; (try with_reducible rfl))
          try simp only [Act.put, List.setIfInBounds_toArray, List.set_cons_zero, List.set_cons_succ]
          refine wpAnyH_done (by kernel_rfl) ?_ _
          refine calm_mk ?_
          gi_wp2
          exact ⟨kf_drew (kf_set _ _ _ _), HN.out _⟩
    case done =>
      rintro D0 ys W hD hys ⟨⟨hb9, hk0, hpre⟩, hB⟩ hK
      have hyl : ys.length = ss.length := by rw [← hys]; simp [proj]
      obtain ⟨k, hk⟩ : ∃ k, ys.length = k := ⟨_, rfl⟩
      rw [hk] at hb9 hk0
      have hk1 : k = 0 ∨ (k : Int) ≤ most := hk0
      have hk2 : k = ss.length ∨ most ≤ (k : Int) := .inl (by omega)
      have hk3 : k ≤ ss.length := by omega
      clear hpre hys
      obtain ⟨z, hz1⟩ : ∃ z, (if most < 0 then (0 : Int) else most) = z := ⟨_, rfl⟩
      have hz2 : (if (ss.length : Int) < z then (ss.length : Int) else z) = (k : Int) := by
        by_cases h : most < 0
        · rw [if_pos h] at hz1; subst hz1; rw [if_neg (by omega)]; omega
        · rw [if_neg h] at hz1; subst hz1
          by_cases h' : (ss.length : Int) < most
          · rw [if_pos h']; omega
          · rw [if_neg h']; omega
      clear hk1 hk2 hk3
      have kw := kv4.trans (Kp.ofBelow hB)
      have c9 := hb9.cell
      have c5 : W.cell? ⟨w.heap.size + 1 + 1, 0, none⟩ = some (.int .i64 most) := kcell kw (cellB hB2 0)
      have c7_ : W.cell? ⟨M, 0, none⟩ = some (.slice (some ⟨g, 0, none⟩) ss.length cap) := kcell (Kp.ofBelow hB) (cellB H7.out 0)
      have c6 : W.cell? ⟨w.heap.size + 1 + 1 + 1, 0, none⟩ = some (.bool false) := kcell kw (cellB hB3 0)
      have f6 : W.frozen? ⟨w.heap.size + 1 + 1 + 1, 0, none⟩ = false := frozB (kblk kw hB3) 0
      have za0 : W.cell? ⟨w.heap.size, 0, none⟩ = some (.int .i64 kd) := cellB (kblk kw hB0) 0
      have za1 : W.cell? ⟨w.heap.size, 1, none⟩ = some (.slice A1 set.length c1) := cellB (kblk kw hB0) 1
      have za2 : W.cell? ⟨w.heap.size, 2, none⟩ = some (.int .i64 num) := cellB (kblk kw hB0) 2
      have za3 : W.cell? ⟨w.heap.size, 3, none⟩ = some (.string nm) := cellB (kblk kw hB0) 3
      have za4 : W.cell? ⟨w.heap.size, 4, none⟩ = some (.int .i64 mn) := cellB (kblk kw hB0) 4
      have za5 : W.cell? ⟨w.heap.size, 5, none⟩ = some (.int .i64 mx) := cellB (kblk kw hB0) 5
      have za6 : W.cell? ⟨w.heap.size, 6, none⟩ = some (.bool lz) := cellB (kblk kw hB0) 6
      have za7 : W.cell? ⟨w.heap.size, 7, none⟩ = some (.slice A7 subs.length c7) := cellB (kblk kw hB0) 7
      have zb0 : W.cell? ⟨w.heap.size + 1, 0, none⟩ = some (.int .i64 kd') := cellB (kblk kw hB1) 0
      have zb1 : W.cell? ⟨w.heap.size + 1, 1, none⟩ = some (.slice A1' set'.length c1') := cellB (kblk kw hB1) 1
      have zb2 : W.cell? ⟨w.heap.size + 1, 2, none⟩ = some (.int .i64 num') := cellB (kblk kw hB1) 2
      have zb3 : W.cell? ⟨w.heap.size + 1, 3, none⟩ = some (.string nm') := cellB (kblk kw hB1) 3
      have zb4 : W.cell? ⟨w.heap.size + 1, 4, none⟩ = some (.int .i64 mn') := cellB (kblk kw hB1) 4
      have zb5 : W.cell? ⟨w.heap.size + 1, 5, none⟩ = some (.int .i64 mx') := cellB (kblk kw hB1) 5
      have zb6 : W.cell? ⟨w.heap.size + 1, 6, none⟩ = some (.bool lz') := cellB (kblk kw hB1) 6
      have zb7 : W.cell? ⟨w.heap.size + 1, 7, none⟩ = some (.slice A7' subs'.length c7') := cellB (kblk kw hB1) 7
      have KB3 := Lib.hid (kblk kw hB3)
      have oa : (⟨⟨kd, set, num, nm, mn, mx, lz, subs⟩, A1, c1, A7, c7⟩ : NV).ok W := by have := HVA.out.kp kw; rw [hNN] at this; exact this
      have ob : (⟨⟨kd', set', num', nm', mn', mx', lz', subs'⟩, A1', c1', A7', c7'⟩ : NV).ok W := by have := HVB.out.kp kw; rw [hMM] at this; exact this
      have ta : Thin 40 (⟨kd, set, num, nm, mn, mx, lz, subs⟩ : S25) := by have := HTA.out; rw [hNN] at this; exact this
      have sOf : ∀ W', Kp [] W W' → (fun (w' : World) => Kp [w.heap.size + 1 + 1 + 1] W w' ∧ w'.cell? ⟨M + 1 + 1, 0, none⟩ = some (.int .i64 (k : Int)) ∧ w'.cell? ⟨w.heap.size + 1 + 1, 0, none⟩ = some (.int .i64 most) ∧ w'.cell? ⟨M, 0, none⟩ = some (.slice (some ⟨g, 0, none⟩) ss.length cap) ∧ w'.cell? ⟨w.heap.size, 0, none⟩ = some (.int .i64 kd) ∧ w'.cell? ⟨w.heap.size, 1, none⟩ = some (.slice A1 set.length c1) ∧ w'.cell? ⟨w.heap.size, 2, none⟩ = some (.int .i64 num) ∧ w'.cell? ⟨w.heap.size, 3, none⟩ = some (.string nm) ∧ w'.cell? ⟨w.heap.size, 4, none⟩ = some (.int .i64 mn) ∧ w'.cell? ⟨w.heap.size, 5, none⟩ = some (.int .i64 mx) ∧ w'.cell? ⟨w.heap.size, 6, none⟩ = some (.bool lz) ∧ w'.cell? ⟨w.heap.size, 7, none⟩ = some (.slice A7 subs.length c7) ∧ w'.cell? ⟨w.heap.size + 1, 0, none⟩ = some (.int .i64 kd') ∧ w'.cell? ⟨w.heap.size + 1, 1, none⟩ = some (.slice A1' set'.length c1') ∧ w'.cell? ⟨w.heap.size + 1, 2, none⟩ = some (.int .i64 num') ∧ w'.cell? ⟨w.heap.size + 1, 3, none⟩ = some (.string nm') ∧ w'.cell? ⟨w.heap.size + 1, 4, none⟩ = some (.int .i64 mn') ∧ w'.cell? ⟨w.heap.size + 1, 5, none⟩ = some (.int .i64 mx') ∧ w'.cell? ⟨w.heap.size + 1, 6, none⟩ = some (.bool lz') ∧ w'.cell? ⟨w.heap.size + 1, 7, none⟩ = some (.slice A7' subs'.length c7')) W' := fun W' k' => ⟨k'.mono (by simp), kcell k' c9, kcell k' c5, kcell k' c7_, kcell k' za0, kcell k' za1, kcell k' za2, kcell k' za3, kcell k' za4, kcell k' za5, kcell k' za6, kcell k' za7, kcell k' zb0, kcell k' zb1, kcell k' zb2, kcell k' zb3, kcell k' zb4, kcell k' zb5, kcell k' zb6, kcell k' zb7⟩
      have D51 := fun (W' : World) (k' : Kp [] W W') => (same_calls51 ⟨⟨kd, set, num, nm, mn, mx, lz, subs⟩, A1, c1, A7, c7⟩ ⟨⟨kd', set', num', nm', mn', mx', lz', subs'⟩, A1', c1', A7', c7'⟩ W' (oa.kp k') (ob.kp k')).mono fun e w' ⟨h, p⟩ => (⟨h, k'.trans p⟩ : _ ∧ Kp [] W w')
      have D50 := fun (W' : World) (k' : Kp [] W W') => (samenode_calls ⟨⟨kd, set, num, nm, mn, mx, lz, subs⟩, A1, c1, A7, c7⟩ ⟨⟨kd', set', num', nm', mn', mx', lz', subs'⟩, A1', c1', A7', c7'⟩ W' (oa.kp k') (ob.kp k') ta).mono fun e w' ⟨h, p⟩ => (⟨h, k'.trans p⟩ : _ ∧ Kp [] W w')
      have D5s := fun (W' : World) (k' : Kp [] W W') => (same_calls51 ⟨⟨kd, set, num, nm, mn, mx, lz, subs⟩, A1, c1, A7, c7⟩ ⟨⟨kd, set, num, nm, mn, mx, lz, subs⟩, A1, c1, A7, c7⟩ W' (oa.kp k') (oa.kp k')).mono fun e w' ⟨h, p⟩ => (⟨h, k'.trans p⟩ : _ ∧ Kp [] W w')
      have D32 := fun (W' : World) (k' : Kp [] W W') => (works_calls W').mono fun e w' ⟨h, p⟩ => (⟨h, k'.trans p⟩ : _ ∧ Kp [] W w')
      dsimp only [NV.val, NV.cells] at D51 D50 D5s
      simp only [sameP_self 40 _ ta 1000 (by omega)] at D5s
      simp only [sameP_thin ta 1000 (by omega)] at D51
      generalize eqB (⟨kd, set, num, nm, mn, mx, lz, subs⟩ : S25) ⟨kd', set', num', nm', mn', mx', lz', subs'⟩ = rr at D51 D50
      have hne : M ≠ w.heap.size + 1 + 1 + 1 ∧ M + 1 + 1 ≠ w.heap.size + 1 + 1 + 1 := by omega
      have SS := Lib.hid (show ∀ W', Kp [] W W' → (fun (w' : World) => Kp [w.heap.size + 1 + 1 + 1] W w' ∧ w'.cell? ⟨M + 1 + 1, 0, none⟩ = some (.int .i64 (k : Int)) ∧ w'.cell? ⟨w.heap.size + 1 + 1, 0, none⟩ = some (.int .i64 most) ∧ w'.cell? ⟨M, 0, none⟩ = some (.slice (some ⟨g, 0, none⟩) ss.length cap) ∧ w'.cell? ⟨w.heap.size, 0, none⟩ = some (.int .i64 kd) ∧ w'.cell? ⟨w.heap.size, 1, none⟩ = some (.slice A1 set.length c1) ∧ w'.cell? ⟨w.heap.size, 2, none⟩ = some (.int .i64 num) ∧ w'.cell? ⟨w.heap.size, 3, none⟩ = some (.string nm) ∧ w'.cell? ⟨w.heap.size, 4, none⟩ = some (.int .i64 mn) ∧ w'.cell? ⟨w.heap.size, 5, none⟩ = some (.int .i64 mx) ∧ w'.cell? ⟨w.heap.size, 6, none⟩ = some (.bool lz) ∧ w'.cell? ⟨w.heap.size, 7, none⟩ = some (.slice A7 subs.length c7) ∧ w'.cell? ⟨w.heap.size + 1, 0, none⟩ = some (.int .i64 kd') ∧ w'.cell? ⟨w.heap.size + 1, 1, none⟩ = some (.slice A1' set'.length c1') ∧ w'.cell? ⟨w.heap.size + 1, 2, none⟩ = some (.int .i64 num') ∧ w'.cell? ⟨w.heap.size + 1, 3, none⟩ = some (.string nm') ∧ w'.cell? ⟨w.heap.size + 1, 4, none⟩ = some (.int .i64 mn') ∧ w'.cell? ⟨w.heap.size + 1, 5, none⟩ = some (.int .i64 mx') ∧ w'.cell? ⟨w.heap.size + 1, 6, none⟩ = some (.bool lz') ∧ w'.cell? ⟨w.heap.size + 1, 7, none⟩ = some (.slice A7' subs'.length c7')) (W'.setCell ⟨w.heap.size + 1 + 1 + 1, 0, none⟩ (.bool true)) from fun W' k' => ⟨(k'.mono (by simp)).setCell (p := ⟨w.heap.size + 1 + 1 + 1, 0, none⟩) (by simp) _, cellSet (kcell k' c9) (by simp <;> omega), cellSet (kcell k' c5) (by simp <;> omega), cellSet (kcell k' c7_) (by simp <;> omega), cellSet (kcell k' za0) (by simp <;> omega), cellSet (kcell k' za1) (by simp <;> omega), cellSet (kcell k' za2) (by simp <;> omega), cellSet (kcell k' za3) (by simp <;> omega), cellSet (kcell k' za4) (by simp <;> omega), cellSet (kcell k' za5) (by simp <;> omega), cellSet (kcell k' za6) (by simp <;> omega), cellSet (kcell k' za7) (by simp <;> omega), cellSet (kcell k' zb0) (by simp <;> omega), cellSet (kcell k' zb1) (by simp <;> omega), cellSet (kcell k' zb2) (by simp <;> omega), cellSet (kcell k' zb3) (by simp <;> omega), cellSet (kcell k' zb4) (by simp <;> omega), cellSet (kcell k' zb5) (by simp <;> omega), cellSet (kcell k' zb6) (by simp <;> omega), cellSet (kcell k' zb7) (by simp <;> omega)⟩)
      have L51 := Lib.hid D51; have L50 := Lib.hid D50; have L5s := Lib.hid D5s; have L32 := Lib.hid D32; have SO := Lib.hid sOf
      replace oa := Lib.hid oa; replace ob := Lib.hid ob; replace ta := Lib.hid ta
      have kd0 := (Kp.refl [] W).drew
      clear D51 D50 D5s D32 sOf
      gi_wp2
      go_wp2_with fail
      go_region_held3 (fun (w' : World) => Kp [w.heap.size + 1 + 1 + 1] W w' ∧ w'.cell? ⟨M + 1 + 1, 0, none⟩ = some (.int .i64 (k : Int)) ∧ w'.cell? ⟨w.heap.size + 1 + 1, 0, none⟩ = some (.int .i64 most) ∧ w'.cell? ⟨M, 0, none⟩ = some (.slice (some ⟨g, 0, none⟩) ss.length cap) ∧ w'.cell? ⟨w.heap.size, 0, none⟩ = some (.int .i64 kd) ∧ w'.cell? ⟨w.heap.size, 1, none⟩ = some (.slice A1 set.length c1) ∧ w'.cell? ⟨w.heap.size, 2, none⟩ = some (.int .i64 num) ∧ w'.cell? ⟨w.heap.size, 3, none⟩ = some (.string nm) ∧ w'.cell? ⟨w.heap.size, 4, none⟩ = some (.int .i64 mn) ∧ w'.cell? ⟨w.heap.size, 5, none⟩ = some (.int .i64 mx) ∧ w'.cell? ⟨w.heap.size, 6, none⟩ = some (.bool lz) ∧ w'.cell? ⟨w.heap.size, 7, none⟩ = some (.slice A7 subs.length c7) ∧ w'.cell? ⟨w.heap.size + 1, 0, none⟩ = some (.int .i64 kd') ∧ w'.cell? ⟨w.heap.size + 1, 1, none⟩ = some (.slice A1' set'.length c1') ∧ w'.cell? ⟨w.heap.size + 1, 2, none⟩ = some (.int .i64 num') ∧ w'.cell? ⟨w.heap.size + 1, 3, none⟩ = some (.string nm') ∧ w'.cell? ⟨w.heap.size + 1, 4, none⟩ = some (.int .i64 mn') ∧ w'.cell? ⟨w.heap.size + 1, 5, none⟩ = some (.int .i64 mx') ∧ w'.cell? ⟨w.heap.size + 1, 6, none⟩ = some (.bool lz') ∧ w'.cell? ⟨w.heap.size + 1, 7, none⟩ = some (.slice A7' subs'.length c7')) (first | assumption | exact SO.out _ (by assumption))
        (first
         | (go_at_call 51; (with_reducible refine (L51.out _ (by assumption)).mono ?_); rintro e w5 ⟨rfl, k5⟩)
         | (go_at_call 51; (with_reducible refine (L5s.out _ (by assumption)).mono ?_); rintro e w7 ⟨rfl, k7⟩)
         | (go_at_call 50; (with_reducible refine (L50.out _ (by assumption)).mono ?_); rintro e w6 ⟨rfl, k6⟩)
         | (go_at_call 32; (with_reducible refine (L32.out _ (by assumption)).mono ?_); rintro e w8 ⟨rfl, k8⟩; have f68 : w8.frozen? ⟨w.heap.size + 1 + 1 + 1, 0, none⟩ = false := frozB (kblk k8 KB3.out) 0; have c68 : w8.cell? ⟨w.heap.size + 1 + 1 + 1, 0, none⟩ = some (.bool false) := cellB (kblk k8 KB3.out) 0; have lt68 := ltB (kblk k8 KB3.out); have sST := SS.out w8 k8))
      have hK8 : (w8.setCell ⟨w.heap.size + 1 + 1 + 1, 0, none⟩ (.bool true)).heap[D0]? = some (.deferred (some [])) := (kf_set 0 w8 ⟨w.heap.size + 1 + 1 + 1, 0, none⟩ (.bool true)).same D0 _ (Nat.zero_le _) (kblk k8 hK) rfl
      go_wp2_with fail
      refine ⟨by simp, .inl ⟨_, _, rfl, run_takeDeferred hK8, ?_⟩⟩
      have hc5 := cell_kept (show (w8.setCell ⟨w.heap.size + 1 + 1 + 1, 0, none⟩ (.bool true)).cell? ⟨w.heap.size + 1 + 1 + 1, 0, none⟩ = some (.bool true) from (cellB (setB (kblk k8 KB3.out) 0 (.bool true)) 0)) (grownBy_putObj' _ D0 (.deferred none)) (fun r e => by cases e; exact ⟨_, hK8, rfl⟩)
      refine ⟨.bool true, ?_, rfl, ?_⟩
      · simp [results, Try.f10, go_sem, hc5]
      · exact ((((k0.trans kw).trans k8).bel).setCell (p := ⟨w.heap.size + 1 + 1 + 1, 0, none⟩) (by show w.heap.size ≤ w.heap.size + 1 + 1 + 1; omega) _).trans (belowK_b (w := w) (Nat.le_refl _) _ D0 _ _ (by omega) hK8 rfl rfl)
    case stop =>
      rintro D0 c q W hD hpre hX hK
      rcases hX with ⟨rfl, ⟨k, hq, hk2', hk1, hb9⟩, hB⟩ | ⟨_, hn⟩
      rotate_left
      · exact absurd hpre hn
      have hk2 : k = ss.length ∨ most ≤ (k : Int) := .inr hk2'
      have hk3 : k ≤ ss.length := by have := hpre.length_le; simp [proj] at this; omega
      clear hk2' hpre hq
      obtain ⟨z, hz1⟩ : ∃ z, (if most < 0 then (0 : Int) else most) = z := ⟨_, rfl⟩
      have hz2 : (if (ss.length : Int) < z then (ss.length : Int) else z) = (k : Int) := by
        by_cases h : most < 0
        · rw [if_pos h] at hz1; subst hz1; rw [if_neg (by omega)]; omega
        · rw [if_neg h] at hz1; subst hz1
          by_cases h' : (ss.length : Int) < most
          · rw [if_pos h']; omega
          · rw [if_neg h']; omega
      clear hk1 hk2 hk3
      have kw := kv4.trans (Kp.ofBelow hB)
      have c9 := hb9.cell
      have c5 : W.cell? ⟨w.heap.size + 1 + 1, 0, none⟩ = some (.int .i64 most) := kcell kw (cellB hB2 0)
      have c7_ : W.cell? ⟨M, 0, none⟩ = some (.slice (some ⟨g, 0, none⟩) ss.length cap) := kcell (Kp.ofBelow hB) (cellB H7.out 0)
      have c6 : W.cell? ⟨w.heap.size + 1 + 1 + 1, 0, none⟩ = some (.bool false) := kcell kw (cellB hB3 0)
      have f6 : W.frozen? ⟨w.heap.size + 1 + 1 + 1, 0, none⟩ = false := frozB (kblk kw hB3) 0
      have za0 : W.cell? ⟨w.heap.size, 0, none⟩ = some (.int .i64 kd) := cellB (kblk kw hB0) 0
      have za1 : W.cell? ⟨w.heap.size, 1, none⟩ = some (.slice A1 set.length c1) := cellB (kblk kw hB0) 1
      have za2 : W.cell? ⟨w.heap.size, 2, none⟩ = some (.int .i64 num) := cellB (kblk kw hB0) 2
      have za3 : W.cell? ⟨w.heap.size, 3, none⟩ = some (.string nm) := cellB (kblk kw hB0) 3
      have za4 : W.cell? ⟨w.heap.size, 4, none⟩ = some (.int .i64 mn) := cellB (kblk kw hB0) 4
      have za5 : W.cell? ⟨w.heap.size, 5, none⟩ = some (.int .i64 mx) := cellB (kblk kw hB0) 5
      have za6 : W.cell? ⟨w.heap.size, 6, none⟩ = some (.bool lz) := cellB (kblk kw hB0) 6
      have za7 : W.cell? ⟨w.heap.size, 7, none⟩ = some (.slice A7 subs.length c7) := cellB (kblk kw hB0) 7
      have zb0 : W.cell? ⟨w.heap.size + 1, 0, none⟩ = some (.int .i64 kd') := cellB (kblk kw hB1) 0
      have zb1 : W.cell? ⟨w.heap.size + 1, 1, none⟩ = some (.slice A1' set'.length c1') := cellB (kblk kw hB1) 1
      have zb2 : W.cell? ⟨w.heap.size + 1, 2, none⟩ = some (.int .i64 num') := cellB (kblk kw hB1) 2
      have zb3 : W.cell? ⟨w.heap.size + 1, 3, none⟩ = some (.string nm') := cellB (kblk kw hB1) 3
      have zb4 : W.cell? ⟨w.heap.size + 1, 4, none⟩ = some (.int .i64 mn') := cellB (kblk kw hB1) 4
      have zb5 : W.cell? ⟨w.heap.size + 1, 5, none⟩ = some (.int .i64 mx') := cellB (kblk kw hB1) 5
      have zb6 : W.cell? ⟨w.heap.size + 1, 6, none⟩ = some (.bool lz') := cellB (kblk kw hB1) 6
      have zb7 : W.cell? ⟨w.heap.size + 1, 7, none⟩ = some (.slice A7' subs'.length c7') := cellB (kblk kw hB1) 7
      have KB3 := Lib.hid (kblk kw hB3)
      have oa : (⟨⟨kd, set, num, nm, mn, mx, lz, subs⟩, A1, c1, A7, c7⟩ : NV).ok W := by have := HVA.out.kp kw; rw [hNN] at this; exact this
      have ob : (⟨⟨kd', set', num', nm', mn', mx', lz', subs'⟩, A1', c1', A7', c7'⟩ : NV).ok W := by have := HVB.out.kp kw; rw [hMM] at this; exact this
      have ta : Thin 40 (⟨kd, set, num, nm, mn, mx, lz, subs⟩ : S25) := by have := HTA.out; rw [hNN] at this; exact this
      have sOf : ∀ W', Kp [] W W' → (fun (w' : World) => Kp [w.heap.size + 1 + 1 + 1] W w' ∧ w'.cell? ⟨M + 1 + 1, 0, none⟩ = some (.int .i64 (k : Int)) ∧ w'.cell? ⟨w.heap.size + 1 + 1, 0, none⟩ = some (.int .i64 most) ∧ w'.cell? ⟨M, 0, none⟩ = some (.slice (some ⟨g, 0, none⟩) ss.length cap) ∧ w'.cell? ⟨w.heap.size, 0, none⟩ = some (.int .i64 kd) ∧ w'.cell? ⟨w.heap.size, 1, none⟩ = some (.slice A1 set.length c1) ∧ w'.cell? ⟨w.heap.size, 2, none⟩ = some (.int .i64 num) ∧ w'.cell? ⟨w.heap.size, 3, none⟩ = some (.string nm) ∧ w'.cell? ⟨w.heap.size, 4, none⟩ = some (.int .i64 mn) ∧ w'.cell? ⟨w.heap.size, 5, none⟩ = some (.int .i64 mx) ∧ w'.cell? ⟨w.heap.size, 6, none⟩ = some (.bool lz) ∧ w'.cell? ⟨w.heap.size, 7, none⟩ = some (.slice A7 subs.length c7) ∧ w'.cell? ⟨w.heap.size + 1, 0, none⟩ = some (.int .i64 kd') ∧ w'.cell? ⟨w.heap.size + 1, 1, none⟩ = some (.slice A1' set'.length c1') ∧ w'.cell? ⟨w.heap.size + 1, 2, none⟩ = some (.int .i64 num') ∧ w'.cell? ⟨w.heap.size + 1, 3, none⟩ = some (.string nm') ∧ w'.cell? ⟨w.heap.size + 1, 4, none⟩ = some (.int .i64 mn') ∧ w'.cell? ⟨w.heap.size + 1, 5, none⟩ = some (.int .i64 mx') ∧ w'.cell? ⟨w.heap.size + 1, 6, none⟩ = some (.bool lz') ∧ w'.cell? ⟨w.heap.size + 1, 7, none⟩ = some (.slice A7' subs'.length c7')) W' := fun W' k' => ⟨k'.mono (by simp), kcell k' c9, kcell k' c5, kcell k' c7_, kcell k' za0, kcell k' za1, kcell k' za2, kcell k' za3, kcell k' za4, kcell k' za5, kcell k' za6, kcell k' za7, kcell k' zb0, kcell k' zb1, kcell k' zb2, kcell k' zb3, kcell k' zb4, kcell k' zb5, kcell k' zb6, kcell k' zb7⟩
      have D51 := fun (W' : World) (k' : Kp [] W W') => (same_calls51 ⟨⟨kd, set, num, nm, mn, mx, lz, subs⟩, A1, c1, A7, c7⟩ ⟨⟨kd', set', num', nm', mn', mx', lz', subs'⟩, A1', c1', A7', c7'⟩ W' (oa.kp k') (ob.kp k')).mono fun e w' ⟨h, p⟩ => (⟨h, k'.trans p⟩ : _ ∧ Kp [] W w')
      have D50 := fun (W' : World) (k' : Kp [] W W') => (samenode_calls ⟨⟨kd, set, num, nm, mn, mx, lz, subs⟩, A1, c1, A7, c7⟩ ⟨⟨kd', set', num', nm', mn', mx', lz', subs'⟩, A1', c1', A7', c7'⟩ W' (oa.kp k') (ob.kp k') ta).mono fun e w' ⟨h, p⟩ => (⟨h, k'.trans p⟩ : _ ∧ Kp [] W w')
      have D5s := fun (W' : World) (k' : Kp [] W W') => (same_calls51 ⟨⟨kd, set, num, nm, mn, mx, lz, subs⟩, A1, c1, A7, c7⟩ ⟨⟨kd, set, num, nm, mn, mx, lz, subs⟩, A1, c1, A7, c7⟩ W' (oa.kp k') (oa.kp k')).mono fun e w' ⟨h, p⟩ => (⟨h, k'.trans p⟩ : _ ∧ Kp [] W w')
      have D32 := fun (W' : World) (k' : Kp [] W W') => (works_calls W').mono fun e w' ⟨h, p⟩ => (⟨h, k'.trans p⟩ : _ ∧ Kp [] W w')
      dsimp only [NV.val, NV.cells] at D51 D50 D5s
      simp only [sameP_self 40 _ ta 1000 (by omega)] at D5s
      simp only [sameP_thin ta 1000 (by omega)] at D51
      generalize eqB (⟨kd, set, num, nm, mn, mx, lz, subs⟩ : S25) ⟨kd', set', num', nm', mn', mx', lz', subs'⟩ = rr at D51 D50
      have hne : M ≠ w.heap.size + 1 + 1 + 1 ∧ M + 1 + 1 ≠ w.heap.size + 1 + 1 + 1 := by omega
      have SS := Lib.hid (show ∀ W', Kp [] W W' → (fun (w' : World) => Kp [w.heap.size + 1 + 1 + 1] W w' ∧ w'.cell? ⟨M + 1 + 1, 0, none⟩ = some (.int .i64 (k : Int)) ∧ w'.cell? ⟨w.heap.size + 1 + 1, 0, none⟩ = some (.int .i64 most) ∧ w'.cell? ⟨M, 0, none⟩ = some (.slice (some ⟨g, 0, none⟩) ss.length cap) ∧ w'.cell? ⟨w.heap.size, 0, none⟩ = some (.int .i64 kd) ∧ w'.cell? ⟨w.heap.size, 1, none⟩ = some (.slice A1 set.length c1) ∧ w'.cell? ⟨w.heap.size, 2, none⟩ = some (.int .i64 num) ∧ w'.cell? ⟨w.heap.size, 3, none⟩ = some (.string nm) ∧ w'.cell? ⟨w.heap.size, 4, none⟩ = some (.int .i64 mn) ∧ w'.cell? ⟨w.heap.size, 5, none⟩ = some (.int .i64 mx) ∧ w'.cell? ⟨w.heap.size, 6, none⟩ = some (.bool lz) ∧ w'.cell? ⟨w.heap.size, 7, none⟩ = some (.slice A7 subs.length c7) ∧ w'.cell? ⟨w.heap.size + 1, 0, none⟩ = some (.int .i64 kd') ∧ w'.cell? ⟨w.heap.size + 1, 1, none⟩ = some (.slice A1' set'.length c1') ∧ w'.cell? ⟨w.heap.size + 1, 2, none⟩ = some (.int .i64 num') ∧ w'.cell? ⟨w.heap.size + 1, 3, none⟩ = some (.string nm') ∧ w'.cell? ⟨w.heap.size + 1, 4, none⟩ = some (.int .i64 mn') ∧ w'.cell? ⟨w.heap.size + 1, 5, none⟩ = some (.int .i64 mx') ∧ w'.cell? ⟨w.heap.size + 1, 6, none⟩ = some (.bool lz') ∧ w'.cell? ⟨w.heap.size + 1, 7, none⟩ = some (.slice A7' subs'.length c7')) (W'.setCell ⟨w.heap.size + 1 + 1 + 1, 0, none⟩ (.bool true)) from fun W' k' => ⟨(k'.mono (by simp)).setCell (p := ⟨w.heap.size + 1 + 1 + 1, 0, none⟩) (by simp) _, cellSet (kcell k' c9) (by simp <;> omega), cellSet (kcell k' c5) (by simp <;> omega), cellSet (kcell k' c7_) (by simp <;> omega), cellSet (kcell k' za0) (by simp <;> omega), cellSet (kcell k' za1) (by simp <;> omega), cellSet (kcell k' za2) (by simp <;> omega), cellSet (kcell k' za3) (by simp <;> omega), cellSet (kcell k' za4) (by simp <;> omega), cellSet (kcell k' za5) (by simp <;> omega), cellSet (kcell k' za6) (by simp <;> omega), cellSet (kcell k' za7) (by simp <;> omega), cellSet (kcell k' zb0) (by simp <;> omega), cellSet (kcell k' zb1) (by simp <;> omega), cellSet (kcell k' zb2) (by simp <;> omega), cellSet (kcell k' zb3) (by simp <;> omega), cellSet (kcell k' zb4) (by simp <;> omega), cellSet (kcell k' zb5) (by simp <;> omega), cellSet (kcell k' zb6) (by simp <;> omega), cellSet (kcell k' zb7) (by simp <;> omega)⟩)
      have L51 := Lib.hid D51; have L50 := Lib.hid D50; have L5s := Lib.hid D5s; have L32 := Lib.hid D32; have SO := Lib.hid sOf
      replace oa := Lib.hid oa; replace ob := Lib.hid ob; replace ta := Lib.hid ta
      have kd0 := (Kp.refl [] W).drew
      clear D51 D50 D5s D32 sOf
      gi_wp2
      go_wp2_with fail
      go_region_held3 (fun (w' : World) => Kp [w.heap.size + 1 + 1 + 1] W w' ∧ w'.cell? ⟨M + 1 + 1, 0, none⟩ = some (.int .i64 (k : Int)) ∧ w'.cell? ⟨w.heap.size + 1 + 1, 0, none⟩ = some (.int .i64 most) ∧ w'.cell? ⟨M, 0, none⟩ = some (.slice (some ⟨g, 0, none⟩) ss.length cap) ∧ w'.cell? ⟨w.heap.size, 0, none⟩ = some (.int .i64 kd) ∧ w'.cell? ⟨w.heap.size, 1, none⟩ = some (.slice A1 set.length c1) ∧ w'.cell? ⟨w.heap.size, 2, none⟩ = some (.int .i64 num) ∧ w'.cell? ⟨w.heap.size, 3, none⟩ = some (.string nm) ∧ w'.cell? ⟨w.heap.size, 4, none⟩ = some (.int .i64 mn) ∧ w'.cell? ⟨w.heap.size, 5, none⟩ = some (.int .i64 mx) ∧ w'.cell? ⟨w.heap.size, 6, none⟩ = some (.bool lz) ∧ w'.cell? ⟨w.heap.size, 7, none⟩ = some (.slice A7 subs.length c7) ∧ w'.cell? ⟨w.heap.size + 1, 0, none⟩ = some (.int .i64 kd') ∧ w'.cell? ⟨w.heap.size + 1, 1, none⟩ = some (.slice A1' set'.length c1') ∧ w'.cell? ⟨w.heap.size + 1, 2, none⟩ = some (.int .i64 num') ∧ w'.cell? ⟨w.heap.size + 1, 3, none⟩ = some (.string nm') ∧ w'.cell? ⟨w.heap.size + 1, 4, none⟩ = some (.int .i64 mn') ∧ w'.cell? ⟨w.heap.size + 1, 5, none⟩ = some (.int .i64 mx') ∧ w'.cell? ⟨w.heap.size + 1, 6, none⟩ = some (.bool lz') ∧ w'.cell? ⟨w.heap.size + 1, 7, none⟩ = some (.slice A7' subs'.length c7')) (first | assumption | exact SO.out _ (by assumption))
        (first
         | (go_at_call 51; (with_reducible refine (L51.out _ (by assumption)).mono ?_); rintro e w5 ⟨rfl, k5⟩)
         | (go_at_call 51; (with_reducible refine (L5s.out _ (by assumption)).mono ?_); rintro e w7 ⟨rfl, k7⟩)
         | (go_at_call 50; (with_reducible refine (L50.out _ (by assumption)).mono ?_); rintro e w6 ⟨rfl, k6⟩)
         | (go_at_call 32; (with_reducible refine (L32.out _ (by assumption)).mono ?_); rintro e w8 ⟨rfl, k8⟩; have f68 : w8.frozen? ⟨w.heap.size + 1 + 1 + 1, 0, none⟩ = false := frozB (kblk k8 KB3.out) 0; have c68 : w8.cell? ⟨w.heap.size + 1 + 1 + 1, 0, none⟩ = some (.bool false) := cellB (kblk k8 KB3.out) 0; have lt68 := ltB (kblk k8 KB3.out); have sST := SS.out w8 k8))
      have hK8 : (w8.setCell ⟨w.heap.size + 1 + 1 + 1, 0, none⟩ (.bool true)).heap[D0]? = some (.deferred (some [])) := (kf_set 0 w8 ⟨w.heap.size + 1 + 1 + 1, 0, none⟩ (.bool true)).same D0 _ (Nat.zero_le _) (kblk k8 hK) rfl
      go_wp2_with fail
      refine ⟨by simp, .inl ⟨_, _, rfl, run_takeDeferred hK8, ?_⟩⟩
      have hc5 := cell_kept (show (w8.setCell ⟨w.heap.size + 1 + 1 + 1, 0, none⟩ (.bool true)).cell? ⟨w.heap.size + 1 + 1 + 1, 0, none⟩ = some (.bool true) from (cellB (setB (kblk k8 KB3.out) 0 (.bool true)) 0)) (grownBy_putObj' _ D0 (.deferred none)) (fun r e => by cases e; exact ⟨_, hK8, rfl⟩)
      refine ⟨.bool true, ?_, rfl, ?_⟩
      · simp [results, Try.f10, go_sem, hc5]
      · exact ((((k0.trans kw).trans k8).bel).setCell (p := ⟨w.heap.size + 1 + 1 + 1, 0, none⟩) (by show w.heap.size ≤ w.heap.size + 1 + 1 + 1; omega) _).trans (belowK_b (w := w) (Nat.le_refl _) _ D0 _ _ (by omega) hK8 rfl rfl)

theorem walks_row (W : World) (x y : NV) (most : Int) (hx : x.ok W) (hy : y.ok W) : Calls Try.prog 10 #[x.val, y.val, .int .i64 most] W fun e w' => e = .returned (.bool true) ∧ Below W.heap.size W w' := callsIn_wide.1 (walks_in 3 (by omega) x y most W hx hy)
end Go.Proofs.Ytojlhlepneefoaa
