/- The law TmplJoins: rows of groups, Few, and the walk. -/
import Derived.Test.YtgjjkpnfnjpfgaaR
import Derived.Test.YtgjjkpnfnjpfgaaS
import Derived.Test.YtgjjkpnfnjpfgaaPAllx13
import Derived.Test.YtgjjkpnfnjpfgaaPAllx14
import Derived.Laws.OwnMore
namespace Go.Proofs.Ytgjjkpnfnjpfgaa
open Go.Shelf Go.RowKit PAll Go.Proofs.YtgjjkpnfnjpfgaaW.PrintWords Go.Proofs.YtgjjkpnfnjpfgaaW.PrintLast Go.Proofs.YtgjjkpnfnjpfgaaW.PrintMore
set_option linter.unusedVariables false
set_option linter.unusedSimpArgs false
theorem addNone (b o n : Nat) : Addr.add ⟨b, o, none⟩ n = ⟨b, o + n, none⟩ := by unfold Addr.add; by_cases h : n = 0 <;> simp [h]
theorem rowAt {w : World} {b g c n : Nat} {xs : List Value} (h : w.ownsRow b 3 1 (.slice (some ⟨g, 0, none⟩) n c) n xs) : ∀ j u, xs[j]? = some u → w.cell? ⟨g, j, none⟩ = some u := by
  intro j u hu
  rcases h.2 with ⟨h0, _⟩ | ⟨g', cap, cur, hv, hb, hg, hnc, hcm, hcs, ht⟩
  · cases h0
  · cases hv
    rw [cellB hg]
    rw [← ht, Nat.mul_one] at hu
    have hj : j < n := by
      have := (List.getElem?_eq_some_iff.1 hu).1
      rw [List.length_take] at this
      omega
    rw [List.getElem?_take_of_lt hj, Array.getElem?_toList] at hu
    exact hu
theorem ownInts {w : World} {b : Nat} {v : Value} {ns : List Int} (h : w.ownsRow b 3 1 v ns.length (ns.map fun k => .int .i64 k)) (hl : ns.length ≤ 1000000) : ∃ A c, v = .slice A ns.length c ∧ ns.length ≤ c ∧ Kd.C (Kd.int .i64) w A ns.length ns := by
  rcases h.2 with ⟨rfl, h0⟩ | ⟨g, cap, cur, rfl, hb, hg, hnc, hcm, hcs, _⟩
  · have : ns = [] := List.eq_nil_of_length_eq_zero h0
    subst this
    exact ⟨none, 0, rfl, Nat.le_refl _, Kd.C_nil _ _⟩
  · refine ⟨some ⟨g, 0, none⟩, cap, rfl, hnc, Kd.C_of_reads (enc := Value.int .i64) (d := 0) ⟨rfl, by omega, fun _ => ⟨_, rfl, fun j hj => ?_⟩⟩⟩
    rw [addNone, Nat.zero_add]
    refine rowAt h j _ ?_
    simp [hj, List.getD_eq_getElem?_getD]
theorem append2 (w : World) (b1 b2 : Nat) (v1 v2 : Value) (xs ys : List Int) (h1 : w.ownsRow b1 3 1 v1 xs.length (xs.map fun k => .int .i64 k)) (h2 : w.ownsRow b2 3 1 v2 ys.length (ys.map fun k => .int .i64 k)) (hb : b1 ≤ w.heap.size) (hx : xs.length ≤ 100000) (hy : ys.length ≤ 100000) :
    ∃ v' w', (Builtin.append_ #[29, 29] 29 #[v1, v2]).run Try.prog w = .ok v' w' ∧ w'.ownsRow b1 3 1 v' (xs ++ ys).length ((xs ++ ys).map fun k => .int .i64 k) ∧ w.grownBy w' v1.ownBlock := by
  obtain ⟨i0, hi0, hz0, hz1, hz2⟩ := info_parts info3
  rcases h2.2 with ⟨rfl, h0⟩ | ⟨g, cap, cur, rfl, hbb, hg, hnc, hcm, hcs, _⟩
  · have : ys = [] := List.eq_nil_of_length_eq_zero h0
    subst this
    refine ⟨v1, w, run_append_owned_none w b1 29 29 3 i0 1 Try.underlying29 hi0 v1 _ _ h1, by simpa using h1, ?_⟩
    exact ⟨rfl, rfl, rfl, Nat.le_refl _, fun _ _ _ => rfl⟩
  · obtain ⟨v', w', hr, ho, hgr, _⟩ := run_append_own_at (P := Try.prog) (w := w) b1 29 29 3 i0 (.int .i64 0) 1 8 Try.underlying29 hi0 hz0 hz1 hz2 rfl (by decide) v1 _ _ h1 ⟨g, 0, none⟩ ys.length cap (ys.map fun k => .int .i64 k) (by simp) (fun j u hu => by rw [addNone, Nat.zero_add]; exact rowAt h2 j u hu) (by intro u hu; obtain ⟨k, _, rfl⟩ := List.mem_map.1 hu; rfl) (by unfold maxLen; omega) (by omega) hb
    refine ⟨v', w', hr, ?_, hgr⟩
    rw [List.length_append, List.map_append]
    exact ho
theorem step_append2 {ops : Array Oper} {o : Oper} {a : Act} {K : Act → World → Prop} {Q : Exit → Act → World → Prop} {E : Prop} {W : World} (hw : Region.wanted o (yielded ops a.tmps) = true) (s x : Operand)
    (ho : o.op = .call { callee := .builtin .append, args := #[s, x], argTypes := #[29, 29] }) (hty : o.type = 29) (b1 b2 : Nat) (v1 v2 : Value) (xs ys : List Int) (hs : a.eval s = v1) (hx : a.eval x = v2)
    (h1 : W.ownsRow b1 3 1 v1 xs.length (xs.map fun k => .int .i64 k)) (h2 : W.ownsRow b2 3 1 v2 ys.length (ys.map fun k => .int .i64 k)) (hb : b1 ≤ W.heap.size) (hlx : xs.length ≤ 100000) (hly : ys.length ≤ 100000)
    (h : ∀ v' w', w'.ownsRow b1 3 1 v' (xs ++ ys).length ((xs ++ ys).map fun k => .int .i64 k) → W.grownBy w' v1.ownBlock → K (a.put o.dst v') w') :
    if Region.wanted o (yielded ops a.tmps) = true then Oper.wp Try.prog o a W K Q else E := by
  rw [if_pos hw]
  obtain ⟨v', w', hr, ho', hg⟩ := append2 W b1 b2 v1 v2 xs ys h1 h2 hb hlx hly
  unfold Oper.wp
  simp [execOp, ho, hty, resolve, invoke, builtin, hs, hx, hr, Result.andThen]
  exact h v' w' ho' hg
theorem same_l (l : List Int) (hl : l.length ≤ 1000000) : ∀ (n i k : Nat), l.length - i ≤ n → i ≤ l.length → burinbook_SameInts.l0 (n + k + 1) l l true (i : Int) = some true
  | 0, i, k, hn, hi => by rw [burinbook_SameInts.l0, if_pos rfl, if_neg (by omega)]
  | n + 1, i, k, hn, hi => by
    by_cases h : i < l.length
    · rw [show n + 1 + k + 1 = (n + k + 1) + 1 by omega, burinbook_SameInts.l0, if_pos rfl, if_pos (by omega), if_pos (by omega), if_pos (by omega), beq_self_eq_true, show wrap64 ((i : Int) + 1) = ((i + 1 : Nat) : Int) by unfold wrap64; omega]
      exact same_l l hl n (i + 1) k (by omega) (by omega)
    · rw [burinbook_SameInts.l0, if_pos rfl, if_neg (by omega)]
theorem same_f (l : List Int) (hl : l.length ≤ 1000000) : burinbook_SameInts.f (l.length + 1) l l = some true := by
  unfold burinbook_SameInts.f
  rw [beq_self_eq_true]
  exact same_l l hl l.length 0 0 (by omega) (by omega)
theorem same_row (v1 v2 : Value) (l : List Int) (b1 b2 : Nat) (w : World) (hl : l.length ≤ 1000000) (h1 : w.ownsRow b1 3 1 v1 l.length (l.map fun k => .int .i64 k)) (h2 : w.ownsRow b2 3 1 v2 l.length (l.map fun k => .int .i64 k)) : Calls Try.prog 10 #[v1, v2] w fun e w' => e = .returned (.bool true) ∧ Drawn0 w w' := by
  obtain ⟨A1, c1, rfl, l1, g1⟩ := ownInts h1 hl
  obtain ⟨A2, c2, rfl, l2, g2⟩ := ownInts h2 hl
  exact burinbook_SameInts.calls _ A1 c1 l A2 c2 l true w g1 l1 g2 l2 (same_f l hl)
theorem few_l (l : List ByteArray) (hl : l.length ≤ 1000000) (b : Int) : ∀ (n i k : Nat), l.length - i ≤ n → i ≤ l.length → burinbook_Few.l0 (n + k + 1) l b (i : Int) = some ((l.drop i).all fun s => decide ((s.size : Int) ≤ b))
  | 0, i, k, hn, hi => by
    obtain rfl : i = l.length := by omega
    rw [burinbook_Few.l0, if_neg (by omega), List.drop_length]; rfl
  | n + 1, i, k, hn, hi => by
    by_cases h : i < l.length
    · have hd : l.drop i = l[i] :: l.drop (i + 1) := List.drop_eq_getElem_cons h
      have hr : rdOf ByteArray.empty l (i : Nat) = l[i] := by unfold rdOf; simp [List.getD_eq_getElem?_getD, h]
      rw [show n + 1 + k + 1 = (n + k + 1) + 1 by omega, burinbook_Few.l0, if_pos (by omega), if_pos (by omega), hr, hd, List.all_cons, show wrap64 ((i : Int) + 1) = ((i + 1 : Nat) : Int) by unfold wrap64; omega, few_l l hl b n (i + 1) k (by omega) (by omega)]
      by_cases hs : (l[i].size : Int) ≤ b
      · rw [if_neg (by omega), decide_eq_true hs, Bool.true_and]
      · rw [if_pos (by omega), decide_eq_false hs, Bool.false_and]
    · obtain rfl : i = l.length := by omega
      rw [burinbook_Few.l0, if_neg (by omega), List.drop_length]; rfl
def fewB (l : List ByteArray) : Bool := decide (l.length ≤ 40) && l.all fun s => decide ((s.size : Int) ≤ 100)
theorem few_calls (A : Option Addr) (c : Nat) (l : List ByteArray) (w : World) (h : Kd.C Kd.string w A l.length l) (hc : l.length ≤ c) : Calls Try.prog 9 #[.slice A l.length c, .int .i64 40, .int .i64 100] w fun e w' => e = .returned (.bool (fewB l)) ∧ Drawn0 w w' := by
  refine burinbook_Few.calls (l.length + 1) A c l 40 100 (fewB l) w h hc ?_
  unfold burinbook_Few.f fewB
  by_cases h40 : l.length ≤ 40
  · rw [if_neg (by omega), decide_eq_true h40, Bool.true_and]
    have := few_l l (by omega) 100 l.length 0 0 (by omega) (by omega)
    simpa using this
  · rw [if_pos (by omega), decide_eq_false h40, Bool.false_and]
theorem rowKp3 {w w' : World} {b : Nat} {v : Value} {n : Nat} {xs : List Value} (h : w.ownsRow b 3 1 v n xs) (k : Kp [] w w') : w'.ownsRow b 3 1 v n xs := h.kept (row := none) ⟨k.os, k.tape, k.output, k.size, fun i hi _ => k.block i hi (by simp)⟩ (Classical.em _)
theorem expL_le (t : ByteArray) (sl : List Int) (ht : t.size ≤ 1100000) (hl : sl.length ≤ 4611686018427387904) : ∀ m : List Pc, (∀ p ∈ m, okPc p) → (expL t sl m).length ≤ m.length * 1100000
  | [], _ => by simp [expL]
  | .t l :: m, h => by
    have h1 : l.length ≤ 1100000 := h (.t l) (by simp)
    have h2 := expL_le t sl ht hl m (fun p hp => h p (by simp [hp]))
    simp only [expL, List.length_append, List.length_cons]
    omega
  | .g k :: m, h => by
    have h1 : -1000000 ≤ k ∧ k ≤ 1000000 := h (.g k) (by simp)
    have h2 := expL_le t sl ht hl m (fun p hp => h p (by simp [hp]))
    obtain ⟨r, hr1, hr2⟩ := saidT k t sl h1.1 h1.2 hl
    have hse : (saidL t sl k).length = r.size := by
      unfold saidL; rw [hr1, ByteArray.toList_eq]; simp
    simp only [expL, List.length_append, List.length_cons]
    omega
theorem kblk {a b : World} (k : Kp [] a b) {i : Nat} {o : Obj} (h : a.heap[i]? = some o) : b.heap[i]? = some o := (k.block i (ltB h) (by simp)).trans h
theorem fst_add (a b : List UInt8) (h : a.length + b.length ≤ 1000000) (w : World) : (Op.stringOp .add (bs a) (bs b)).run Try.prog w = .ok (.string (bs (a ++ b))) w := by
  have e : bs a ++ bs b = bs (a ++ b) := by
    rw [bs_of (bs a ++ bs b)]
    congr 1
    simp [ByteArray.toList_eq, bs_eq]
  rw [← e]
  exact run_string_add_sum w _ _ (by rw [bs_size, bs_size]; omega)
theorem str_add (a b : List UInt8) (h : a.length + b.length ≤ 140737488355327) (w : World) : (Op.stringOp .add ⟨a.toArray⟩ ⟨b.toArray⟩).run Try.prog w = .ok (.string ⟨(a ++ b).toArray⟩) w := by
  rw [← bs_eq, ← bs_eq, ← bs_eq]
  have e : bs a ++ bs b = bs (a ++ b) := by
    rw [bs_of (bs a ++ bs b)]
    congr 1
    simp [ByteArray.toList_eq, bs_eq]
  rw [← e]
  exact run_string_add_sum w _ _ (by rw [bs_size, bs_size]; omega)
theorem newL_err (N : List ByteArray) : ∀ (k : Nat) (l : List UInt8) (e : Nat), newL N k l = .inl e → e ≤ l.length := by
  intro k
  induction k with
  | zero => intro l e h; simp [newL] at h; omega
  | succ k ih =>
    intro l e h
    have hh : (headL l).length ≤ l.length := tw_le _ _
    cases hd : l.drop (headL l).length with
    | nil => rw [newL_miss N k l hd] at h; cases h
    | cons c r =>
      have hl2 := congrArg List.length hd
      simp only [List.length_drop, List.length_cons] at hl2
      by_cases hb : (behL r).1 = 0
      · rw [newL_bad N k l r c hd hb] at h; obtain rfl := Sum.inl.inj h; exact hh
      · rw [newL_hit N k l r c hd hb] at h
        have hle := behL_le r
        cases hn : newL N k (r.drop (behL r).1) with
        | inl e' =>
          rw [hn] at h
          obtain rfl := Sum.inl.inj h
          have := ih _ _ hn
          rw [List.length_drop] at this
          omega
        | inr m' => rw [hn] at h; cases h
set_option maxRecDepth 100000 in
set_option maxHeartbeats 8000000 in
theorem joins_walk (l0 l1 : List UInt8) (A : Option Addr) (c : Nat) (N : List ByteArray) (t : ByteArray) (B : Option Addr) (cb : Nat) (sl : List Int) (w : World)
    (hA : Kd.C Kd.string w A N.length N) (hc : N.length ≤ c) (hB : Kd.C (Kd.int .i64) w B sl.length sl) (hcb : sl.length ≤ cb) (ht : t.size ≤ 1048576) (hsl : sl.length ≤ 1048576) :
    Calls Try.prog 4 #[.agg #[.string (bs l0), .string (bs l1)], .slice A N.length c, .agg #[.string t, .slice B sl.length cb]] w fun e w' => e = .returned (.bool true) ∧ Below w.heap.size w w' := by
  have WC := Lib.hid works_calls
  have z0 : (bs l0).size = l0.length := bs_size l0
  have z1 : (bs l1).size = l1.length := bs_size l1
  go_enter Try.func4, Try.ntmps4
  go_upto_region 1 with fail
  obtain ⟨W0, hW0⟩ : ∃ W, W = (w.alloc (Obj.cells #[Value.string (bs l0), Value.string (bs l1)] 31)).alloc (Obj.cells #[Value.string t, Value.slice B sl.length cb] 34) := ⟨_, rfl⟩
  obtain ⟨b3, hb3⟩ : ∃ b, b = w.heap.size := ⟨_, rfl⟩
  obtain ⟨b5, hb5⟩ : ∃ b, b = w.heap.size + 1 := ⟨_, rfl⟩
  have k0 : Kp [] w W0 := by rw [hW0]; exact ((Kp.refl [] w).alloc _).alloc _
  have H3 : W0.heap[b3]? = some (Obj.cells #[Value.string (bs l0), Value.string (bs l1)] 31) := by
    rw [hW0, hb3]
    exact (Below.heap_alloc _ _ _ (by simp)).trans (heap_alloc_new _ _)
  have H5 : W0.heap[b5]? = some (Obj.cells #[Value.string t, Value.slice B sl.length cb] 34) := by
    rw [hW0, hb5]
    have := heap_alloc_new (w.alloc (Obj.cells #[Value.string (bs l0), Value.string (bs l1)] 31)) (Obj.cells #[Value.string t, Value.slice B sl.length cb] 34)
    simpa using this
  rw [← hW0, ← hb5, ← hb3]
  clear hW0 hb3 hb5
  have FC := Lib.hid (fun W (k : Kp [] W0 W) => few_calls A c N W (Kd.C_below hA (k0.trans k).bel) hc)
  by_cases hl0 : l0.length ≤ 500
  rotate_left
  · have d0 : decide ((500 : Int) < (l0.length : Int)) = true := decide_eq_true (by omega)
    go_wp2_with (first | (go_at_call 5; refine (WC.out _).mono ?_; rintro e w1 ⟨rfl, k1⟩; have hb3 := kblk k1 H3; have y0 := cellB hb3 0; have y1 := cellB hb3 1; have lt3 := ltB hb3))
    go_ret
    exact ⟨rfl, (k0.trans k1).bel⟩
  have d0 : decide ((500 : Int) < (l0.length : Int)) = false := decide_eq_false (by omega)
  by_cases hl1 : l1.length ≤ 500
  rotate_left
  · have d1 : decide ((500 : Int) < (l1.length : Int)) = true := decide_eq_true (by omega)
    go_wp2_with (first | (go_at_call 5; refine (WC.out _).mono ?_; rintro e w1 ⟨rfl, k1⟩; have hb3 := kblk k1 H3; have y0 := cellB hb3 0; have y1 := cellB hb3 1; have lt3 := ltB hb3))
    go_ret
    exact ⟨rfl, (k0.trans k1).bel⟩
  have d1 : decide ((500 : Int) < (l1.length : Int)) = false := decide_eq_false (by omega)
  cases hfew : fewB N with
  | false =>
    rw [hfew] at FC
    replace hfew := Lib.hid hfew
    go_wp2_with (first | (go_at_call 5; refine (WC.out _).mono ?_; rintro e w1 ⟨rfl, k1⟩; have hb3 := kblk k1 H3; have y0 := cellB hb3 0; have y1 := cellB hb3 1; have lt3 := ltB hb3) | (go_at_call 9; refine (FC.out _ k1).mono ?_; rintro e w2 ⟨rfl, n2, rfl⟩))
    go_ret
    exact ⟨rfl, ((k0.trans k1).drewN _).bel⟩
  | true =>
    rw [hfew] at FC
    have hN : N.length ≤ 40 := by unfold fewB at hfew; simp only [Bool.and_eq_true, decide_eq_true_eq] at hfew; exact hfew.1
    replace hfew := Lib.hid hfew
    obtain ⟨F, hF⟩ : ∃ F : List UInt8, F = l0 ++ [41] := ⟨_, rfl⟩
    obtain ⟨G, hG⟩ : ∃ G : List UInt8, G = F ++ l1 := ⟨_, rfl⟩
    have lF : F.length = l0.length + 1 := by rw [hF]; simp
    have lG : G.length = l0.length + 1 + l1.length := by rw [hG, List.length_append, lF]
    have pa := fst_add l0 [41] (by simp; omega)
    rw [bs_eq [41], ← hF] at pa
    have pb := fst_add F l1 (by omega)
    rw [← hG] at pb
    have J := newL_join N l1 (l0.length + 1) l0 (F.length + 1) (l1.length + 1) (G.length + 1) (by omega) (by omega) (by omega) (by omega)
    rw [show l0 ++ 41 :: l1 = G by rw [hG, hF]; simp, ← hF] at J
    replace hF := Lib.hid hF
    replace hG := Lib.hid hG
    replace lF := Lib.hid lF
    replace lG := Lib.hid lG
    go_upto_region 6 with (first | (go_at_call 5; refine (WC.out _).mono ?_; rintro e w1 ⟨rfl, k1⟩; have hb3 := kblk k1 H3; have y0 := cellB hb3 0; have y1 := cellB hb3 1; have lt3 := ltB hb3) | (go_at_call 9; refine (FC.out _ k1).mono ?_; rintro e w2 ⟨rfl, n2, rfl⟩; have y0 : (w1.drewN n2).cell? ⟨b3, 0, none⟩ = _ := cellB hb3 0))
    have NW : ∀ (l : List UInt8) (hl : l.length ≤ 4096) (W : World) (k : Kp [] W0 W), Calls Try.prog 7 #[.string (bs l), .slice A N.length c] W fun e w' => NewPost W (newL N (l.length + 1) l) e w' := fun l hl W k => new_calls A c N l W hc (by omega) hl (fun w' k' => Kd.C_below hA ((k0.trans k).trans k').bel)
    have N1 := Lib.hid (NW F (by have := lF.out; omega))
    have N2 := Lib.hid (NW l1 (by omega))
    have N3 := Lib.hid (NW G (by have := lG.out; omega))
    clear NW
    have zF : (bs F).size = l0.length + 1 := by rw [bs_size]; exact lF.out
    cases hR1 : newL N (F.length + 1) F with
    | inl e1 =>
      rw [hR1] at N1 J
      have J' : newL N (G.length + 1) G = .inl e1 := J
      rw [J'] at N3
      cases hR2 : newL N (l1.length + 1) l1 with
      | inl e2 =>
        rw [hR2] at N2
        clear J J' hR1 hR2 zF
        go_wp2_with (first | (go_at_call 7; (with_reducible refine (N1.out _ (k1.drewN n2)).mono ?_); rintro e w3 ⟨rfl, q3⟩; have k3 := (k1.drewN n2).trans q3; have hb3c := kblk k3 H3; have y1c := cellB hb3c 1; have lt3c := ltB hb3c) | (go_at_call 7; (with_reducible refine (N2.out _ k3).mono ?_); rintro e w4 ⟨rfl, q4⟩; have k4 := k3.trans q4; have hb3d := kblk k4 H3; have y1d := cellB hb3d 1; have lt3d := ltB hb3d) | (go_at_call 7; (with_reducible refine (N3.out _ k4).mono ?_); rintro e w5 ⟨rfl, q5⟩; have k5 := k4.trans q5))
        go_ret
        exact ⟨rfl, (k0.trans k5).bel⟩
      | inr m2 =>
        rw [hR2] at N2
        clear J J' hR1 hR2 zF
        go_wp2_with (first | (go_at_call 7; (with_reducible refine (N1.out _ (k1.drewN n2)).mono ?_); rintro e w3 ⟨rfl, q3⟩; have k3 := (k1.drewN n2).trans q3; have hb3c := kblk k3 H3; have y1c := cellB hb3c 1; have lt3c := ltB hb3c) | (go_at_call 7; (with_reducible refine (N2.out _ k3).mono ?_); rintro e w4 ⟨p4, u4, rfl, hp4, hT4, q4⟩; have k4 := k3.trans q4; have hb3d := kblk k4 H3; have y1d := cellB hb3d 1; have lt3d := ltB hb3d) | (go_at_call 7; (with_reducible refine (N3.out _ k4).mono ?_); rintro e w5 ⟨rfl, q5⟩; have k5 := k4.trans q5))
        go_ret
        exact ⟨rfl, (k0.trans k5).bel⟩
    | inr m1 =>
      rw [hR1] at N1 J
      cases hR2 : newL N (l1.length + 1) l1 with
      | inl e2 =>
        rw [hR2] at N2 J
        have J' : newL N (G.length + 1) G = .inl (l0.length + 1 + e2) := J
        rw [J'] at N3
        have he := newL_err N _ _ _ hR2
        have ws : IntKind.i64.wrap ((e2 : Int) + ((l0.length : Int) + 1)) = ((l0.length + 1 + e2 : Nat) : Int) := by rw [IntWalk.i64_in _ (by omega)]; omega
        clear J J' hR1 hR2
        go_wp2_with (first | (go_at_call 7; (with_reducible refine (N1.out _ (k1.drewN n2)).mono ?_); rintro e w3 ⟨p3, u3, rfl, hp3, hT3, q3⟩; have k3 := (k1.drewN n2).trans q3; have hb3c := kblk k3 H3; have y1c := cellB hb3c 1; have lt3c := ltB hb3c) | (go_at_call 7; (with_reducible refine (N2.out _ k3).mono ?_); rintro e w4 ⟨rfl, q4⟩; have k4 := k3.trans q4; have hb3d := kblk k4 H3; have y1d := cellB hb3d 1; have lt3d := ltB hb3d) | (go_at_call 7; (with_reducible refine (N3.out _ k4).mono ?_); rintro e w5 ⟨rfl, q5⟩; have k5 := k4.trans q5))
        go_ret
        exact ⟨rfl, (k0.trans k5).bel⟩
      | inr m2 =>
        rw [hR2] at N2 J
        obtain ⟨p, x, y, r, j1, j2, j3⟩ := (show ∃ (l : List Pc) (x y : List UInt8) (r : List Pc), m1 = l ++ [Pc.t x] ∧ m2 = Pc.t y :: r ∧ newL N (G.length + 1) G = .inr (l ++ Pc.t (x ++ y) :: r) from J)
        rw [j3] at N3
        go_upto_region 13 with (first | (go_at_call 7; (with_reducible refine (N1.out _ (k1.drewN n2)).mono ?_); rintro e w3 ⟨p3, u3, rfl, hp3, hT3, q3⟩; have k3 := (k1.drewN n2).trans q3; have hb3c := kblk k3 H3; have y1c := cellB hb3c 1; have lt3c := ltB hb3c) | (go_at_call 7; (with_reducible refine (N2.out _ k3).mono ?_); rintro e w4 ⟨p4, u4, rfl, hp4, hT4, q4⟩; have k4 := k3.trans q4; have hb3d := kblk k4 H3; have y1d := cellB hb3d 1; have lt3d := ltB hb3d) | (go_at_call 7; (with_reducible refine (N3.out _ k4).mono ?_); rintro e w5 ⟨p5, u5, rfl, hp5, hT5, q5⟩; have k5 := k4.trans q5))
        have o1 := newL_ok N (by omega) _ _ _ (by have := lF.out; omega) hR1
        have o2 := newL_ok N (by omega) _ _ _ (by omega) hR2
        have o3 := newL_ok N (by omega) _ _ _ (by have := lG.out; omega) j3
        have n1 := newL_len N _ _ _ hR1
        have n2' := newL_len N _ _ _ hR2
        have n3 := newL_len N _ _ _ j3
        have lFo := lF.out
        have lGo := lG.out
        have e1 := expL_le t sl (by omega) (by omega) m1 o1.2
        have e2 := expL_le t sl (by omega) (by omega) m2 o2.2
        have hT3' := (hT3.kp q4).kp q5
        have hT4' := hT4.kp q5
        have sOf : ∀ W, Below w5.heap.size w5 W → (Below w5.heap.size w5 W ∧ W.cell? ⟨b5, 0, none⟩ = some (Value.string t) ∧ W.cell? ⟨b5, 1, none⟩ = some (Value.slice B sl.length cb)) := fun W k => by
          have h : W.heap[b5]? = some (Obj.cells #[Value.string t, Value.slice B sl.length cb] 34) := (k.block _ (ltB (kblk k5 H5))).trans (kblk k5 H5)
          exact ⟨k, cellB h 0, cellB h 1⟩
        have hB5 : ∀ W, Below w5.heap.size w5 W → Kd.C (Kd.int .i64) W B sl.length sl := fun W k => Kd.C_below hB ((k0.trans k5).bel.trans (k.mono (k0.trans k5).size))
        have XE : ∀ (b : Nat) (m : List Pc) (u : Value), TBox b (m.map Pc.val) u w5 → m ≠ [] → m.length ≤ 100000 → (∀ p ∈ m, okPc p) → ∀ W, (Below w5.heap.size w5 W ∧ W.cell? ⟨b5, 0, none⟩ = some (Value.string t) ∧ W.cell? ⟨b5, 1, none⟩ = some (Value.slice B sl.length cb)) → Calls Try.prog 8 #[.pointer (some ⟨b, 0, none⟩), .string t, .slice B sl.length cb] W fun e w' => e = .returned (.string ⟨(expL t sl m).toArray⟩) ∧ (Below w5.heap.size w5 w' ∧ w'.cell? ⟨b5, 0, none⟩ = some (Value.string t) ∧ w'.cell? ⟨b5, 1, none⟩ = some (Value.slice B sl.length cb)) := fun b m u hT hne hlen hok W hS => by
          have := expand_calls b m u t B cb sl W (hT.kp (Kp.ofBel hS.1)) hne hlen (by omega) hcb (by omega) (hB5 W hS.1) hok
          exact this.mono fun e w' ⟨h1, h2⟩ => ⟨h1, sOf _ (hS.1.trans (h2.mono hS.1.size))⟩
        have XG : ∀ (b : Nat) (m : List Pc) (u : Value), TBox b (m.map Pc.val) u w5 → m ≠ [] → m.length ≤ 100000 → ∀ W, (Below w5.heap.size w5 W ∧ W.cell? ⟨b5, 0, none⟩ = some (Value.string t) ∧ W.cell? ⟨b5, 1, none⟩ = some (Value.slice B sl.length cb)) → Calls Try.prog 11 #[.pointer (some ⟨b, 0, none⟩)] W fun e w' => ∃ v, e = .returned v ∧ w'.ownsRow W.heap.size 3 1 v (groupsL m).length ((groupsL m).map fun k => .int .i64 k) ∧ Kp [] W w' ∧ (Below w5.heap.size w5 w' ∧ w'.cell? ⟨b5, 0, none⟩ = some (Value.string t) ∧ w'.cell? ⟨b5, 1, none⟩ = some (Value.slice B sl.length cb)) := fun b m u hT hne hlen W hS => by
          refine (groups_calls b m u W (hT.kp (Kp.ofBel hS.1)) hne hlen).mono ?_
          rintro e w' ⟨v, rfl, ho, hk⟩
          exact ⟨v, rfl, ho, hk, sOf _ (hS.1.trans (hk.bel.mono hS.1.size))⟩
        have hex : expL t sl (p ++ Pc.t (x ++ y) :: r) = expL t sl m1 ++ expL t sl m2 := by
          rw [j1, j2, expL_app, expL_app]
          simp [expL]
        have hgr : groupsL (p ++ Pc.t (x ++ y) :: r) = groupsL m1 ++ groupsL m2 := by
          rw [j1, j2, groupsL_app, groupsL_app]
          simp [groupsL]
        have E1 := Lib.hid (XE p3 m1 u3 hT3' o1.1 (by omega) o1.2)
        have E2 := Lib.hid (XE p4 m2 u4 hT4' o2.1 (by omega) o2.2)
        have E3 := Lib.hid (XE p5 _ u5 hT5 o3.1 (by omega) o3.2)
        have G1 := Lib.hid (XG p3 m1 u3 hT3' o1.1 (by omega))
        have G2 := Lib.hid (XG p4 m2 u4 hT4' o2.1 (by omega))
        have G3 := Lib.hid (XG p5 _ u5 hT5 o3.1 (by omega))
        rw [hex] at E3
        rw [hgr] at G3
        have pe := str_add (expL t sl m1) (expL t sl m2) (by omega)
        have g1 := groupsL_le m1
        have g2 := groupsL_le m2
        have lg1 : Hid ((groupsL m1).length ≤ 100000) := Lib.hid (by omega)
        have lg2 : Hid ((groupsL m2).length ≤ 100000) := Lib.hid (by omega)
        generalize expL t sl m1 = x1 at *
        generalize expL t sl m2 = x2 at *
        generalize groupsL m1 = y1 at *
        generalize groupsL m2 = y2 at *
        generalize x1 ++ x2 = x3 at *
        have hS5 := sOf w5 (Below.refl _ _)
        have SO := Lib.hid sOf
        have cc0 := hS5.2.1
        have cc1 := hS5.2.2
        clear sOf hB5 XE XG hex hgr o1 o2 o3 n1 n2' n3 lFo lGo e1 e2 hT3' hT4' hT3 hT4 hT5 j1 j2 j3 J hR1 hR2 N1 N2 N3 g1 g2 pa pb hb3c hb3d y1c y1d lt3c lt3d q3 q4 q5 hp3 hp4 hp5 y0
        go_region_held3 (fun (w' : World) => (Below w5.heap.size w5 w' ∧ w'.cell? ⟨b5, 0, none⟩ = some (Value.string t) ∧ w'.cell? ⟨b5, 1, none⟩ = some (Value.slice B sl.length cb))) (first | assumption | exact ⟨below_drew (And.left (by assumption)), And.right (by assumption)⟩)
          (first
           | (go_at_call 8; (with_reducible refine (E3.out _ (by assumption)).mono ?_); clear E3; rintro e wA ⟨rfl, sA⟩)
           | (go_at_call 8; (with_reducible refine (E1.out _ (by assumption)).mono ?_); clear E1; rintro e wB ⟨rfl, sB⟩)
           | (go_at_call 8; (with_reducible refine (E2.out _ (by assumption)).mono ?_); clear E2; rintro e wC ⟨rfl, sC⟩)
           | (go_at_call 11; (with_reducible refine (G3.out _ (by assumption)).mono ?_); clear G3; rintro e wD ⟨vc, rfl, oc, kD, sD⟩)
           | (go_at_call 11; (with_reducible refine (G1.out _ (by assumption)).mono ?_); clear G1; rintro e wE ⟨va, rfl, oa, kE, sE⟩; have ocE := rowKp3 oc kE)
           | (go_at_call 11; (with_reducible refine (G2.out _ (by assumption)).mono ?_); clear G2; rintro e wF ⟨vb, rfl, ob, kF, sF⟩; have ocF := rowKp3 ocE kF; have oaF := rowKp3 oa kF)
           | (refine step_append2 (by rfl) _ _ rfl rfl _ _ va vb y1 y2 rfl rfl oaF ob (by have h1 := kF.size; have h2 := kE.size; omega) lg1.out lg2.out ?_
              intro vh wH oh hgw
              have sH := SO.out wH (sF.1.grown hgw sF.1.size (fun k hk => by have h1 := (oaF.lt k hk).1; have h2 := sD.1.size; omega))
              have ocH := ocF.kept (row := va.ownBlock) hgw (by
                cases hq : vc.ownBlock with
                | none => exact .inl rfl
                | some k => exact .inr (fun e => by have h1 := (oc.lt k hq).2; have h2 := (oaF.lt k (by first | exact e.symm | exact e)).1; omega)))
           | (go_at_call 10; refine (same_row vc vh (y1 ++ y2) _ _ wH (by have h1 := lg1.out; have h2 := lg2.out; rw [List.length_append]; omega) ocH oh).mono ?_; rintro e wI ⟨rfl, nI, rfl⟩; have sI := SO.out _ (pw_below_drewN sH.1 nI)))
        all_goals
          go_wp2_with fail
          go_ret
          exact ⟨rfl, (k0.trans k5).bel.trans (sI.1.mono (k0.trans k5).size)⟩
end Go.Proofs.Ytgjjkpnfnjpfgaa
