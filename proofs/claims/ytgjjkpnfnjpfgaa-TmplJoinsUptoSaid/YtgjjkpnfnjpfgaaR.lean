/- The law TmplWhole, walked. -/
import Derived.Test.YtgjjkpnfnjpfgaaP
import Derived.Test.YtgjjkpnfnjpfgaaPAllx12
namespace Go.Proofs.Ytgjjkpnfnjpfgaa
open Go.Shelf Go.RowKit PAll Go.Proofs.YtgjjkpnfnjpfgaaW.PrintWords Go.Proofs.YtgjjkpnfnjpfgaaW.PrintLast Go.Proofs.YtgjjkpnfnjpfgaaW.PrintMore
set_option linter.unusedVariables false
set_option linter.unusedSimpArgs false
theorem heap_alloc_drew (w : World) (o : Obj) : (w.alloc o).drew.heap[w.heap.size]? = some o := heap_alloc_new w o
theorem below_f (x m : Int) (h1 : 1 ≤ m) (h2 : m ≤ 1000000) : ∃ r : Nat, burinbook_Below.f x m = some (r : Int) ∧ (r : Int) < m := by
  have hu := Int.tmod_lt_of_pos x (show 0 < m by omega)
  have hl : -m < x.tmod m := by
    have := Int.tmod_lt_of_pos (-x) (show 0 < m by omega)
    rw [Int.neg_tmod] at this
    omega
  unfold burinbook_Below.f
  rw [if_neg (by omega), if_neg (by omega)]
  by_cases h : x.tmod m < 0
  · rw [if_pos h, w64 _ (by omega) (by omega)]
    exact ⟨(x.tmod m + m).toNat, by congr 1; omega, by omega⟩
  · rw [if_neg h]
    exact ⟨(x.tmod m).toNat, by congr 1; omega, by omega⟩
def wk3 : List Pc := [.t [60], .g 0, .t [], .g 1, .t [], .g 0, .t [62]]
theorem wk3_new : newL [] (([60, 36, 48, 36, 49, 36, 48, 62] : List UInt8).length + 1) [60, 36, 48, 36, 49, 36, 48, 62] = .inr wk3 := by rfl
theorem wk3_exp (l : List UInt8) (a b : Nat) (h1 : a ≤ b) (h2 : b ≤ l.length) : expL (bs l) [(a : Int), b, -1, -1] wk3 = 60 :: ((l.take b).drop a ++ ((l.take b).drop a ++ [62])) := by
  have s0 : saidL (bs l) [(a : Int), b, -1, -1] 0 = (l.take b).drop a := saidIn l _ 0 a b (by simp) (by simp) rfl rfl h1 h2
  have s1 : saidL (bs l) [(a : Int), b, -1, -1] 1 = [] := saidNo (bs l) _ 1 (by simp) (.inr (by simp))
  show [60] ++ (saidL (bs l) [(a : Int), b, -1, -1] 0 ++ ([] ++ (saidL (bs l) [(a : Int), b, -1, -1] 1 ++ ([] ++ (saidL (bs l) [(a : Int), b, -1, -1] 0 ++ ([62] ++ [])))))) = _
  rw [s0, s1]
  simp
theorem wk3_exp0 (t : ByteArray) : expL t [] wk3 = [60, 62] := by
  have s0 : saidL t [] 0 = [] := saidNo t _ 0 (by simp) (.inl (by simp))
  have s1 : saidL t [] 1 = [] := saidNo t _ 1 (by simp) (.inl (by simp))
  show [60] ++ (saidL t [] 0 ++ ([] ++ (saidL t [] 1 ++ ([] ++ (saidL t [] 0 ++ ([62] ++ [])))))) = _
  rw [s0, s1]
  rfl
set_option maxRecDepth 100000 in
set_option maxHeartbeats 4000000 in
theorem whole_walk (s : ByteArray) (a b : Int) (w : World) : Calls Try.prog 3 #[.string s, .int .i64 a, .int .i64 b] w fun e w' => e = .returned (.bool true) ∧ Below w.heap.size w w' := by
  by_cases h1000 : s.size ≤ 1000
  · have N3 := Lib.hid (show ∀ (W : World), Calls Try.prog 7 #[.string ⟨#[60, 36, 48, 36, 49, 36, 48, 62]⟩, .slice none 0 0] W fun e w' => NewPost W (.inr wk3) e w' from fun W => by
      have := new_calls none 0 [] [60, 36, 48, 36, 49, 36, 48, 62] W (by decide) (by decide) (by decide) (fun w' k => Kd.C_nil _ _)
      rw [wk3_new, bs_eq] at this
      exact this)
    obtain ⟨x, hx, hx2⟩ := below_f a ((s.size : Int) + 1) (by omega) (by omega)
    obtain ⟨y, hy, hy2⟩ := below_f b ((s.size : Int) + 1 - x) (by omega) (by omega)
    have B1 := Lib.hid (fun W => burinbook_Below.calls a ((s.size : Int) + 1) x W hx)
    have B2 := Lib.hid (fun W => burinbook_Below.calls b ((s.size : Int) + 1 - x) y W hy)
    have WC := Lib.hid works_calls
    have d0 : decide ((1000 : Int) < (s.size : Int)) = false := decide_eq_false (by omega)
    have w1 : IntKind.i64.wrap ((s.size : Int) + 1) = (s.size : Int) + 1 := IntWalk.i64_in _ (by omega)
    have w2 : IntKind.i64.wrap ((s.size : Int) + 1 - x) = (s.size : Int) + 1 - x := IntWalk.i64_in _ (by omega)
    obtain ⟨z, hz⟩ : ∃ z, z = x + y := ⟨_, rfl⟩
    have w3 : IntKind.i64.wrap ((x : Int) + y) = (z : Int) := by rw [IntWalk.i64_in _ (by omega)]; omega
    have i1 : (x : Int) ≤ (z : Int) := by omega
    have i2 : (z : Int) ≤ (s.size : Int) := by omega
    replace hz := Lib.hid hz
    clear hx hy
    go_enter Try.func3, Try.ntmps3
    go_upto_region 7 with (first | (go_at_call 5; refine (WC.out _).mono ?_; rintro e w1 ⟨rfl, k1⟩) | (go_at_call 6; with_reducible refine (B1.out _).mono ?_; rintro e w2 ⟨rfl, n2, rfl⟩) | (go_at_call 6; with_reducible refine (B2.out _).mono ?_; rintro e w2 ⟨rfl, n3, rfl⟩))
    clear B1 B2 WC
    go_upto_region 8 with (go_at_call 7; refine (N3.out _).mono ?_; rintro e w4 ⟨bb, u, rfl, hb, hT, k4⟩)
    clear N3
    have hk : Kp [] w w4 := by first | exact (k1.drewN _).trans k4 | exact ((k1.drewN _).drewN _).trans k4
    have hbx := ltB hT.box
    obtain ⟨sg, hsg⟩ : ∃ sg, sg = s.extract x z := ⟨_, rfl⟩
    have hsz : sg.size ≤ 1000 := by rw [hsg, ByteArray.size_extract]; omega
    obtain ⟨T1, hT1⟩ : ∃ T, T = ⟨#[60]⟩ ++ sg := ⟨_, rfl⟩
    obtain ⟨T2, hT2⟩ : ∃ T, T = T1 ++ sg := ⟨_, rfl⟩
    obtain ⟨R, hR⟩ : ∃ T, T = T2 ++ ⟨#[62]⟩ := ⟨_, rfl⟩
    have z1 : T1.size = 1 + sg.size := by rw [hT1, ByteArray.size_append]; rfl
    have z2 : T2.size = T1.size + sg.size := by rw [hT2, ByteArray.size_append]
    have ps : ∀ w, (Instr.slice 9 (.string s) (some (.int .i64 x)) (some (.int .i64 z)) none).run Try.prog w = .ok (.string sg) w := fun w => by rw [Go.run_slice_string w 9 s .i64 .i64 (x : Int) (z : Int) Try.underlying9 (by omega) i1 i2, hsg]; rfl
    have pa1 : ∀ w, (Op.stringOp .add ⟨#[60]⟩ sg).run Try.prog w = .ok (.string T1) w := fun w => by rw [hT1]; exact run_string_add_sum w _ _ (by show 1 + sg.size ≤ _; omega)
    have pa2 : ∀ w, (Op.stringOp .add T1 sg).run Try.prog w = .ok (.string T2) w := fun w => by rw [hT2]; exact run_string_add_sum w _ _ (by omega)
    have pa3 : ∀ w, (Op.stringOp .add T2 ⟨#[62]⟩).run Try.prog w = .ok (.string R) w := fun w => by rw [hR]; exact run_string_add_sum w _ _ (by show T2.size + 1 ≤ _; omega)
    have X1 := Lib.hid (show ∀ (g : Nat) (W : World), Below w4.heap.size w4 W → W.heap[g]? = some (.cells #[.int .i64 x, .int .i64 z, .int .i64 (-1), .int .i64 (-1)] 3 (0, 0)) → Calls Try.prog 8 #[.pointer (some ⟨bb, 0, none⟩), .string s, .slice (some ⟨g, 0, none⟩) 4 4] W fun e w' => e = .returned (.string R) ∧ Below w4.heap.size w4 w' from fun g W hb h => by
      have hC : Kd.C (Kd.int .i64) W (some ⟨g, 0, none⟩) 4 [(x : Int), (z : Int), -1, -1] := lits (enc := Value.int .i64) 0 [(x : Int), (z : Int), -1, -1] (by simp) h
      have := expand_calls bb wk3 u s (some ⟨g, 0, none⟩) 4 [(x : Int), (z : Int), -1, -1] W (hT.kp (Kp.ofBel hb)) (by simp [wk3]) (by simp [wk3]) (by omega) (by simp) (by simp) hC (by simp [wk3, okPc])
      have hx := wk3_exp s.toList x z (by omega) (by rw [ByteArray.toList_eq, Array.length_toList]; show _ ≤ s.size; omega)
      rw [← bs_of] at hx
      rw [hx] at this
      have hRR : R = ⟨(60 :: ((s.toList.take z).drop x ++ ((s.toList.take z).drop x ++ [62]))).toArray⟩ := by
        have e1 : sg = bs ((s.toList.take z).drop x) := by rw [hsg, bs_of s, bs_ext, bs_list]
        rw [hR, hT2, hT1, e1, bs_of (_ ++ _), ← bs_eq]
        congr 1
        simp [ByteArray.toList_eq, bs_eq]
      rw [← hRR] at this
      exact this.mono fun e w' ⟨h1, h2⟩ => ⟨h1, hb.trans (h2.mono hb.size)⟩)
    have X2 := Lib.hid (show ∀ (W : World), Below w4.heap.size w4 W → Calls Try.prog 8 #[.pointer (some ⟨bb, 0, none⟩), .string s, .slice none 0 0] W fun e w' => e = .returned (.string ⟨#[60, 62]⟩) ∧ Below w4.heap.size w4 w' from fun W hb => by
      have := expand_calls bb wk3 u s none 0 [] W (hT.kp (Kp.ofBel hb)) (by simp [wk3]) (by simp [wk3]) (by omega) (by simp) (by simp) (Kd.C_nil _ _) (by simp [wk3, okPc])
      rw [wk3_exp0] at this
      exact this.mono fun e w' ⟨h1, h2⟩ => ⟨h1, hb.trans (h2.mono hb.size)⟩)
    clear hsg hsz hT1 hT2 hR z1 z2
    have hB0 : Below w4.heap.size w4 w4 := Below.refl _ _
    go_region_held3 (fun (w' : World) => Below w4.heap.size w4 w') (first | assumption | exact below_drew (by assumption) | exact below_alloc (by assumption) _ | exact below_alloc (below_drew (by assumption)) _) (first | (go_at_call 8; have HX := X2.out _ kb5; with_reducible refine HX.mono ?_; rintro e w6 ⟨rfl, kb6⟩) | (go_at_call 8; have HX := X2.out _ (below_drew kb5); with_reducible refine HX.mono ?_; rintro e w6 ⟨rfl, kb6⟩) | (go_at_call 8; have HX := X1.out _ _ (below_drew (below_alloc hB0 (.cells #[.int .i64 x, .int .i64 z, .int .i64 (-1), .int .i64 (-1)] 3 (0, 0)))) (heap_alloc_drew w4 (.cells #[.int .i64 x, .int .i64 z, .int .i64 (-1), .int .i64 (-1)] 3 (0, 0))); refine HX.mono ?_; rintro e w5 ⟨rfl, kb5⟩))
    all_goals
      go_wp2_with fail
      go_ret
      exact ⟨rfl, hk.bel.trans (kb6.mono hk.size)⟩
  · have d0 : decide ((1000 : Int) < (s.size : Int)) = true := decide_eq_true (by omega)
    have WC := Lib.hid works_calls
    go_enter Try.func3, Try.ntmps3
    go_wp2_with (go_at_call 5; refine (WC.out _).mono ?_; rintro e w1 ⟨rfl, k1⟩)
    go_ret
    exact ⟨rfl, k1.bel⟩
theorem whole_row (W : World) (s : ByteArray) (a b : Int) (hz : s.size ≤ 140737488351232) : Calls Try.prog 3 #[.string s, .int .i64 a, .int .i64 b] W fun e w' => e = .returned (.bool true) ∧ Below W.heap.size W w' := whole_walk s a b W
end Go.Proofs.Ytgjjkpnfnjpfgaa
