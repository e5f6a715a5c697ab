/- The laws UtfJoins, UtfBack and UtfOrder: the walks. -/
import Derived.Test.YtbcmjpmnljfolaaI
namespace Go.Proofs.Ytbcmjpmnljfolaa
open Go.RowKit PUtfPieces Go.Proofs.YtbcmjpmnljfolaaW.PrintWords Go.Proofs.YtbcmjpmnljfolaaW.PrintLast Go.Proofs.YtbcmjpmnljfolaaW.PrintMore
set_option linter.unusedVariables false

theorem joins_walk (W : World) (s t : ByteArray) (ws : s.size ≤ 140737488351232) (wt : t.size ≤ 140737488351232) :
    Calls Try.prog 6 #[.string s, .string t] W fun e w' => e = .returned (.bool true) ∧ Below W.heap.size W w' := by
  refine Calls.mono (R := fun e w' => e = .returned (.bool true) ∧ Kp [] W w') ?_ (fun e w' h => ⟨h.1, h.2.below (Nat.le_refl _) (by simp)⟩)
  by_cases h1 : (300 : Int) < s.size
  · have d1 : decide ((300 : Int) < s.size) = true := decide_eq_true h1
    go_enter Try.func6, Try.ntmps6
    go_wp2_with fail
    refine (works_any _).mono ?_
    rintro e w1 ⟨rfl, k1⟩
    go_wp2_with fail
    go_ret
    exact ⟨rfl, k1⟩
  have d1 : decide ((300 : Int) < s.size) = false := decide_eq_false h1
  by_cases h2 : (300 : Int) < t.size
  · have d2 : decide ((300 : Int) < t.size) = true := decide_eq_true h2
    go_enter Try.func6, Try.ntmps6
    go_wp2_with fail
    refine (works_any _).mono ?_
    rintro e w1 ⟨rfl, k1⟩
    go_wp2_with fail
    go_ret
    exact ⟨rfl, k1⟩
  have d2 : decide ((300 : Int) < t.size) = false := decide_eq_false h2
  have HS := Lib.hid (fun w => valid_any s (by omega) w)
  have HT := Lib.hid (fun w => valid_any t (by omega) w)
  cases hs : validL (pcs s) with
  | false =>
    rw [hs] at HS
    clear hs
    go_enter Try.func6, Try.ntmps6
    go_wp2_with fail
    refine (works_any _).mono ?_
    rintro e w1 ⟨rfl, k1⟩
    go_wp2_with fail
    refine (HS.out _).mono ?_
    rintro e w2 ⟨rfl, k2⟩
    go_wp2_with fail
    go_ret
    exact ⟨rfl, k1.trans (Kp.ofBelow k2)⟩
  | true =>
    rw [hs] at HS
    cases ht : validL (pcs t) with
    | false =>
      rw [ht] at HT
      clear hs ht
      go_enter Try.func6, Try.ntmps6
      go_wp2_with fail
      refine (works_any _).mono ?_
      rintro e w1 ⟨rfl, k1⟩
      go_wp2_with fail
      refine (HS.out _).mono ?_
      rintro e w2 ⟨rfl, k2⟩
      go_wp2_with fail
      refine (HT.out _).mono ?_
      rintro e w3 ⟨rfl, k3⟩
      go_wp2_with fail
      go_ret
      exact ⟨rfl, (k1.trans (Kp.ofBelow k2)).trans (Kp.ofBelow k3)⟩
    | true =>
      rw [ht] at HT
      obtain ⟨hj1, hj2⟩ := joins s t hs ht
      have HJ := Lib.hid (fun w => valid_any (s ++ t) (by rw [app_size]; omega) w)
      have HC := Lib.hid (fun w => count_any (s ++ t) (by rw [app_size]; omega) w)
      have HA := Lib.hid (fun w => count_any s (by omega) w)
      have HB := Lib.hid (fun w => count_any t (by omega) w)
      have l1 := pcs_len s
      have l2 := pcs_len t
      rw [hj1] at HJ
      rw [hj2] at HC
      obtain ⟨n1, e1⟩ : ∃ n, n = (pcs s).length := ⟨_, rfl⟩
      obtain ⟨n2, e2⟩ : ∃ n, n = (pcs t).length := ⟨_, rfl⟩
      rw [← e1, ← e2] at HC
      rw [← e1] at HA l1
      rw [← e2] at HB l2
      clear hs ht hj1 hj2 e1 e2
      go_enter Try.func6, Try.ntmps6
      go_wp2_with fail
      refine (works_any _).mono ?_
      rintro e w1 ⟨rfl, k1⟩
      go_wp2_with fail
      refine (HS.out _).mono ?_
      rintro e w2 ⟨rfl, k2⟩
      go_wp2_with fail
      refine (HT.out _).mono ?_
      rintro e w3 ⟨rfl, k3⟩
      go_wp2_with fail
      refine (HJ.out _).mono ?_
      rintro e w4 ⟨rfl, k4⟩
      go_wp2_with fail
      refine (HC.out _).mono ?_
      rintro e w5 ⟨rfl, k5⟩
      go_wp2_with fail
      refine (HA.out _).mono ?_
      rintro e w6 ⟨rfl, k6⟩
      go_wp2_with fail
      refine (HB.out _).mono ?_
      rintro e w7 ⟨rfl, k7⟩
      go_wp2_with fail
      go_ret
      exact ⟨rfl, (((((k1.trans (Kp.ofBelow k2)).trans (Kp.ofBelow k3)).trans (Kp.ofBelow k4)).trans (Kp.ofBelow k5)).trans (Kp.ofBelow k6)).trans (Kp.ofBelow k7)⟩
theorem back_zp (W : World) (r : Int) (s : ByteArray) (ws : s.size ≤ 140737488351232) (hw : wid r = 0) (h0 : 0 ≤ (dec s).1) :
    Calls Try.prog 4 #[.int .i64 r, .string s] W fun e w' => e = .returned (.bool true) ∧ Kp [] W w' := by
  have HD := Lib.hid (fun w => decode_any s w)
  have HE := Lib.hid (fun w => encode_any r w)
  have HW := Lib.hid (fun w => width_any r w)
  rw [show encL r = [] from by unfold encL; rw [if_pos hw], show codeE r = 1 from by unfold codeE; rw [if_pos hw], show strOfNums [] = ⟨#[]⟩ from rfl] at HE
  rw [hw] at HW
  clear hw
  have HX := Lib.hid (fun w => encode_any (dec s).1 w)
  have hback := dec_back s h0
  obtain ⟨x, hx⟩ : ∃ x, x = (dec s).1 := ⟨_, rfl⟩
  obtain ⟨n, hn⟩ : ∃ n, n = (dec s).2 := ⟨_, rfl⟩
  rw [← hx, ← hn] at HD hback
  rw [← hx] at HX h0
  clear hx hn
  obtain ⟨ex, hex⟩ : ∃ ex, ex = strOfNums (encL x) := ⟨_, rfl⟩
  rw [← hex] at HX hback
  clear hex
  obtain ⟨b1, b2, b3, b4⟩ := hback
  rw [b3, b4] at HX
  clear b3 b4
  obtain ⟨m, rfl⟩ : ∃ m : Nat, n = m := ⟨n.toNat, by omega⟩
  rw [Int.toNat_natCast] at HX
  have d0 : decide (0 ≤ x) = true := decide_eq_true h0
  have d1 : ¬ (m : Int) < 1 := by omega
  have d2 : ¬ (s.size : Int) < m := by omega
  go_enter Try.func4, Try.ntmps4
  go_wp2_with fail
  refine (works_any _).mono ?_
  rintro e w1 ⟨rfl, k1⟩
  go_wp2_with fail
  refine (HD.out _).mono ?_
  rintro e w2 ⟨rfl, k2⟩
  go_wp2_with fail
  refine (HX.out _).mono ?_
  rintro e w3 ⟨rfl, k3⟩
  have KK := (k1.trans k2).trans k3
  go_wp2_with fail
  refine (HE.out _).mono ?_
  rintro e w4 ⟨rfl, k4⟩
  go_wp2_with fail
  refine (HW.out _).mono ?_
  rintro e w5 ⟨rfl, rfl⟩
  go_wp2_with fail
  go_ret
  exact ⟨rfl, KK.trans k4⟩

theorem back_np (W : World) (r : Int) (s : ByteArray) (ws : s.size ≤ 140737488351232) (hw : wid r ≠ 0) (h0 : 0 ≤ (dec s).1) :
    Calls Try.prog 4 #[.int .i64 r, .string s] W fun e w' => e = .returned (.bool true) ∧ Kp [] W w' := by
  have HD := Lib.hid (fun w => decode_any s w)
  have HE := Lib.hid (fun w => encode_any r w)
  have HW := Lib.hid (fun w => width_any r w)
  obtain ⟨hf1, hf2⟩ := dec_enc r s hw
  have HZ := Lib.hid (fun w => decode_any (strOfNums (encL r) ++ s) w)
  rw [hf1] at HZ
  rw [show codeE r = 0 from by unfold codeE; rw [if_neg hw]] at HE
  simp only [] at HZ
  rw [← hf2] at HW HZ
  have hw4 := wid_range r
  have hes4 : (strOfNums (encL r)).size ≤ 4 := by omega
  clear hf1 hf2 hw hw4
  obtain ⟨es, hes⟩ : ∃ es, es = strOfNums (encL r) := ⟨_, rfl⟩
  rw [← hes] at HE HW HZ hes4
  clear hes
  have HX := Lib.hid (fun w => encode_any (dec s).1 w)
  have hback := dec_back s h0
  obtain ⟨x, hx⟩ : ∃ x, x = (dec s).1 := ⟨_, rfl⟩
  obtain ⟨n, hn⟩ : ∃ n, n = (dec s).2 := ⟨_, rfl⟩
  rw [← hx, ← hn] at HD hback
  rw [← hx] at HX h0
  clear hx hn
  obtain ⟨ex, hex⟩ : ∃ ex, ex = strOfNums (encL x) := ⟨_, rfl⟩
  rw [← hex] at HX hback
  clear hex
  obtain ⟨b1, b2, b3, b4⟩ := hback
  rw [b3, b4] at HX
  clear b3 b4
  obtain ⟨m, rfl⟩ : ∃ m : Nat, n = m := ⟨n.toNat, by omega⟩
  rw [Int.toNat_natCast] at HX
  have d0 : decide (0 ≤ x) = true := decide_eq_true h0
  have d1 : ¬ (m : Int) < 1 := by omega
  have d2 : ¬ (s.size : Int) < m := by omega
  go_enter Try.func4, Try.ntmps4
  go_wp2_with fail
  refine (works_any _).mono ?_
  rintro e w1 ⟨rfl, k1⟩
  go_wp2_with fail
  refine (HD.out _).mono ?_
  rintro e w2 ⟨rfl, k2⟩
  go_wp2_with fail
  refine (HX.out _).mono ?_
  rintro e w3 ⟨rfl, k3⟩
  have KK := (k1.trans k2).trans k3
  go_wp2_with fail
  refine (HE.out _).mono ?_
  rintro e w4 ⟨rfl, k4⟩
  go_wp2_with fail
  refine (HZ.out _).mono ?_
  rintro e w5 ⟨rfl, k5⟩
  go_wp2_with fail
  refine (HW.out _).mono ?_
  rintro e w6 ⟨rfl, rfl⟩
  go_wp2_with fail
  go_ret
  exact ⟨rfl, (KK.trans k4).trans k5⟩

theorem back_zn (W : World) (r : Int) (s : ByteArray) (ws : s.size ≤ 140737488351232) (hw : wid r = 0) (h0 : (dec s).1 < 0) :
    Calls Try.prog 4 #[.int .i64 r, .string s] W fun e w' => e = .returned (.bool true) ∧ Kp [] W w' := by
  have HD := Lib.hid (fun w => decode_any s w)
  have HE := Lib.hid (fun w => encode_any r w)
  have HW := Lib.hid (fun w => width_any r w)
  rw [show encL r = [] from by unfold encL; rw [if_pos hw], show codeE r = 1 from by unfold codeE; rw [if_pos hw], show strOfNums [] = ⟨#[]⟩ from rfl] at HE
  rw [hw] at HW
  clear hw
  have hnot := dec_not s h0
  obtain ⟨x, hx⟩ : ∃ x, x = (dec s).1 := ⟨_, rfl⟩
  obtain ⟨n, hn⟩ : ∃ n, n = (dec s).2 := ⟨_, rfl⟩
  rw [← hx, ← hn] at HD
  rw [← hx] at h0
  rw [← hn] at hnot
  clear hx hn
  have hmin : (if s.size = 0 then (0 : Int) else 1) = if (1 : Int) < (s.size : Int) then 1 else (s.size : Int) := by
    repeat' split
    all_goals omega
  rw [hmin] at hnot
  clear hmin
  subst hnot
  have d0 : decide (0 ≤ x) = false := decide_eq_false (by omega)
  obtain ⟨mn, hmn⟩ : ∃ mn, mn = if (1 : Int) < (s.size : Int) then 1 else (s.size : Int) := ⟨_, rfl⟩
  have d1 : ¬ (1 : Int) < mn := by rw [hmn]; split <;> omega
  have hmn' : (if (1 : Int) < (s.size : Int) then 1 else (s.size : Int)) = mn := hmn.symm
  rw [hmn'] at HD
  clear hmn
  have hmin2 : ∀ (ats : Array TypeId) (ty : TypeId), Builtin.min_ ats ty #[Value.int .i64 (s.size : Int), Value.int .i64 1] = pure (Value.int .i64 mn) := by
    intro ats ty
    rw [min_two, min2_int, hmn']
    rfl
  go_enter Try.func4, Try.ntmps4
  go_wp2_with fail
  refine (works_any _).mono ?_
  rintro e w1 ⟨rfl, k1⟩
  go_wp2_with fail
  refine (HD.out _).mono ?_
  rintro e w2 ⟨rfl, k2⟩
  go_wp2_with fail
  have KK := k1.trans k2
  refine (HE.out _).mono ?_
  rintro e w4 ⟨rfl, k4⟩
  go_wp2_with fail
  refine (HW.out _).mono ?_
  rintro e w5 ⟨rfl, rfl⟩
  go_wp2_with fail
  go_ret
  exact ⟨rfl, KK.trans k4⟩

theorem back_nn (W : World) (r : Int) (s : ByteArray) (ws : s.size ≤ 140737488351232) (hw : wid r ≠ 0) (h0 : (dec s).1 < 0) :
    Calls Try.prog 4 #[.int .i64 r, .string s] W fun e w' => e = .returned (.bool true) ∧ Kp [] W w' := by
  have HD := Lib.hid (fun w => decode_any s w)
  have HE := Lib.hid (fun w => encode_any r w)
  have HW := Lib.hid (fun w => width_any r w)
  obtain ⟨hf1, hf2⟩ := dec_enc r s hw
  have HZ := Lib.hid (fun w => decode_any (strOfNums (encL r) ++ s) w)
  rw [hf1] at HZ
  rw [show codeE r = 0 from by unfold codeE; rw [if_neg hw]] at HE
  simp only [] at HZ
  rw [← hf2] at HW HZ
  have hw4 := wid_range r
  have hes4 : (strOfNums (encL r)).size ≤ 4 := by omega
  clear hf1 hf2 hw hw4
  obtain ⟨es, hes⟩ : ∃ es, es = strOfNums (encL r) := ⟨_, rfl⟩
  rw [← hes] at HE HW HZ hes4
  clear hes
  have hnot := dec_not s h0
  obtain ⟨x, hx⟩ : ∃ x, x = (dec s).1 := ⟨_, rfl⟩
  obtain ⟨n, hn⟩ : ∃ n, n = (dec s).2 := ⟨_, rfl⟩
  rw [← hx, ← hn] at HD
  rw [← hx] at h0
  rw [← hn] at hnot
  clear hx hn
  have hmin : (if s.size = 0 then (0 : Int) else 1) = if (1 : Int) < (s.size : Int) then 1 else (s.size : Int) := by
    repeat' split
    all_goals omega
  rw [hmin] at hnot
  clear hmin
  subst hnot
  have d0 : decide (0 ≤ x) = false := decide_eq_false (by omega)
  obtain ⟨mn, hmn⟩ : ∃ mn, mn = if (1 : Int) < (s.size : Int) then 1 else (s.size : Int) := ⟨_, rfl⟩
  have d1 : ¬ (1 : Int) < mn := by rw [hmn]; split <;> omega
  have hmn' : (if (1 : Int) < (s.size : Int) then 1 else (s.size : Int)) = mn := hmn.symm
  rw [hmn'] at HD
  clear hmn
  have hmin2 : ∀ (ats : Array TypeId) (ty : TypeId), Builtin.min_ ats ty #[Value.int .i64 (s.size : Int), Value.int .i64 1] = pure (Value.int .i64 mn) := by
    intro ats ty
    rw [min_two, min2_int, hmn']
    rfl
  go_enter Try.func4, Try.ntmps4
  go_wp2_with fail
  refine (works_any _).mono ?_
  rintro e w1 ⟨rfl, k1⟩
  go_wp2_with fail
  refine (HD.out _).mono ?_
  rintro e w2 ⟨rfl, k2⟩
  go_wp2_with fail
  have KK := k1.trans k2
  refine (HE.out _).mono ?_
  rintro e w4 ⟨rfl, k4⟩
  go_wp2_with fail
  refine (HZ.out _).mono ?_
  rintro e w5 ⟨rfl, k5⟩
  go_wp2_with fail
  refine (HW.out _).mono ?_
  rintro e w6 ⟨rfl, rfl⟩
  go_wp2_with fail
  go_ret
  exact ⟨rfl, (KK.trans k4).trans k5⟩

theorem back_walk (W : World) (r : Int) (s : ByteArray) (wr : (Lit.int .i64 r).wf = true) (ws : s.size ≤ 140737488351232) :
    Calls Try.prog 4 #[.int .i64 r, .string s] W fun e w' => e = .returned (.bool true) ∧ Below W.heap.size W w' := by
  refine Calls.mono (R := fun e w' => e = .returned (.bool true) ∧ Kp [] W w') ?_ (fun e w' h => ⟨h.1, h.2.below (Nat.le_refl _) (by simp)⟩)
  by_cases hw : wid r = 0
  · by_cases h0 : 0 ≤ (dec s).1
    · exact back_zp W r s ws hw h0
    · exact back_zn W r s ws hw (by omega)
  · by_cases h0 : 0 ≤ (dec s).1
    · exact back_np W r s ws hw h0
    · exact back_nn W r s ws hw (by omega)
end Go.Proofs.Ytbcmjpmnljfolaa
