/- The law ProgBack, walked. -/
import Derived.Test.YtkjkkebaafmheaaDoorM4
namespace Go.Proofs.YtkjkkebaafmheaaDoor
open Go.RowKit PAll Go.Proofs.YtkjkkebaafmheaaDoorW.PrintWords Go.Proofs.YtkjkkebaafmheaaDoorW.PrintLast Go.Proofs.YtkjkkebaafmheaaDoorW.PrintMore
open Go.Shelf
set_option linter.unusedVariables false
set_option linter.unusedSimpArgs false
theorem prog_len {l : List S35} {a b : Int} (h : checkB l a b = 0) : (progT l a b).length ≤ 1000 + 1000 * l.length := by
  obtain ⟨c1, c2, c3, c4⟩ := check_ok h
  have hh := head_len a.toNat b.toNat (by omega) (by omega)
  have e2 : headT ((a.toNat : Nat) : Int) ((b.toNat : Nat) : Int) = headT a b := by unfold headT; rw [Int.toNat_natCast, Int.toNat_natCast]
  rw [e2] at hh
  have key : ∀ r : List S35, (∀ x ∈ r, fitsB x = true) → (r.flatMap instT).length ≤ 1000 * r.length := by
    intro r
    induction r with
    | nil => intro _; simp
    | cons x r ih =>
      intro hr
      have h1 := ih (fun y hy => hr y (by simp [hy]))
      have h2 := inst_len (fits_raw (hr x (by simp)))
      rw [List.flatMap_cons, List.length_append, List.length_cons]
      omega
  have := key l c4
  unfold progT
  rw [List.length_append]
  omega
theorem prog_ne {l : List S35} {a b : Int} : progT l a b ≠ [] := by
  unfold progT headT; simp
theorem ext_last (t : List UInt8) : (bs t).extract 0 (t.length - 1) = bs t.dropLast := by
  rw [bs_ext, List.dropLast_eq_take]; rfl
def ReadNo (w : World) (e : Ending) (w' : World) : Prop := e = .returned (.tuple #[.agg #[.slice none 0 0, .int .i64 0, .int .i64 0], .int .i64 130]) ∧ Kp [] w w'
theorem read_is_no {l : List UInt8} {w : World} {e : Ending} {w' : World} (hn : readL l = none) (h : ReadPost l w e w') : e = .returned (.tuple #[.agg #[.slice none 0 0, .int .i64 0, .int .i64 0], .int .i64 130]) ∧ Kp [] w w' := by
  obtain ⟨k, h⟩ := h
  rw [hn] at h
  exact ⟨h, k⟩
theorem read_is {l : List UInt8} {w : World} {e : Ending} {w' : World} {xs : List S35} {a b : Int} (hn : readL l = some (xs, a, b)) (h : ReadPost l w e w') : ∃ A c, e = .returned (.tuple #[.agg #[.slice A xs.length c, .int .i64 a, .int .i64 b], .int .i64 0]) ∧ Kd.C k35 w' A xs.length xs ∧ xs.length ≤ c ∧ Kp [] w w' := by
  obtain ⟨k, h⟩ := h
  rw [hn] at h
  obtain ⟨v, rfl, hR⟩ := h
  obtain ⟨A, c, rfl, h1, h2⟩ := Kd.R_reads hR
  exact ⟨A, c, rfl, h2, h1, k⟩
set_option maxRecDepth 100000 in
set_option maxHeartbeats 8000000 in
theorem back_walk (W : World) (A : Option Addr) (cap : Nat) (l : List S35) (s q : Int) (st : List UInt8) (m : Int) (hm : W.cell? ⟨0, 0, none⟩ = some (.int .i64 m)) (hC : Kd.C k35 W A l.length l) (hcap : l.length ≤ cap) (hmax : l.length ≤ 9223372036854775807) (hst : st.length ≤ 9223372036854775807) :
    Calls Tryd.prog 6 #[.agg #[.slice A l.length cap, .int .i64 s, .int .i64 q], .string (bs st)] W fun e w' => e = .returned (.bool true) ∧ Below W.heap.size W w' := by
  have kk := (Kp.refl [] W).alloc (.cells #[.slice A l.length cap, .int .i64 s, .int .i64 q] 24)
  have hb := heap_alloc_new W (.cells #[.slice A l.length cap, .int .i64 s, .int .i64 q] 24)
  have CW := Lib.hid (show ∀ W2, Kp [] W W2 → Calls Tryd.prog 7 #[] W2 fun e w' => e = .returned (.bool true) ∧ Kp [] W2 w' from fun W2 k => works_calls m W2 (kcell k hm))
  have hsz : (bs st).size = st.length := bs_size st
  have RD := Lib.hid (show ∀ (t : List UInt8) W2, Kp [] W W2 → t.length ≤ 1000000 → Calls Tryd.prog 10 #[.string (bs t)] W2 (ReadPost t W2) from fun t W2 k ht => read_calls t m W2 (kcell k hm) ht)
  have CS := Lib.hid (show ∀ W2, Kp [] W W2 → Calls Tryd.prog 8 #[.agg #[.slice A l.length cap, .int .i64 s, .int .i64 q]] W2 fun e w' => e = .returned (.tuple #[.string (bs (showL l s q).1), .int .i64 (showL l s q).2]) ∧ Kp [] W2 w' from fun W2 k => show_calls A cap l s q W2 (Kd.C_below hC (k.below (Nat.le_refl _) (by simp))) hcap)
  have CK := Lib.hid (show ∀ W2, Kp [] W W2 → Calls Tryd.prog 15 #[.agg #[.slice A l.length cap, .int .i64 s, .int .i64 q]] W2 fun e w' => e = .returned (.int .i64 (checkB l s q)) ∧ Kp [] W2 w' from fun W2 k => check_calls A cap l s q W2 (Kd.C_below hC (k.below (Nat.le_refl _) (by simp))))
  have CE := Lib.hid (show ∀ W2, Kp [] W W2 → l.length ≤ 1000000 → ∀ B c, Kd.C k35 W2 B l.length l → l.length ≤ c → Calls Tryd.prog 12 #[.agg #[.slice A l.length cap, .int .i64 s, .int .i64 q], .agg #[.slice B l.length c, .int .i64 s, .int .i64 q]] W2 fun e w' => e = .returned (.bool true) ∧ Kp [] W2 w' from fun W2 k hl B c hB hc => by
    have := rsame_calls A B cap c l l s q s q (.inl hl) hcap hc W2 (Kd.C_below hC (k.below (Nat.le_refl _) (by simp))) hB
    rw [sameP_refl] at this
    exact this)
  have CF := Lib.hid (show ∀ W2, Kp [] W W2 → l.length ≤ 1000000 → ∀ B c, Kd.C k35 W2 B l.length l → l.length ≤ c → Calls Tryd.prog 18 #[.agg #[.slice A l.length cap, .int .i64 s, .int .i64 q], .agg #[.slice B l.length c, .int .i64 s, .int .i64 q]] W2 fun e w' => e = .returned (.bool true) ∧ Kp [] W2 w' from fun W2 k hl B c hB hc => by
    have := same_calls A B cap c l l s q s q (.inl hl) hcap hc W2 (Kd.C_below hC (k.below (Nat.le_refl _) (by simp))) hB
    rw [sameP_refl] at this
    exact this)
  clear hm hC
  go_enter Tryd.func6, Tryd.ntmps6
  go_wp2_with fail
  refine (CW.out _ kk).mono ?_
  rintro e w1 ⟨rfl, k1⟩
  replace kk := kk.trans k1
  replace hb := kblk k1 hb
  obtain ⟨b2, hb2⟩ : ∃ b, b = W.heap.size := ⟨_, rfl⟩
  rw [← hb2] at hb ⊢
  replace hb2 := Lib.hid hb2
  clear k1 CW
  have p0 := cellB hb 0; have p1 := cellB hb 1; have p2 := cellB hb 2
  simp at p0 p1 p2
  have lt2 := ltB hb
  by_cases h5 : 100 < l.length
  · have d5 : decide ((100 : Int) < (l.length : Int)) = true := decide_eq_true (by omega)
    go_wp2_with fail
    go_ret
    exact ⟨rfl, fin_kp kk⟩
  have d5 : decide ((100 : Int) < (l.length : Int)) = false := decide_eq_false (by omega)
  by_cases h6 : 3000 < st.length
  · have d6 : decide ((3000 : Int) < (st.length : Int)) = true := decide_eq_true (by omega)
    go_wp2_with fail
    go_ret
    exact ⟨rfl, fin_kp kk⟩
  have d6 : decide ((3000 : Int) < (st.length : Int)) = false := decide_eq_false (by omega)
  have RB := Lib.hid ((RD.out st _ kk (by omega)).mono (fun e w' h => read_both h))
  have hrd : (readR st).2.2.2 = 0 ∧ showL (readR st).1 (readR st).2.1 (readR st).2.2.1 = (st, 0) ∧ checkB (readR st).1 (readR st).2.1 (readR st).2.2.1 = 0 ∨ (readR st).2.2.2 = 130 ∧ (readR st).1 = [] := by
    unfold readR
    cases hr : readL st with
    | none => exact .inr ⟨rfl, rfl⟩
    | some t =>
      obtain ⟨xs, a, b⟩ := t
      obtain ⟨e1, e2⟩ := (readL_iff st xs a b).1 hr
      exact .inl ⟨rfl, by unfold showL; rw [if_pos e1, e2], e1⟩
  obtain ⟨l2, a2, b2', x2, hd⟩ : ∃ l2 a2 b2 x2, readR st = (l2, a2, b2, x2) := ⟨_, _, _, _, rfl⟩
  unfold ReadBoth at RB
  have hdl := readR_len st
  rw [hd] at RB hrd hdl
  dsimp only at RB hrd hdl
  replace hd := Lib.hid hd
  replace hrd := Lib.hid hrd
  go_wp2_with fail
  refine RB.out.mono ?_
  rintro e w3 ⟨A3, c3, rfl, hR3, k3⟩
  replace kk := kk.trans k3
  replace hb := kblk k3 hb
  have ka := (Kp.refl [] w3).alloc (.cells #[.slice A3 l2.length c3, .int .i64 a2, .int .i64 b2'] 24)
  have hb3 := heap_alloc_new w3 (.cells #[.slice A3 l2.length c3, .int .i64 a2, .int .i64 b2'] 24)
  obtain ⟨b9, hb9⟩ : ∃ b, b = w3.heap.size := ⟨_, rfl⟩
  obtain ⟨w4, hw4⟩ : ∃ w4, w4 = w3.alloc (.cells #[.slice A3 l2.length c3, .int .i64 a2, .int .i64 b2'] 24) := ⟨_, rfl⟩
  obtain ⟨_, _, he3, hc3, hC3⟩ := Kd.R_reads hR3
  obtain ⟨rfl, rfl⟩ : A3 = _ ∧ c3 = _ := by injection he3 with h1 h2 h3; exact ⟨h1, h3⟩
  have hC4 := Kd.C_below hC3 (ka.below (Nat.le_refl _) (by simp))
  rw [← hb9, ← hw4] at hb3
  rw [← hw4] at ka hC4
  replace hb9 := Lib.hid hb9
  replace hw4 := Lib.hid hw4
  clear he3 hR3 hC3 p0 p1 p2 lt2
  have kk4 := kk.trans ka
  have hb4 := kblk ka hb
  go_upto_if 34 with fail
  rw [← hb9.out, ← hw4.out]
  go_cut [] (fun wc => Kp [] w4 wc)
  case first =>
    have r0 := cellB hb3 0; have r1 := cellB hb3 1; have r2 := cellB hb3 2
    simp at r0 r1 r2
    have lt9 := ltB hb3
    rcases hrd.out with ⟨h1, h2, h3⟩ | ⟨h1, h2⟩
    · have S1 := Lib.hid (show Calls Tryd.prog 8 #[.agg #[.slice A3 l2.length c3, .int .i64 a2, .int .i64 b2']] w4 fun e w' => e = .returned (.tuple #[.string (bs st), .int .i64 0]) ∧ Kp [] w4 w' from by
        have := show_calls A3 c3 l2 a2 b2' w4 hC4 hc3
        rw [h2] at this
        exact this)
      have K1 := Lib.hid (show ∀ W2, Kp [] w4 W2 → Calls Tryd.prog 15 #[.agg #[.slice A3 l2.length c3, .int .i64 a2, .int .i64 b2']] W2 fun e w' => e = .returned (.int .i64 0) ∧ Kp [] W2 w' from fun W2 k => by
        have := check_calls A3 c3 l2 a2 b2' W2 (Kd.C_below hC4 (k.below (Nat.le_refl _) (by simp)))
        rw [h3] at this
        exact this)
      subst h1
      replace h2 := Lib.hid h2
      replace h3 := Lib.hid h3
      clear hC4
      go_wp2_with fail
      refine S1.out.mono ?_
      rintro e w5 ⟨rfl, k5⟩
      replace hb3 := kblk k5 hb3
      clear r0 r1 r2 lt9
      have r0 := cellB hb3 0; have r1 := cellB hb3 1; have r2 := cellB hb3 2
      simp at r0 r1 r2
      have lt9 := ltB hb3
      have F1 : ((bs st).toList == (bs st).toList) = true := by simp
      go_wp2_with fail
      refine (K1.out _ k5).mono ?_
      rintro e w6 ⟨rfl, k6⟩
      go_wp2_with fail
      go_meet
      case rel => exact k5.trans k6
    · subst h1 h2
      clear hC4
      go_wp2_with fail
      go_meet
      case rel => exact Kp.refl _ _
  case rest =>
    have k5 := hcut
    have kk5 := kk4.trans k5
    have hb5 := kblk k5 hb4
    have p0 := cellB hb5 0; have p1 := cellB hb5 1; have p2 := cellB hb5 2
    simp at p0 p1 p2
    have lt2 := ltB hb5
    clear hb hb3 hb4 ka kk4 kk hcut k5 hC4
    rcases check_val l s q with hch | hch
    rotate_left
    · have S1 := Lib.hid (show ∀ W2, Kp [] W W2 → Calls Tryd.prog 8 #[.agg #[.slice A l.length cap, .int .i64 s, .int .i64 q]] W2 fun e w' => e = .returned (.tuple #[.string (bs []), .int .i64 130]) ∧ Kp [] W2 w' from fun W2 k => by
        have := CS.out W2 k
        unfold showL at this
        rw [if_neg (by rw [hch]; decide), hch] at this
        exact this)
      rw [hch] at CK
      replace hch := Lib.hid hch
      go_wp2_with fail
      refine (S1.out _ kk5).mono ?_
      rintro e w6 ⟨rfl, k6⟩
      have kk6 := kk5.trans k6
      replace hb5 := kblk k6 hb5
      clear p0 p1 p2 lt2
      have p0 := cellB hb5 0; have p1 := cellB hb5 1; have p2 := cellB hb5 2
      simp at p0 p1 p2
      have lt2 := ltB hb5
      have F1 : (bs []).toList = [] := bs_list _
      have F2 : (bs []).toList.isEmpty = true := by rw [F1]; rfl
      go_wp2_with fail
      refine (CK.out _ kk6).mono ?_
      rintro e w7 ⟨rfl, k7⟩
      go_wp2_with fail
      go_ret
      exact ⟨rfl, fin_kp (kk6.trans k7)⟩
    · have S1 := Lib.hid (show ∀ W2, Kp [] W W2 → Calls Tryd.prog 8 #[.agg #[.slice A l.length cap, .int .i64 s, .int .i64 q]] W2 fun e w' => e = .returned (.tuple #[.string (bs (progT l s q)), .int .i64 0]) ∧ Kp [] W2 w' from fun W2 k => by
        have := CS.out W2 k
        unfold showL at this
        rw [if_pos hch] at this
        exact this)
      have hpl := prog_len hch
      have R1 := Lib.hid (show ∀ W2, Kp [] W W2 → Calls Tryd.prog 10 #[.string (bs (progT l s q))] W2 fun e w' => ∃ B c, e = .returned (.tuple #[.agg #[.slice B l.length c, .int .i64 s, .int .i64 q], .int .i64 0]) ∧ Kd.C k35 w' B l.length l ∧ l.length ≤ c ∧ Kp [] W2 w' from fun W2 k => (RD.out _ W2 k (by omega)).mono (fun e w' h => read_is ((readL_iff _ _ _ _).2 ⟨hch, rfl⟩) h))
      have R2 := Lib.hid (show ∀ W2, Kp [] W W2 → Calls Tryd.prog 10 #[.string (bs (progT l s q ++ [120]))] W2 fun e w' => e = .returned (.tuple #[.agg #[.slice none 0 0, .int .i64 0, .int .i64 0], .int .i64 130]) ∧ Kp [] W2 w' from fun W2 k => (RD.out _ W2 k (by simp; omega)).mono (fun e w' h => read_is_no (read_more l s q) h))
      have R3 := Lib.hid (show ∀ W2, Kp [] W W2 → Calls Tryd.prog 10 #[.string (bs (progT l s q).dropLast)] W2 fun e w' => e = .returned (.tuple #[.agg #[.slice none 0 0, .int .i64 0, .int .i64 0], .int .i64 130]) ∧ Kp [] W2 w' from fun W2 k => (RD.out _ W2 k (by simp; omega)).mono (fun e w' h => read_is_no (read_less hch) h))
      have hne := prog_ne (l := l) (a := s) (b := q)
      have hpos : 0 < (progT l s q).length := List.length_pos_iff.2 hne
      obtain ⟨T, hT⟩ : ∃ T, T = progT l s q := ⟨_, rfl⟩
      rw [← hT] at S1 R1 R2 R3 hpl hne hpos
      have F1 : ¬ (bs T).toList = [] := by rw [bs_list]; exact hne
      have F2 : (bs T).toList.isEmpty = false := by rw [bs_list]; simpa using hne
      have hsT : (bs T).size = T.length := bs_size T
      have hA := bs_app T [120]
      have hE := ext_last T
      replace hch := Lib.hid hch
      replace hT := Lib.hid hT
      replace hne := Lib.hid hne
      go_wp2_with fail
      refine (S1.out _ kk5).mono ?_
      rintro e w6 ⟨rfl, k6⟩
      have kk6 := kk5.trans k6
      replace hb5 := kblk k6 hb5
      clear p0 p1 p2 lt2
      go_wp2_with fail
      refine (R1.out _ kk6).mono ?_
      rintro e w7 ⟨B, cB, rfl, hCB, hcB, k7⟩
      have ka := (Kp.refl [] w7).alloc (.cells #[.slice B l.length cB, .int .i64 s, .int .i64 q] 24)
      have hb8 := heap_alloc_new w7 (.cells #[.slice B l.length cB, .int .i64 s, .int .i64 q] 24)
      have kk7 := (kk6.trans k7).trans ka
      replace hb5 := kblk (k7.trans ka) hb5
      obtain ⟨b8, hb8e⟩ : ∃ b, b = w7.heap.size := ⟨_, rfl⟩
      obtain ⟨w8, hw8⟩ : ∃ w8, w8 = w7.alloc (.cells #[.slice B l.length cB, .int .i64 s, .int .i64 q] 24) := ⟨_, rfl⟩
      rw [← hb8e, ← hw8] at hb8
      rw [← hw8] at ka kk7 hb5
      have hCB8 := Kd.C_below hCB (ka.below (Nat.le_refl _) (by simp))
      replace hb8e := Lib.hid hb8e
      replace hw8 := Lib.hid hw8
      clear hCB
      go_wp2_with fail
      rw [← hb8e.out, ← hw8.out]
      rw [show bs T ++ (⟨#[120]⟩ : ByteArray) = bs (T ++ [120]) from hA]
      refine (R2.out _ kk7).mono ?_
      rintro e w9 ⟨rfl, k9⟩
      have kb := (Kp.refl [] w9).alloc (.cells #[.slice none 0 0, .int .i64 0, .int .i64 0] 24)
      have kk9 := (kk7.trans k9).trans kb
      have hl1 : ((T.length : Int) - 1).toNat = T.length - 1 := by omega
      have hw1 : IntKind.i64.wrap ((T.length : Int) - 1) = (T.length : Int) - 1 := IntWalk.i64_in _ (by omega)
      have k89 := k9.trans kb
      obtain ⟨w10, hw10⟩ : ∃ w10, w10 = w9.alloc (.cells #[.slice none 0 0, .int .i64 0, .int .i64 0] 24) := ⟨_, rfl⟩
      rw [← hw10] at kk9 k89
      replace hw10 := Lib.hid hw10
      clear kb
      go_wp2_with fail
      rw [← hw10.out]
      refine (R3.out _ kk9).mono ?_
      rintro e w11 ⟨rfl, k11⟩
      have kc := (Kp.refl [] w11).alloc (.cells #[.slice none 0 0, .int .i64 0, .int .i64 0] 24)
      have k8c := (k89.trans k11).trans kc
      have kkc := (kk9.trans k11).trans kc
      obtain ⟨w12, hw12⟩ : ∃ w12, w12 = w11.alloc (.cells #[.slice none 0 0, .int .i64 0, .int .i64 0] 24) := ⟨_, rfl⟩
      rw [← hw12] at k8c kkc
      replace hb5 := kblk k8c hb5
      replace hb8 := kblk k8c hb8
      have hCB12 := Kd.C_below hCB8 (k8c.below (Nat.le_refl _) (by simp))
      replace hw12 := Lib.hid hw12
      have p0 := cellB hb5 0; have p1 := cellB hb5 1; have p2 := cellB hb5 2
      have r0 := cellB hb8 0; have r1 := cellB hb8 1; have r2 := cellB hb8 2
      simp at p0 p1 p2 r0 r1 r2
      have lt2 := ltB hb5
      have lt8 := ltB hb8
      clear hCB8 kc hl1 hw1
      have hl100 : l.length ≤ 1000000 := by omega
      have E1 := Lib.hid (CE.out w12 kkc hl100 B cB hCB12 hcB)
      have E2 := Lib.hid (show ∀ W2, Kp [] w12 W2 → Calls Tryd.prog 18 #[.agg #[.slice A l.length cap, .int .i64 s, .int .i64 q], .agg #[.slice B l.length cB, .int .i64 s, .int .i64 q]] W2 fun e w' => e = .returned (.bool true) ∧ Kp [] W2 w' from fun W2 k => CF.out W2 (kkc.trans k) hl100 B cB (Kd.C_below hCB12 (k.below (Nat.le_refl _) (by simp))) hcB)
      clear hCB12
      go_upto_region 20 with fail
      rw [← hw12.out]
      go_wp2_with fail
      refine E1.out.mono ?_
      rintro e w13 ⟨rfl, k13⟩
      replace hb5 := kblk k13 hb5
      replace hb8 := kblk k13 hb8
      clear p0 p1 p2 r0 r1 r2 lt2 lt8
      have p0 := cellB hb5 0; have p1 := cellB hb5 1; have p2 := cellB hb5 2
      have r0 := cellB hb8 0; have r1 := cellB hb8 1; have r2 := cellB hb8 2
      simp at p0 p1 p2 r0 r1 r2
      have lt2 := ltB hb5
      have lt8 := ltB hb8
      go_wp2_with fail
      refine (E2.out _ k13).mono ?_
      rintro e w14 ⟨rfl, k14⟩
      go_wp2_with fail
      go_ret
      exact ⟨rfl, fin_kp ((kkc.trans k13).trans k14)⟩
end Go.Proofs.YtkjkkebaafmheaaDoor
