/- Merged by wip/tools/merge.py out of the texts X, Y, each as it stood. -/
import Derived.Test.YtkjkkebaafmheaaDoorVR
import Derived.Deep.RegionHeld3
/- Package prog: the chapter's example; what is spoilt of a program. -/
namespace Go.Proofs.YtkjkkebaafmheaaDoor
open Go.RowKit PAll Go.Proofs.YtkjkkebaafmheaaDoorW.PrintWords Go.Proofs.YtkjkkebaafmheaaDoorW.PrintLast Go.Proofs.YtkjkkebaafmheaaDoorW.PrintMore
open Go.Shelf
set_option linter.unusedVariables false
set_option linter.unusedSimpArgs false
set_option maxRecDepth 100000 in
set_option maxHeartbeats 4000000 in
theorem spoil_calls {w : World} {base : Nat} {v : Value} {l : List S35} (h : Kd.R k35 35 w base (fun _ => True) v l) : Calls Tryd.prog 13 #[v] w fun e w' => e = .returned (.tuple #[]) ∧ Kp v.ownBlock.toList w w' := by
  obtain ⟨xs, ho⟩ := Kd.R_own h
  rcases ho.2 with ⟨rfl, hz⟩ | ⟨g, cap, cur, rfl, hg, hh, hle, hmax, hcur, -⟩
  · go_enter Tryd.func13, Tryd.ntmps13
    go_wp2
    go_loopg [2, 9] 1 (fun gk v2 v9 wr => v9 = .int .i64 0 ∧ wr = w ∧ 0 < gk)
    case atStart => exact ⟨rfl, rfl, by omega⟩
    case round =>
      obtain ⟨rfl, rfl, hgk⟩ := hrel
      go_wp2
      go_end0
      exact ⟨rfl, Kp.refl _ _⟩
  · unfold maxLen at hmax
    have hk : k35.sz = 5 := rfl
    rw [hk] at hcur
    generalize l.length = n at *
    go_enter Tryd.func13, Tryd.ntmps13
    go_wp2
    go_loopg [2, 9] cap (fun gk v2 v9 wr => ∃ (k : Nat) (cur' : Array Value), v9 = .int .i64 k ∧ k ≤ cap ∧ cap - k ≤ gk ∧ Aside0 (wr.heap[g]? = some (.cells cur' 35 (0, 0)) ∧ cur'.size = cap * 5) ∧ Aside0 (Kp [g] w wr))
    case atStart => exact ⟨0, cur, rfl, by omega, by omega, ⟨hh, hcur⟩, ⟨Kp.refl _ _⟩⟩
    case round =>
      obtain ⟨k, cur', rfl, hkc, hgk, hc, hK⟩ := hrel
      by_cases hk : k < cap
      · have dk : decide ((k : Int) < (cap : Int)) = true := decide_eq_true (by omega)
        obtain ⟨g1, rfl⟩ : ∃ g1, gk = g1 + 1 := ⟨gk - 1, by omega⟩
        obtain ⟨hb, hs⟩ := hc.out
        have cell : ∀ i, i < 5 → ∃ v, wr.cell? ⟨g, k * 5 + i, none⟩ = some v := by
          intro i hi
          have hlt : k * 5 + i < cur'.size := by omega
          exact ⟨cur'[k * 5 + i], by rw [cellB hb]; exact Array.getElem?_eq_getElem hlt⟩
        obtain ⟨o0, c0⟩ := cell 0 (by omega)
        obtain ⟨o1, c1⟩ := cell 1 (by omega)
        obtain ⟨o2, c2⟩ := cell 2 (by omega)
        obtain ⟨o3, c3⟩ := cell 3 (by omega)
        obtain ⟨o4, c4⟩ := cell 4 (by omega)
        have f0 := frozB hb (k * 5)
        have f1 := frozB hb (k * 5 + 1)
        have f2 := frozB hb (k * 5 + 2)
        have f3 := frozB hb (k * 5 + 3)
        have f4 := frozB hb (k * 5 + 4)
        simp only [Nat.add_zero] at c0
        clear cell
        have HS := Lib.hid hs
        have HB := Lib.hid hb
        clear hs hb
        go_wp2
        go_roundg g1
        case measure => omega
        case rel =>
          refine ⟨k + 1, _, by go_num, by omega, by omega, ⟨setB (setB (setB (setB (setB HB.out _ _) _ _) _ _) _ _) _ _, by simp [HS.out]⟩, ⟨?_⟩⟩
          exact ((((hK.out.setCell (by simp) _).setCell (by simp) _).setCell (by simp) _).setCell (by simp) _).setCell (by simp) _
      · have dk : decide ((k : Int) < (cap : Int)) = false := decide_eq_false (by omega)
        go_wp2
        go_end0
        exact ⟨rfl, hK.out⟩
theorem own_ge {w : World} {base : Nat} {v : Value} {l : List S35} (h : Kd.R k35 35 w base (fun _ => True) v l) (x : Nat) (hx : x ∈ v.ownBlock.toList) : base ≤ x := by
  obtain ⟨xs, ho⟩ := Kd.R_own h
  exact own_base ho x (by simpa using hx)
theorem d0 : digN 0 = [48] := digN_lt (by decide)
theorem d1 : digN 1 = [49] := digN_lt (by decide)
theorem d2 : digN 2 = [50] := digN_lt (by decide)
theorem d97 : digN 97 = [57, 55] := by rw [digN_ge (by decide), digN_lt (by decide)]; rfl
theorem d99 : digN 99 = [57, 57] := by rw [digN_ge (by decide), digN_lt (by decide)]; rfl
def exText : List UInt8 := [112, 114, 111, 103, 114, 97, 109, 32, 48, 32, 50, 10, 98, 121, 116, 101, 32, 57, 55, 32, 57, 57, 32, 49, 10, 109, 97, 116, 99, 104, 10]
def exInsts : List S35 := [⟨1, 97, 99, 1, 0⟩, ⟨5, 0, 0, 0, 0⟩]
theorem ex_check : checkB exInsts 0 2 = 0 := by decide
theorem ex_text : progT exInsts 0 2 = exText := by
  simp [progT, headT, instT, lineP, exInsts, exText, nameL, ownNums, d0, d1, d2, d97, d99]
theorem ex_read : readL exText = some (exInsts, 0, 2) := (readL_iff _ _ _ _).2 ⟨ex_check, ex_text⟩
theorem ex_show : showL exInsts 0 2 = (exText, 0) := by unfold showL; rw [if_pos ex_check, ex_text]
theorem eql35 (w : World) : (binOp .eql 35 (.agg #[.int .i64 1, .int .i64 97, .int .i64 99, .int .i64 1, .int .i64 0]) (.agg #[.int .i64 1, .int .i64 97, .int .i64 99, .int .i64 1, .int .i64 0])).run Tryd.prog w = .ok (.bool true) w := by kernel_rfl
theorem fits_zero : fitsB ⟨0, 0, 0, 0, 0⟩ = false := by decide
theorem check_zero : checkB [] 0 0 = 130 := by decide
set_option maxRecDepth 100000 in
set_option maxHeartbeats 8000000 in
theorem works_calls (m : Int) (w : World) (hm : w.cell? ⟨0, 0, none⟩ = some (.int .i64 m)) : Calls Tryd.prog 7 #[] w fun e w' => e = .returned (.bool true) ∧ Kp [] w w' := by
  have RC := Lib.hid (show Calls Tryd.prog 10 #[.string (bs exText)] w fun e w' => Kp [] w w' ∧ ∃ A c, e = .returned (.tuple #[.agg #[.slice A 2 c, .int .i64 0, .int .i64 2], .int .i64 0]) ∧ Kd.C k35 w' A exInsts.length exInsts ∧ 2 ≤ c from by
    refine (read_calls exText m w hm (by decide)).mono ?_
    rintro e w' ⟨k, h⟩
    rw [ex_read] at h
    obtain ⟨v, rfl, hR⟩ := h
    obtain ⟨A, c, rfl, h1, h2⟩ := Kd.R_reads hR
    exact ⟨k, A, c, rfl, h2, h1⟩)
  have FC := Lib.hid (show ∀ W, Calls Tryd.prog 14 #[.agg #[.int .i64 0, .int .i64 0, .int .i64 0, .int .i64 0, .int .i64 0]] W fun e w' => e = .returned (.bool false) ∧ Kp [] W w' from fun W => by
    have := fits_calls ⟨0, 0, 0, 0, 0⟩ W
    rw [fits_zero] at this
    exact this)
  have CC := Lib.hid (show ∀ W, Calls Tryd.prog 15 #[.agg #[.slice none 0 0, .int .i64 0, .int .i64 0]] W fun e w' => e = .returned (.int .i64 130) ∧ Kp [] W w' from fun W => by
    have := check_calls none 0 [] 0 0 W (Kd.C_nil _ _)
    rw [check_zero] at this
    exact this)
  have E35 := eql35
  clear hm
  go_enter Tryd.func7, Tryd.ntmps7
  go_wp2_with fail
  refine RC.out.mono ?_
  rintro e w1 ⟨k1, A, c, rfl, hC, hc⟩
  obtain ⟨bA, oA, rfl, hltA, hcells⟩ := rowOpen hC (by decide)
  have hS := Lib.hid (show ∀ W, Kp [] w1 W → Calls Tryd.prog 8 #[.agg #[.slice (some ⟨bA, oA, none⟩) 2 c, .int .i64 0, .int .i64 2]] W fun e w' => e = .returned (.tuple #[.string (bs exText), .int .i64 0]) ∧ Kp [] W w' from fun W kW => by
    have := show_calls (some ⟨bA, oA, none⟩) c exInsts 0 2 W (Kd.C_below hC (kW.below (Nat.le_refl _) (by simp))) hc
    rw [ex_show] at this
    exact this)
  have q0 := hcells 0 (by decide) 0 _ rfl
  have q1 := hcells 0 (by decide) 1 _ rfl
  have q2 := hcells 0 (by decide) 2 _ rfl
  have q3 := hcells 0 (by decide) 3 _ rfl
  have q4 := hcells 0 (by decide) 4 _ rfl
  simp [exInsts] at q0 q1 q2 q3 q4
  clear hcells hC
  have k12 := (Kp.refl [] w1).alloc (.cells #[.slice (some ⟨bA, oA, none⟩) 2 c, .int .i64 0, .int .i64 2] 24)
  have hb1 := heap_alloc_new w1 (.cells #[.slice (some ⟨bA, oA, none⟩) 2 c, .int .i64 0, .int .i64 2] 24)
  go_wp2_with fail
  refine (hS.out _ k12).mono ?_
  rintro e w2 ⟨rfl, k2⟩
  replace hb1 := kblk k2 hb1
  have k13 := k12.trans k2
  replace q0 := kcell k13 q0
  replace q1 := kcell k13 q1
  replace q2 := kcell k13 q2
  replace q3 := kcell k13 q3
  replace q4 := kcell k13 q4
  have r0 := cellB hb1 0; have r1 := cellB hb1 1; have r2 := cellB hb1 2
  simp at r0 r1 r2
  obtain ⟨b1, hb1e⟩ : ∃ b, b = w1.heap.size := ⟨_, rfl⟩
  rw [← hb1e] at hb1 r0 r1 r2 ⊢
  clear hb1e k12 k2
  have G1 : (bs exText).toList = [112, 114, 111, 103, 114, 97, 109, 32, 48, 32, 50, 10, 98, 121, 116, 101, 32, 57, 55, 32, 57, 57, 32, 49, 10, 109, 97, 116, 99, 104, 10] := bs_list _
  go_wp2_with (first
    | (go_at_call 14; refine (FC.out _).mono ?_; rintro e w3 ⟨rfl, k3⟩)
    | (go_at_call 15; refine (CC.out _).mono ?_; rintro e w4 ⟨rfl, k4⟩))
  go_ret
  exact ⟨rfl, (k1.trans k13).trans (k3.trans k4)⟩
end Go.Proofs.YtkjkkebaafmheaaDoor
/- The laws of layer 14, walked: ProgLines, ProgTells. -/
namespace Go.Proofs.YtkjkkebaafmheaaDoor
open Go.RowKit PAll Go.Proofs.YtkjkkebaafmheaaDoorW.PrintWords Go.Proofs.YtkjkkebaafmheaaDoorW.PrintLast Go.Proofs.YtkjkkebaafmheaaDoorW.PrintMore
open Go.Shelf
set_option linter.unusedVariables false
set_option linter.unusedSimpArgs false
def readR (l : List UInt8) : List S35 × Int × Int × Int := match readL l with | none => ([], 0, 0, 130) | some (xs, a, b) => (xs, a, b, 0)
theorem readR_len (l : List UInt8) : (readR l).1.length ≤ 4000 := by
  unfold readR
  split
  · simp
  · next xs a b h => exact (check_ok ((readL_iff l xs a b).1 h).1).1.2
def ReadBoth (l : List UInt8) (w : World) (e : Ending) (w' : World) : Prop := ∃ A c, e = .returned (.tuple #[.agg #[.slice A (readR l).1.length c, .int .i64 (readR l).2.1, .int .i64 (readR l).2.2.1], .int .i64 (readR l).2.2.2]) ∧
  Kd.R k35 35 w' w.heap.size (fun _ => True) (.slice A (readR l).1.length c) (readR l).1 ∧ Kp [] w w'
theorem read_both {l : List UInt8} {w : World} {e : Ending} {w' : World} (h : ReadPost l w e w') : ReadBoth l w e w' := by
  obtain ⟨k, h⟩ := h
  unfold ReadBoth readR
  cases hr : readL l with
  | none =>
    rw [hr] at h
    exact ⟨none, 0, h, Kd.R_nil _ _ _ _ _, k⟩
  | some q =>
    obtain ⟨xs, a, b⟩ := q
    rw [hr] at h
    obtain ⟨v, rfl, hR⟩ := h
    obtain ⟨A, c, rfl⟩ := Kd.R_slice hR
    exact ⟨A, c, rfl, hR, k⟩
theorem kp_own {w w1 w2 : World} {v : Value} {l : List S35} {wb : World} (k : Kp [] w w1) (h : Kd.R k35 35 w1 wb.heap.size (fun _ => True) v l) (kw : w.heap.size ≤ wb.heap.size) (k2 : Kp v.ownBlock.toList w1 w2) : Kp [] w w2 :=
  k.into k2 (fun x hx => .inl (Nat.le_trans kw (own_ge h x hx)))
theorem fin_kp {W w' : World} (k : Kp [] W w') : Below W.heap.size W w' := k.below (Nat.le_refl _) (by simp)
set_option maxRecDepth 100000 in
set_option maxHeartbeats 8000000 in
theorem lines_walk (W : World) (A : Option Addr) (cap : Nat) (l : List S35) (s q : Int) (st : List UInt8) (m : Int) (hm : W.cell? ⟨0, 0, none⟩ = some (.int .i64 m)) (hC : Kd.C k35 W A l.length l) (hcap : l.length ≤ cap) (hmax : l.length ≤ 9223372036854775807) (hst : st.length ≤ 9223372036854775807) :
    Calls Tryd.prog 3 #[.agg #[.slice A l.length cap, .int .i64 s, .int .i64 q], .string (bs st)] W fun e w' => e = .returned (.bool true) ∧ Below W.heap.size W w' := by
  have kk := (Kp.refl [] W).alloc (.cells #[.slice A l.length cap, .int .i64 s, .int .i64 q] 24)
  have hb := heap_alloc_new W (.cells #[.slice A l.length cap, .int .i64 s, .int .i64 q] 24)
  have CW := Lib.hid (show ∀ W2, Kp [] W W2 → Calls Tryd.prog 7 #[] W2 fun e w' => e = .returned (.bool true) ∧ Kp [] W2 w' from fun W2 k => works_calls m W2 (kcell k hm))
  have hsz : (bs st).size = st.length := bs_size st
  by_cases h5 : 100 < l.length
  · have d5 : decide ((100 : Int) < (l.length : Int)) = true := decide_eq_true (by omega)
    have y0 := cellB hb 0
    simp at y0
    clear hm
    go_enter Tryd.func3, Tryd.ntmps3
    go_wp2_with (go_at_call 7; refine (CW.out _ kk).mono ?_; rintro e w1 ⟨rfl, k1⟩)
    go_ret
    exact ⟨rfl, fin_kp (kk.trans k1)⟩
  have d5 : decide ((100 : Int) < (l.length : Int)) = false := decide_eq_false (by omega)
  by_cases h6 : 3000 < st.length
  · have d6 : decide ((3000 : Int) < (st.length : Int)) = true := decide_eq_true (by omega)
    clear hm
    go_enter Tryd.func3, Tryd.ntmps3
    go_wp2_with (go_at_call 7; refine (CW.out _ kk).mono ?_; rintro e w1 ⟨rfl, k1⟩)
    go_ret
    exact ⟨rfl, fin_kp (kk.trans k1)⟩
  have d6 : decide ((3000 : Int) < (st.length : Int)) = false := decide_eq_false (by omega)
  have CS := Lib.hid (show ∀ W2, Kp [] W W2 → Calls Tryd.prog 8 #[.agg #[.slice A l.length cap, .int .i64 s, .int .i64 q]] W2 fun e w' => e = .returned (.tuple #[.string (bs (showL l s q).1), .int .i64 (showL l s q).2]) ∧ Kp [] W2 w' from fun W2 k => show_calls A cap l s q W2 (Kd.C_below hC (k.below (Nat.le_refl _) (by simp))) hcap)
  have CR := Lib.hid (show ∀ W2, Kp [] W W2 → Calls Tryd.prog 9 #[.agg #[.slice A l.length cap, .int .i64 s, .int .i64 q]] W2 fun e w' => e = .returned (.tuple #[.string (bs (showL l s q).1), .int .i64 (showL l s q).2]) ∧ Kp [] W2 w' from fun W2 k => rshow_calls A cap l s q W2 (Kd.C_below hC (k.below (Nat.le_refl _) (by simp))) hcap (by omega))
  have CD := Lib.hid (show ∀ W2, Kp [] W W2 → Calls Tryd.prog 10 #[.string (bs st)] W2 (ReadBoth st W2) from fun W2 k => (read_calls st m W2 (kcell k hm) (by omega)).mono (fun e w' h => read_both h))
  have CD2 := Lib.hid (show ∀ W2, Calls Tryd.prog 11 #[.string (bs st)] W2 (ReadBoth st W2) from fun W2 => (rread_calls st (by omega) W2).mono (fun e w' h => read_both h))
  have hdl := readR_len st
  obtain ⟨es, ec, he⟩ : ∃ es ec, showL l s q = (es, ec) := ⟨_, _, rfl⟩
  rw [he] at CS CR
  obtain ⟨l2, a2, b2, x2, hd⟩ : ∃ l2 a2 b2 x2, readR st = (l2, a2, b2, x2) := ⟨_, _, _, _, rfl⟩
  unfold ReadBoth at CD CD2
  rw [hd] at CD CD2 hdl
  dsimp only at CD CD2 hdl CS CR
  replace he := Lib.hid he
  replace hd := Lib.hid hd
  clear hC hm
  go_enter Tryd.func3, Tryd.ntmps3
  go_wp2_with fail
  refine (CS.out _ kk).mono ?_
  rintro e w1 ⟨rfl, k1⟩
  replace kk := kk.trans k1
  replace hb := kblk k1 hb
  have p0 := cellB hb 0; have p1 := cellB hb 1; have p2 := cellB hb 2
  simp at p0 p1 p2
  go_wp2_with fail
  refine (CR.out _ kk).mono ?_
  rintro e w2 ⟨rfl, k2⟩
  replace kk := kk.trans k2
  clear p0 p1 p2 k1 k2 hb
  go_wp2_with fail
  refine (CD.out _ kk).mono ?_
  rintro e w3 ⟨A3, c3, rfl, hR3, k3⟩
  have k02 := kk.size
  replace kk := kk.trans k3
  have ka := (Kp.refl [] w3).alloc (.cells #[.slice A3 l2.length c3, .int .i64 a2, .int .i64 b2] 24)
  have hb3 := heap_alloc_new w3 (.cells #[.slice A3 l2.length c3, .int .i64 a2, .int .i64 b2] 24)
  obtain ⟨b9, hb9⟩ : ∃ b, b = w3.heap.size := ⟨_, rfl⟩
  rw [← hb9] at hb3
  replace hb9 := Lib.hid hb9
  go_wp2_with fail
  rw [← hb9.out]
  refine (CD2.out _).mono ?_
  rintro e w4 ⟨A4, c4, rfl, hR4, k4⟩
  have k34 := ka.trans k4
  replace kk := kk.trans k34
  replace hb3 := kblk k4 hb3
  replace hR3 := Kd.R_below hR3 (k34.below (Nat.le_refl _) (by simp))
  have kb := (Kp.refl [] w4).alloc (.cells #[.slice A4 l2.length c4, .int .i64 a2, .int .i64 b2] 24)
  obtain ⟨_, _, he3, hc3, hC3⟩ := Kd.R_reads hR3
  obtain ⟨rfl, rfl⟩ : A3 = _ ∧ c3 = _ := by injection he3 with h1 h2 h3; exact ⟨h1, h3⟩
  obtain ⟨_, _, he4, hc4, hC4⟩ := Kd.R_reads hR4
  obtain ⟨rfl, rfl⟩ : A4 = _ ∧ c4 = _ := by injection he4 with h1 h2 h3; exact ⟨h1, h3⟩
  clear he3 he4
  have SC := Lib.hid (show Calls Tryd.prog 12 #[.agg #[.slice A3 l2.length c3, .int .i64 a2, .int .i64 b2], .agg #[.slice A4 l2.length c4, .int .i64 a2, .int .i64 b2]] (w4.alloc (.cells #[.slice A4 l2.length c4, .int .i64 a2, .int .i64 b2] 24)) fun e w' => e = .returned (.bool true) ∧ Kp [] (w4.alloc (.cells #[.slice A4 l2.length c4, .int .i64 a2, .int .i64 b2] 24)) w' from by
    have := rsame_calls A3 A4 c3 c4 l2 l2 a2 b2 a2 b2 (.inl (by omega)) hc3 hc4 (w4.alloc (.cells #[.slice A4 l2.length c4, .int .i64 a2, .int .i64 b2] 24)) (Kd.C_below hC3 (kb.below (Nat.le_refl _) (by simp))) (Kd.C_below hC4 (kb.below (Nat.le_refl _) (by simp)))
    rw [sameP_refl] at this
    exact this)
  have hb3' := kblk kb hb3
  have r0 := cellB hb3 0; have r1 := cellB hb3 1; have r2 := cellB hb3 2
  simp at r0 r1 r2
  have ltb := ltB hb3
  clear hC3 hC4
  go_wp2_with fail
  refine SC.out.mono ?_
  rintro e w5 ⟨rfl, k5⟩
  have k45 := kb.trans k5
  replace kk := kk.trans k45
  have hb5 := kblk k5 hb3'
  replace hR3 := Kd.R_below hR3 (k45.below (Nat.le_refl _) (by simp))
  clear r0 r1 r2 ltb
  have r0 := cellB hb5 0
  simp at r0
  go_wp2_with fail
  refine (spoil_calls hR3).mono ?_
  rintro e w6 ⟨rfl, k6⟩
  replace kk := kp_own kk hR3 k02 k6
  go_wp2_with (go_at_call 7; refine (CW.out _ kk).mono ?_; rintro e w7 ⟨rfl, k7⟩)
  go_ret
  exact ⟨rfl, fin_kp (kk.trans k7)⟩
end Go.Proofs.YtkjkkebaafmheaaDoor
