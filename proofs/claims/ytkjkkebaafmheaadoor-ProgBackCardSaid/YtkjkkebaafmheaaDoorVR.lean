/- The walk of the document's Read of layer 14. -/
import Derived.Test.YtkjkkebaafmheaaDoorM3
import Derived.Test.YtkjkkebaafmheaaDoorU
namespace Go.Proofs.YtkjkkebaafmheaaDoor
open Go.RowKit PAll Go.Proofs.YtkjkkebaafmheaaDoorW.PrintWords Go.Proofs.YtkjkkebaafmheaaDoorW.PrintLast Go.Proofs.YtkjkkebaafmheaaDoorW.PrintMore
open Go.Shelf
set_option linter.unusedVariables false
set_option linter.unusedSimpArgs false
theorem CX.app {w W w1 : World} {q l p bad u xs a b x y} {v1 : Value} (h : CX w W q l p bad u xs a b x y) (hR : Kd.R k35 35 w1 w.heap.size (fun k => k ≠ x) v1 (xs ++ [y])) (hb : Below w.heap.size w w1) (hg : W.grownBy w1 u.ownBlock) :
    CS w (w1.setCell ⟨q, 0, none⟩ v1) q l p bad v1 (xs ++ [y]) a b ∧ w1.heap[q]? = some (.cells #[u, .int .i64 a, .int .i64 b] 24 (0, 0)) := by
  have hf := h.far
  have hp : w1.heap[q]? = some (.cells #[u, .int .i64 a, .int .i64 b] 24 (0, 0)) := (hg.block _ (ltB h.prg) (Kd.R_ne h.row h.prg (by decide))).trans h.prg
  refine ⟨⟨?_, (setB hp 0 v1).trans rfl, ?_, ?_, hb.setCell (by show w.heap.size ≤ q; omega) _, hf⟩, hp⟩
  · exact blk_far' ((hg.block _ (ltB h.res) (Kd.R_ne h.row h.res (by decide))).trans h.res) (by show q ≠ _; omega) _
  · exact blk_far' ((hg.block _ (ltB h.rd) (Kd.R_ne h.row h.rd (by decide))).trans h.rd) (by show q ≠ _; omega) _
  · exact Kd.R_mono (Kd.R_set hR hp (by decide) 0 v1) (fun _ _ => trivial)
theorem CS.start {w W : World} {l : List UInt8} {p : Nat} {bad : Bool} (h1 : W.heap[w.heap.size]? = some (.cells #[.slice none 0 0, .int .i64 0, .int .i64 0] 24 (0, 0))) (h2 : W.heap[w.heap.size + 1]? = some (.cells #[.string (bs l), .int .i64 p, .bool bad] 70 (0, 0))) (hb : Below w.heap.size w W) :
    CS w (W.alloc (.cells #[.slice none 0 0, .int .i64 0, .int .i64 0] 24)) W.heap.size l p bad (.slice none 0 0) [] 0 0 := by
  have k := (Kp.refl [] W).alloc (.cells #[.slice none 0 0, .int .i64 0, .int .i64 0] 24)
  have := ltB h2
  exact ⟨kblk k h1, heap_alloc_new W _, kblk k h2, Kd.R_nil _ _ _ _ _, hb.trans ((k.below (Nat.le_refl _) (by simp)).mono hb.size), this⟩
theorem cs_num' {w W : World} {q l p bad u xs a b} {n p' : Nat} {bad' : Bool} (h : CS w W q l p bad u xs a b) (hl : l.length ≤ 1000000) (hp : p ≤ l.length) (hn : numR l p bad = (n, p', bad')) :
    Calls Tryd.prog 29 #[.pointer (some ⟨w.heap.size + 1, 0, none⟩)] W fun e W' => e = .returned (.int .i64 (n : Nat)) ∧ CS w W' q l p' bad' u xs a b := by
  have := cs_num h hl hp
  rw [hn] at this
  exact this
theorem cx_num' {w W : World} {q l p bad u xs a b x y} {n p' : Nat} {bad' : Bool} (h : CX w W q l p bad u xs a b x y) (hl : l.length ≤ 1000000) (hp : p ≤ l.length) (hn : numR l p bad = (n, p', bad')) :
    Calls Tryd.prog 29 #[.pointer (some ⟨w.heap.size + 1, 0, none⟩)] W fun e W' => e = .returned (.int .i64 (n : Nat)) ∧ CX w W' q l p' bad' u xs a b x y := by
  have := cx_num h hl hp
  rw [hn] at this
  exact this
theorem numR_le' {l : List UInt8} {p : Nat} {bad : Bool} {n p' : Nat} {bad' : Bool} (hn : numR l p bad = (n, p', bad')) (hp : p ≤ l.length) : n < 100000 ∧ p ≤ p' ∧ p' ≤ l.length := by
  have := numR_le l p bad hp
  rw [hn] at this
  exact this
theorem cx_word_t {w W : World} {q l p bad u xs a b x y} (t : List UInt8) (k : Nat) (hk : t.length = k) (h : CX w W q l p bad u xs a b x y) (hl : l.length ≤ 1000000) (hp : p ≤ l.length) (ht : t.length ≤ 100) (ht0 : t ≠ []) (hw : wordB l p t = true) :
    Calls Tryd.prog 28 #[.pointer (some ⟨w.heap.size + 1, 0, none⟩), .string (bs t)] W fun e W' => e = .returned (.bool true) ∧ CX w W' q l (p + k) bad u xs a b x y := by
  have := cx_word t h hl hp ht ht0
  rw [hw, hk] at this
  exact this
theorem cx_word_f {w W : World} {q l p bad u xs a b x y} (t : List UInt8) (h : CX w W q l p bad u xs a b x y) (hl : l.length ≤ 1000000) (hp : p ≤ l.length) (ht : t.length ≤ 100) (ht0 : t ≠ []) (hw : wordB l p t = false) :
    Calls Tryd.prog 28 #[.pointer (some ⟨w.heap.size + 1, 0, none⟩), .string (bs t)] W fun e W' => e = .returned (.bool false) ∧ CX w W' q l p bad u xs a b x y := by
  have := cx_word t h hl hp ht ht0
  rw [hw] at this
  exact this
theorem CS.kpw {w W : World} {q l p bad u xs a b} (h : CS w W q l p bad u xs a b) : Kp [] w W := Kp.ofBelow h.bel
theorem cs_none {w W : World} {q l p bad u xs a b} (hd : readL l = none) (h : CS w W q l p bad u xs a b) :
    ReadPost l w (.returned (.tuple #[.agg #[.slice none 0 0, .int .i64 0, .int .i64 0], .int .i64 130])) (((W.setCell ⟨w.heap.size, 0, none⟩ (.slice none 0 0)).setCell ⟨w.heap.size, 1, none⟩ (.int .i64 0)).setCell ⟨w.heap.size, 2, none⟩ (.int .i64 0)) :=
  read_no hd (set3_kp h.kpw (Nat.le_refl _))
set_option maxRecDepth 100000 in
set_option maxHeartbeats 8000000 in
theorem rread_calls (l : List UInt8) (hl : l.length ≤ 1000000) (w : World) : Calls Tryd.prog 11 #[.string (bs l)] w (ReadPost l w) := by
  obtain ⟨i0, hi0, hz0, hz1, hz2⟩ := info_parts info3
  have k1 := (Kp.refl [] w).alloc (.cells #[.slice none 0 0, .int .i64 0, .int .i64 0] 24)
  have hr1 := heap_alloc_new w (.cells #[.slice none 0 0, .int .i64 0, .int .i64 0] 24)
  generalize hW1 : w.alloc (.cells #[.slice none 0 0, .int .i64 0, .int .i64 0] 24) = W1 at k1 hr1
  have hs1 : W1.heap.size = w.heap.size + 1 := by rw [← hW1]; simp
  have k2 := k1.alloc (.cells #[.string (bs l), .int .i64 0, .bool false] 70)
  have hr2 := kblk ((Kp.refl [] W1).alloc (.cells #[.string (bs l), .int .i64 0, .bool false] 70)) hr1
  have hrd := heap_alloc_new W1 (.cells #[.string (bs l), .int .i64 0, .bool false] 70)
  rw [hs1] at hrd
  have WC := Lib.hid (burinref14_Cursor_word.calls (w.heap.size + 1) (bs l) (0 : Nat) false (bs [112, 114, 111, 103, 114, 97, 109]) _ _ _ _ w _ ⟨hrd, by omega⟩ (k2.below (Nat.le_refl _) (by simp)) (word_f l 0 false _ hl (by omega) (by decide) (by decide)))
  replace hW1 := Lib.hid hW1
  replace hs1 := Lib.hid hs1
  clear i0 hi0 hz0 hz1 hz2
  go_enter Tryd.func11, Tryd.ntmps11
  go_wp2_with fail
  rw [hW1.out]
  refine WC.out.mono ?_
  rintro e W2 ⟨rfl, ⟨h70, _⟩, hb2, hk2⟩
  replace hr2 := (hk2.2 _ (ltB hr2) (by omega) (by simp)).trans hr2
  clear hrd k2 hr1 k1 hk2 WC
  have e0 := cellB hr2 0; have e1 := cellB hr2 1; have e2 := cellB hr2 2
  have f0 := frozB hr2 0; have f1 := frozB hr2 1; have f2 := frozB hr2 2
  simp at e0 e1 e2
  cases hw0 : wordB l 0 [112, 114, 111, 103, 114, 97, 109] with
  | false =>
    have hN := Lib.hid (start_no hw0)
    rw [hw0] at h70
    go_wp2_with fail
    refine bodyPost_ret (results_ct rfl _ _ w.heap.size 24 #[.slice none 0 0, .int .i64 0, .int .i64 0] (0, 0) _ rfl (setB3 hr2) Tryd.underlying24 rfl info24) rfl ?_
    exact read_no hN.out (set3_kp (Kp.ofBelow hb2) (Nat.le_refl _))
  | true =>
    rw [hw0] at h70
    have hle := wordB_le hw0 (by decide)
    simp only [if_true] at h70
    have X0 := CS.start (p := 7) hr2 h70 hb2
    obtain ⟨q, hq⟩ : ∃ q, q = W2.heap.size := ⟨_, rfl⟩
    rw [← hq] at X0
    replace hq := Lib.hid hq
    clear hr2 h70 hb2 e0 e1 e2 f0 f1 f2
    go_wp2_with fail
    rw [← hq.out]
    obtain ⟨n1, p1, t1, hN1⟩ : ∃ n1 p1 t1, numR l 7 false = (n1, p1, t1) := ⟨_, _, _, rfl⟩
    have b1 := numR_le' hN1 hle
    obtain ⟨n2, p2, t2, hN2⟩ : ∃ n2 p2 t2, numR l p1 t1 = (n2, p2, t2) := ⟨_, _, _, rfl⟩
    have b2 := numR_le' hN2 b1.2.2
    refine (cs_num' X0 hl hle hN1).mono ?_
    rintro e W3 ⟨rfl, X1⟩
    have z1 := cellB X1.prg 1
    have y1 := frozB X1.prg 1
    simp at z1
    have X2 := X1.setPrg 1 (.int .i64 (n1 : Nat)) (a' := (n1 : Nat)) (b' := 0) rfl
    have hPr := start_yes (l := l) (m := [n1, n2]) (p := p2) (bad := t2) (by
      show ((numR l 7 false).1 :: ((numR l (numR l 7 false).2.1 (numR l 7 false).2.2).1 :: []), (numR l (numR l 7 false).2.1 (numR l 7 false).2.2).2) = _
      rw [hN1]
      simp only
      rw [hN2])
    obtain ⟨a', b', hab, hPr⟩ := hPr
    obtain ⟨rfl, rfl⟩ : n1 = a' ∧ n2 = b' := by simpa using hab
    replace hPr := Lib.hid hPr
    replace hN1 := Lib.hid hN1
    replace hN2 := Lib.hid hN2
    clear X0 X1 hab
    go_wp2_with fail
    refine (cs_num' X2 hl b1.2.2 hN2.out).mono ?_
    rintro e W4 ⟨rfl, X3⟩
    have z2 := cellB X3.prg 2
    have y2 := frozB X3.prg 2
    simp at z2
    have X4 := X3.setPrg 2 (.int .i64 (n2 : Nat)) (a' := (n1 : Nat)) (b' := (n2 : Nat)) rfl
    clear X2 z1 y1
    go_upto_region 7 with fail
    clear z2 y2 X3
    obtain ⟨W5, hW5⟩ : ∃ W5, W5 = W4.setCell ⟨q, 2, none⟩ (.int .i64 (n2 : Nat)) := ⟨_, rfl⟩
    rw [← hW5] at X4 ⊢
    clear hW5
    have r2 := cellB X4.rd 2
    have s2 := frozB X4.rd 2
    simp at r2
    have hltX := ltB X4.rd
    go_cut [] (fun wc => ∃ p bad, CS w wc q l p bad (.slice none 0 0) [] n1 n2 ∧ Aside0 (Prom l [] n1 n2 p bad) ∧ p ≤ l.length)
    case first =>
      cases t2 with
      | true =>
        have X5 := X4.setBad true
        go_wp2_with fail
        go_meet
        case rel => exact ⟨_, _, X5, ⟨hPr.out⟩, b2.2.2⟩
      | false =>
        have C1 := Lib.hid (cs_word [10] X4 hl b2.2.2 (by decide) (by decide))
        go_wp2_with fail
        refine C1.out.mono ?_
        rintro e W6 ⟨rfl, X5⟩
        have hPr' := hPr.out
        clear r2 s2 hltX C1
        cases hw : wordB l p2 [10] with
        | true =>
          have hw' := wordB_le hw (by decide)
          rw [hw] at X5
          simp only [if_true] at X5
          have X6 := X5.setBad false
          have r2 := cellB X5.rd 2
          have s2 := frozB X5.rd 2
          simp at r2
          have hltX := ltB X5.rd
          simp only [afterP, afterB, hw, if_true, if_false, Bool.false_eq_true, Bool.not_true, Bool.or_false] at hPr'
          replace hPr' := Lib.hid hPr'
          replace hw := Lib.hid hw
          clear hPr X4
          go_wp2_with fail
          go_meet
          case rel => exact ⟨_, _, X6, ⟨hPr'.out⟩, hw'⟩
        | false =>
          rw [hw] at X5
          simp only [if_false, Bool.false_eq_true] at X5
          have X6 := X5.setBad true
          have r2 := cellB X5.rd 2
          have s2 := frozB X5.rd 2
          simp at r2
          have hltX := ltB X5.rd
          simp only [afterP, afterB, hw, if_true, if_false, Bool.false_eq_true, Bool.not_false, Bool.or_true] at hPr'
          replace hPr' := Lib.hid hPr'
          replace hw := Lib.hid hw
          clear hPr X4
          go_wp2_with fail
          go_meet
          case rel => exact ⟨_, _, X6, ⟨hPr'.out⟩, b2.2.2⟩
    case rest =>
      obtain ⟨p0, bad0, X0, ⟨hP0⟩, hp0⟩ := hcut
      clear r2 s2 hltX X4 hN1 hN2 hPr b1 b2 hle hw0
      go_wp2_with fail
      go_loopg [6] (l.length + 2) (fun gk v6 wr => ∃ (p : Nat) (bad : Bool) (xs : List S35) (A : Option Addr) (c : Nat), CS w wr q l p bad (.slice A xs.length c) xs n1 n2 ∧ Aside0 (Prom l xs n1 n2 p bad) ∧ p ≤ l.length ∧ xs.length ≤ 4002 ∧ (bad = false → xs.length ≤ 4001) ∧ Aside0 ((if bad = true then 0 else l.length - p + 1) ≤ gk))
      case atStart => exact ⟨p0, bad0, [], none, 0, X0, ⟨hP0⟩, hp0, by simp, by simp, ⟨by split <;> omega⟩⟩
      case round =>
        obtain ⟨p, bad, xs, A, c, X, ⟨hP⟩, hp, hx1, hx2, ⟨hgk⟩⟩ := hrel
        clear X0 hP0 hp0
        have r1 := cellB X.rd 1
        have r2 := cellB X.rd 2
        have s2 := frozB X.rd 2
        simp at r1 r2
        have hltX := ltB X.rd
        cases bad with
        | true =>
          have hN := Lib.hid (end_bad hP)
          have e0 := cellB X.res 0; have e1 := cellB X.res 1; have e2 := cellB X.res 2
          have f0 := frozB X.res 0; have f1 := frozB X.res 1; have f2 := frozB X.res 2
          simp at e0 e1 e2
          clear hP hgk hx2
          go_wp2_with fail
          refine bodyPost_ret (results_ct rfl _ _ w.heap.size 24 #[.slice none 0 0, .int .i64 0, .int .i64 0] (0, 0) _ rfl (setB3 X.res) Tryd.underlying24 rfl info24) rfl ?_
          exact cs_none hN.out X
        | false =>
          by_cases hlt : p < l.length
          · have dp : decide ((p : Int) < (l.length : Int)) = true := decide_eq_true (by omega)
            have hsz : (bs l).size = l.length := bs_size l
            have hP' := Lib.hid hP
            have hgk1 : 1 ≤ gk := by simp at hgk; omega
            obtain ⟨g1, rfl⟩ : ∃ g1, gk = g1 + 1 := ⟨gk - 1, by omega⟩
            have hgk2 : l.length - p ≤ g1 := by simp at hgk; omega
            have hx3 := hx2 rfl
            clear hP hgk hx2
            go_upto_block 2 with fail
            have Y := CX.new X ⟨0, 0, 0, 0, 0⟩
            dsimp only at Y
            obtain ⟨V0, hV0⟩ : ∃ V0, V0 = wr.alloc (Obj.cells #[Value.int IntKind.i64 0, Value.int IntKind.i64 0, Value.int IntKind.i64 0, Value.int IntKind.i64 0, Value.int IntKind.i64 0] 35) := ⟨_, rfl⟩
            obtain ⟨xb, hxb⟩ : ∃ xb, xb = wr.heap.size := ⟨_, rfl⟩
            rw [← hV0, ← hxb] at Y
            rw [← hV0, ← hxb]
            clear hV0 hxb r1 r2 s2 hltX X
            go_cut [] (fun wc => ∃ (p1 : Nat) (b1 : Bool) (x : S35), CX w wc q l p1 b1 (.slice A xs.length c) xs n1 n2 xb x ∧ Aside0 (Prom l (xs ++ [x]) n1 n2 (afterP l p1 b1) (afterB l p1 b1 || decide (4000 < xs.length))) ∧ p1 ≤ l.length ∧ Aside0 (b1 = false → p < p1))
            case first =>
              go_wp2_with fail
              cases hw1 : wordB l p [98, 121, 116, 101] with
              | true =>
                refine (cx_word_t [98, 121, 116, 101] 4 rfl Y hl hp (by decide) (by decide) hw1).mono ?_
                rintro e V ⟨rfl, Z⟩
                have hq0 : p + 4 ≤ l.length := wordB_le hw1 (by decide)
                obtain ⟨n3, p3, t3, hN3⟩ : ∃ n p' t, numR l (p + 4) false = (n, p', t) := ⟨_, _, _, rfl⟩
                have hq1 := numR_le' hN3 hq0
                obtain ⟨n4, p4, t4, hN4⟩ : ∃ n p' t, numR l p3 t3 = (n, p', t) := ⟨_, _, _, rfl⟩
                have hq2 := numR_le' hN4 hq1.2.2
                obtain ⟨n5, p5, t5, hN5⟩ : ∃ n p' t, numR l p4 t4 = (n, p', t) := ⟨_, _, _, rfl⟩
                have hq3 := numR_le' hN5 hq2.2.2
                have hstep := prom_step (op := 1) hP'.out hlt (by decide) hw1 (ns := [n3, n4, n5]) (p1 := p5) (b1 := t5) (x := ⟨1, (n3 : Nat), (n4 : Nat), (n5 : Nat), 0⟩) (by
                  show numsR l 3 (p + 4) false = _
                  simp only [numsR, hN3, hN4, hN5]) rfl
                replace hstep := Lib.hid hstep
                have z0 := cellB Z.own 0
                have y0 := frozB Z.own 0
                simp at z0
                have Z0 := Z.set 0 (.int .i64 1) ⟨1, 0, 0, 0, 0⟩ rfl
                have lz0 := ltB Z.own
                replace hN3 := Lib.hid hN3
                replace hN4 := Lib.hid hN4
                replace hN5 := Lib.hid hN5
                replace hw1 := Lib.hid hw1
                clear Y Z
                go_wp2_with fail
                refine (cx_num' Z0 hl hq0 hN3.out).mono ?_
                rintro e V0 ⟨rfl, Z⟩
                have z1 := cellB Z.own 1
                have y1 := frozB Z.own 1
                simp at z1
                have Z1 := Z.set 1 (.int .i64 (n3 : Nat)) ⟨1, (n3 : Nat), 0, 0, 0⟩ rfl
                have lz1 := ltB Z.own
                clear Z Z0 z0 y0 lz0
                go_wp2_with fail
                refine (cx_num' Z1 hl hq1.2.2 hN4.out).mono ?_
                rintro e V1 ⟨rfl, Z⟩
                have z2 := cellB Z.own 2
                have y2 := frozB Z.own 2
                simp at z2
                have Z2 := Z.set 2 (.int .i64 (n4 : Nat)) ⟨1, (n3 : Nat), (n4 : Nat), 0, 0⟩ rfl
                have lz2 := ltB Z.own
                clear Z Z1 z1 y1 lz1
                go_wp2_with fail
                refine (cx_num' Z2 hl hq2.2.2 hN5.out).mono ?_
                rintro e V2 ⟨rfl, Z⟩
                have z3 := cellB Z.own 3
                have y3 := frozB Z.own 3
                simp at z3
                have Z3 := Z.set 3 (.int .i64 (n5 : Nat)) ⟨1, (n3 : Nat), (n4 : Nat), (n5 : Nat), 0⟩ rfl
                have lz3 := ltB Z.own
                clear Z Z2 z2 y2 lz2
                go_wp2_with fail
                go_meet
                case rel => exact ⟨p5, t5, ⟨1, (n3 : Nat), (n4 : Nat), (n5 : Nat), 0⟩, Z3, ⟨hstep.out⟩, hq3.2.2, ⟨fun _ => Nat.lt_of_lt_of_le (show p < p + 4 by omega) (Nat.le_trans hq1.2.1 (Nat.le_trans hq2.2.1 hq3.2.1))⟩⟩
              | false =>
                refine (cx_word_f [98, 121, 116, 101] Y hl hp (by decide) (by decide) hw1).mono ?_
                rintro e V1 ⟨rfl, Z⟩
                replace hw1 := Lib.hid hw1
                replace Y := Z
                clear Z
                go_wp2_with fail
                cases hw2 : wordB l p [115, 112, 108, 105, 116] with
                | true =>
                  refine (cx_word_t [115, 112, 108, 105, 116] 5 rfl Y hl hp (by decide) (by decide) hw2).mono ?_
                  rintro e V ⟨rfl, Z⟩
                  have hq0 : p + 5 ≤ l.length := wordB_le hw2 (by decide)
                  obtain ⟨n3, p3, t3, hN3⟩ : ∃ n p' t, numR l (p + 5) false = (n, p', t) := ⟨_, _, _, rfl⟩
                  have hq1 := numR_le' hN3 hq0
                  obtain ⟨n4, p4, t4, hN4⟩ : ∃ n p' t, numR l p3 t3 = (n, p', t) := ⟨_, _, _, rfl⟩
                  have hq2 := numR_le' hN4 hq1.2.2
                  have hstep := prom_step (op := 2) hP'.out hlt (by decide) hw2 (ns := [n3, n4]) (p1 := p4) (b1 := t4) (x := ⟨2, 0, 0, (n3 : Nat), (n4 : Nat)⟩) (by
                    show numsR l 2 (p + 5) false = _
                    simp only [numsR, hN3, hN4]) rfl
                  replace hstep := Lib.hid hstep
                  have z0 := cellB Z.own 0
                  have y0 := frozB Z.own 0
                  simp at z0
                  have Z0 := Z.set 0 (.int .i64 2) ⟨2, 0, 0, 0, 0⟩ rfl
                  have lz0 := ltB Z.own
                  replace hN3 := Lib.hid hN3
                  replace hN4 := Lib.hid hN4
                  replace hw2 := Lib.hid hw2
                  clear Y Z
                  go_wp2_with fail
                  refine (cx_num' Z0 hl hq0 hN3.out).mono ?_
                  rintro e V0 ⟨rfl, Z⟩
                  have z1 := cellB Z.own 3
                  have y1 := frozB Z.own 3
                  simp at z1
                  have Z1 := Z.set 3 (.int .i64 (n3 : Nat)) ⟨2, 0, 0, (n3 : Nat), 0⟩ rfl
                  have lz1 := ltB Z.own
                  clear Z Z0 z0 y0 lz0
                  go_wp2_with fail
                  refine (cx_num' Z1 hl hq1.2.2 hN4.out).mono ?_
                  rintro e V1 ⟨rfl, Z⟩
                  have z2 := cellB Z.own 4
                  have y2 := frozB Z.own 4
                  simp at z2
                  have Z2 := Z.set 4 (.int .i64 (n4 : Nat)) ⟨2, 0, 0, (n3 : Nat), (n4 : Nat)⟩ rfl
                  have lz2 := ltB Z.own
                  clear Z Z1 z1 y1 lz1
                  go_wp2_with fail
                  go_meet
                  case rel => exact ⟨p4, t4, ⟨2, 0, 0, (n3 : Nat), (n4 : Nat)⟩, Z2, ⟨hstep.out⟩, hq2.2.2, ⟨fun _ => Nat.lt_of_lt_of_le (show p < p + 5 by omega) (Nat.le_trans hq1.2.1 hq2.2.1)⟩⟩
                | false =>
                  refine (cx_word_f [115, 112, 108, 105, 116] Y hl hp (by decide) (by decide) hw2).mono ?_
                  rintro e V2 ⟨rfl, Z⟩
                  replace hw2 := Lib.hid hw2
                  replace Y := Z
                  clear Z
                  go_wp2_with fail
                  cases hw3 : wordB l p [99, 97, 112] with
                  | true =>
                    refine (cx_word_t [99, 97, 112] 3 rfl Y hl hp (by decide) (by decide) hw3).mono ?_
                    rintro e V ⟨rfl, Z⟩
                    have hq0 : p + 3 ≤ l.length := wordB_le hw3 (by decide)
                    obtain ⟨n3, p3, t3, hN3⟩ : ∃ n p' t, numR l (p + 3) false = (n, p', t) := ⟨_, _, _, rfl⟩
                    have hq1 := numR_le' hN3 hq0
                    obtain ⟨n4, p4, t4, hN4⟩ : ∃ n p' t, numR l p3 t3 = (n, p', t) := ⟨_, _, _, rfl⟩
                    have hq2 := numR_le' hN4 hq1.2.2
                    have hstep := prom_step (op := 3) hP'.out hlt (by decide) hw3 (ns := [n3, n4]) (p1 := p4) (b1 := t4) (x := ⟨3, (n3 : Nat), 0, (n4 : Nat), 0⟩) (by
                      show numsR l 2 (p + 3) false = _
                      simp only [numsR, hN3, hN4]) rfl
                    replace hstep := Lib.hid hstep
                    have z0 := cellB Z.own 0
                    have y0 := frozB Z.own 0
                    simp at z0
                    have Z0 := Z.set 0 (.int .i64 3) ⟨3, 0, 0, 0, 0⟩ rfl
                    have lz0 := ltB Z.own
                    replace hN3 := Lib.hid hN3
                    replace hN4 := Lib.hid hN4
                    replace hw3 := Lib.hid hw3
                    clear Y Z
                    go_wp2_with fail
                    refine (cx_num' Z0 hl hq0 hN3.out).mono ?_
                    rintro e V0 ⟨rfl, Z⟩
                    have z1 := cellB Z.own 1
                    have y1 := frozB Z.own 1
                    simp at z1
                    have Z1 := Z.set 1 (.int .i64 (n3 : Nat)) ⟨3, (n3 : Nat), 0, 0, 0⟩ rfl
                    have lz1 := ltB Z.own
                    clear Z Z0 z0 y0 lz0
                    go_wp2_with fail
                    refine (cx_num' Z1 hl hq1.2.2 hN4.out).mono ?_
                    rintro e V1 ⟨rfl, Z⟩
                    have z2 := cellB Z.own 3
                    have y2 := frozB Z.own 3
                    simp at z2
                    have Z2 := Z.set 3 (.int .i64 (n4 : Nat)) ⟨3, (n3 : Nat), 0, (n4 : Nat), 0⟩ rfl
                    have lz2 := ltB Z.own
                    clear Z Z1 z1 y1 lz1
                    go_wp2_with fail
                    go_meet
                    case rel => exact ⟨p4, t4, ⟨3, (n3 : Nat), 0, (n4 : Nat), 0⟩, Z2, ⟨hstep.out⟩, hq2.2.2, ⟨fun _ => Nat.lt_of_lt_of_le (show p < p + 3 by omega) (Nat.le_trans hq1.2.1 hq2.2.1)⟩⟩
                  | false =>
                    refine (cx_word_f [99, 97, 112] Y hl hp (by decide) (by decide) hw3).mono ?_
                    rintro e V3 ⟨rfl, Z⟩
                    replace hw3 := Lib.hid hw3
                    replace Y := Z
                    clear Z
                    go_wp2_with fail
                    cases hw4 : wordB l p [97, 115, 115, 101, 114, 116] with
                    | true =>
                      refine (cx_word_t [97, 115, 115, 101, 114, 116] 6 rfl Y hl hp (by decide) (by decide) hw4).mono ?_
                      rintro e V ⟨rfl, Z⟩
                      have hq0 : p + 6 ≤ l.length := wordB_le hw4 (by decide)
                      obtain ⟨n3, p3, t3, hN3⟩ : ∃ n p' t, numR l (p + 6) false = (n, p', t) := ⟨_, _, _, rfl⟩
                      have hq1 := numR_le' hN3 hq0
                      obtain ⟨n4, p4, t4, hN4⟩ : ∃ n p' t, numR l p3 t3 = (n, p', t) := ⟨_, _, _, rfl⟩
                      have hq2 := numR_le' hN4 hq1.2.2
                      have hstep := prom_step (op := 4) hP'.out hlt (by decide) hw4 (ns := [n3, n4]) (p1 := p4) (b1 := t4) (x := ⟨4, (n3 : Nat), 0, (n4 : Nat), 0⟩) (by
                        show numsR l 2 (p + 6) false = _
                        simp only [numsR, hN3, hN4]) rfl
                      replace hstep := Lib.hid hstep
                      have z0 := cellB Z.own 0
                      have y0 := frozB Z.own 0
                      simp at z0
                      have Z0 := Z.set 0 (.int .i64 4) ⟨4, 0, 0, 0, 0⟩ rfl
                      have lz0 := ltB Z.own
                      replace hN3 := Lib.hid hN3
                      replace hN4 := Lib.hid hN4
                      replace hw4 := Lib.hid hw4
                      clear Y Z
                      go_wp2_with fail
                      refine (cx_num' Z0 hl hq0 hN3.out).mono ?_
                      rintro e V0 ⟨rfl, Z⟩
                      have z1 := cellB Z.own 1
                      have y1 := frozB Z.own 1
                      simp at z1
                      have Z1 := Z.set 1 (.int .i64 (n3 : Nat)) ⟨4, (n3 : Nat), 0, 0, 0⟩ rfl
                      have lz1 := ltB Z.own
                      clear Z Z0 z0 y0 lz0
                      go_wp2_with fail
                      refine (cx_num' Z1 hl hq1.2.2 hN4.out).mono ?_
                      rintro e V1 ⟨rfl, Z⟩
                      have z2 := cellB Z.own 3
                      have y2 := frozB Z.own 3
                      simp at z2
                      have Z2 := Z.set 3 (.int .i64 (n4 : Nat)) ⟨4, (n3 : Nat), 0, (n4 : Nat), 0⟩ rfl
                      have lz2 := ltB Z.own
                      clear Z Z1 z1 y1 lz1
                      go_wp2_with fail
                      go_meet
                      case rel => exact ⟨p4, t4, ⟨4, (n3 : Nat), 0, (n4 : Nat), 0⟩, Z2, ⟨hstep.out⟩, hq2.2.2, ⟨fun _ => Nat.lt_of_lt_of_le (show p < p + 6 by omega) (Nat.le_trans hq1.2.1 hq2.2.1)⟩⟩
                    | false =>
                      refine (cx_word_f [97, 115, 115, 101, 114, 116] Y hl hp (by decide) (by decide) hw4).mono ?_
                      rintro e V4 ⟨rfl, Z⟩
                      replace hw4 := Lib.hid hw4
                      replace Y := Z
                      clear Z
                      go_wp2_with fail
                      cases hw5 : wordB l p [109, 97, 116, 99, 104] with
                      | true =>
                        refine (cx_word_t [109, 97, 116, 99, 104] 5 rfl Y hl hp (by decide) (by decide) hw5).mono ?_
                        rintro e V ⟨rfl, Z⟩
                        have hq0 : p + 5 ≤ l.length := wordB_le hw5 (by decide)
                        have hstep := prom_step (op := 5) hP'.out hlt (by decide) hw5 (ns := []) (p1 := (p + 5)) (b1 := false) (x := ⟨5, 0, 0, 0, 0⟩) (by
                          show numsR l 0 (p + 5) false = _
                          simp only [numsR]) rfl
                        replace hstep := Lib.hid hstep
                        have z0 := cellB Z.own 0
                        have y0 := frozB Z.own 0
                        simp at z0
                        have Z0 := Z.set 0 (.int .i64 5) ⟨5, 0, 0, 0, 0⟩ rfl
                        have lz0 := ltB Z.own
                        replace hw5 := Lib.hid hw5
                        clear Y Z
                        go_wp2_with fail
                        go_meet
                        case rel => exact ⟨(p + 5), false, ⟨5, 0, 0, 0, 0⟩, Z0, ⟨hstep.out⟩, hq0, ⟨fun _ => Nat.lt_of_lt_of_le (show p < p + 5 by omega) (Nat.le_refl _)⟩⟩
                      | false =>
                        refine (cx_word_f [109, 97, 116, 99, 104] Y hl hp (by decide) (by decide) hw5).mono ?_
                        rintro e V5 ⟨rfl, Z⟩
                        replace hw5 := Lib.hid hw5
                        replace Y := Z
                        clear Z
                        go_wp2_with fail
                        cases hw6 : wordB l p [102, 97, 105, 108] with
                        | true =>
                          refine (cx_word_t [102, 97, 105, 108] 4 rfl Y hl hp (by decide) (by decide) hw6).mono ?_
                          rintro e V ⟨rfl, Z⟩
                          have hq0 : p + 4 ≤ l.length := wordB_le hw6 (by decide)
                          have hstep := prom_step (op := 6) hP'.out hlt (by decide) hw6 (ns := []) (p1 := (p + 4)) (b1 := false) (x := ⟨6, 0, 0, 0, 0⟩) (by
                            show numsR l 0 (p + 4) false = _
                            simp only [numsR]) rfl
                          replace hstep := Lib.hid hstep
                          have z0 := cellB Z.own 0
                          have y0 := frozB Z.own 0
                          simp at z0
                          have Z0 := Z.set 0 (.int .i64 6) ⟨6, 0, 0, 0, 0⟩ rfl
                          have lz0 := ltB Z.own
                          replace hw6 := Lib.hid hw6
                          clear Y Z
                          go_wp2_with fail
                          go_meet
                          case rel => exact ⟨(p + 4), false, ⟨6, 0, 0, 0, 0⟩, Z0, ⟨hstep.out⟩, hq0, ⟨fun _ => Nat.lt_of_lt_of_le (show p < p + 4 by omega) (Nat.le_refl _)⟩⟩
                        | false =>
                          refine (cx_word_f [102, 97, 105, 108] Y hl hp (by decide) (by decide) hw6).mono ?_
                          rintro e V6 ⟨rfl, Z⟩
                          replace hw6 := Lib.hid hw6
                          replace Y := Z
                          clear Z
                          have r2 := cellB Y.rd 2
                          have s2 := frozB Y.rd 2
                          simp at r2
                          have Y' := Y.setBad true
                          have hlost := prom_lost hP'.out hlt (by
                            intro op ho
                            obtain rfl | rfl | rfl | rfl | rfl | rfl : op = 1 ∨ op = 2 ∨ op = 3 ∨ op = 4 ∨ op = 5 ∨ op = 6 := by omega
                            · exact hw1.out
                            · exact hw2.out
                            · exact hw3.out
                            · exact hw4.out
                            · exact hw5.out
                            · exact hw6.out) ⟨0, 0, 0, 0, 0⟩ p
                          replace hlost := Lib.hid hlost
                          go_wp2_with fail
                          go_meet
                          case rel => exact ⟨p, true, ⟨0, 0, 0, 0, 0⟩, Y', ⟨hlost.out⟩, hp, ⟨fun h => by simp at h⟩⟩
            case rest =>
              obtain ⟨p1, b1, x, Z, ⟨hPx⟩, hp1, ⟨hpp⟩⟩ := hcut
              go_upto_region 32 with fail
              go_cut [] (fun wc => ∃ (p2 : Nat) (b2 : Bool), CX w wc q l p2 b2 (.slice A xs.length c) xs n1 n2 xb x ∧ Aside0 (Prom l (xs ++ [x]) n1 n2 p2 b2) ∧ p2 ≤ l.length ∧ Aside0 (b2 = false → p < p2 ∧ xs.length ≤ 4000))
              case first =>
                have r2 := cellB Z.rd 2
                have s2 := frozB Z.rd 2
                simp at r2
                have ltZ := ltB Z.rd
                have hPx' := Lib.hid hPx
                clear hPx
                cases b1 with
                | true =>
                  have Z1 := Z.setBad true
                  have hfin := Lib.hid (show Prom l (xs ++ [x]) n1 n2 p1 true from hPx'.out)
                  go_wp2_with fail
                  go_meet
                  case rel => exact ⟨p1, true, Z1, ⟨hfin.out⟩, hp1, ⟨fun h => by simp at h⟩⟩
                | false =>
                  have hpp' := hpp rfl
                  cases hwf : wordB l p1 [10] with
                  | true =>
                    have hwl := wordB_le hwf (by decide)
                    have C1 := Lib.hid (cx_word_t [10] 1 rfl Z hl hp1 (by decide) (by decide) hwf)
                    by_cases h4 : 4000 < xs.length
                    · have d4 : decide ((4000 : Int) < (xs.length : Int)) = true := decide_eq_true (by omega)
                      have hfin := Lib.hid (show Prom l (xs ++ [x]) n1 n2 (p1 + 1) true from by
                        have := hPx'.out
                        simp only [afterP, afterB, hwf, if_true, if_false, Bool.false_eq_true, Bool.not_true, Bool.or_false, decide_eq_true h4, Bool.false_or] at this
                        exact this)
                      replace hwf := Lib.hid hwf
                      go_wp2_with fail
                      refine C1.out.mono ?_
                      rintro e V ⟨rfl, Z1⟩
                      clear r2 s2 ltZ
                      have r2 := cellB Z1.rd 2
                      have s2 := frozB Z1.rd 2
                      simp at r2
                      have ltZ := ltB Z1.rd
                      have c0 := cellB Z1.prg 0
                      simp at c0
                      have Z2 := Z1.setBad true
                      go_wp2_with fail
                      go_meet
                      case rel => exact ⟨p1 + 1, true, Z2, ⟨hfin.out⟩, hwl, ⟨fun h => by simp at h⟩⟩
                    · have d4 : decide ((4000 : Int) < (xs.length : Int)) = false := decide_eq_false (by omega)
                      have hfin := Lib.hid (show Prom l (xs ++ [x]) n1 n2 (p1 + 1) false from by
                        have := hPx'.out
                        simp only [afterP, afterB, hwf, if_true, if_false, Bool.false_eq_true, Bool.not_true, Bool.or_false, decide_eq_false h4, Bool.false_or] at this
                        exact this)
                      replace hwf := Lib.hid hwf
                      go_wp2_with fail
                      refine C1.out.mono ?_
                      rintro e V ⟨rfl, Z1⟩
                      clear r2 s2 ltZ
                      have r2 := cellB Z1.rd 2
                      have s2 := frozB Z1.rd 2
                      simp at r2
                      have ltZ := ltB Z1.rd
                      have c0 := cellB Z1.prg 0
                      simp at c0
                      have Z2 := Z1.setBad false
                      go_wp2_with fail
                      go_meet
                      case rel => exact ⟨p1 + 1, false, Z2, ⟨hfin.out⟩, hwl, ⟨fun _ => ⟨by omega, by omega⟩⟩⟩
                  | false =>
                    have C1 := Lib.hid (cx_word_f [10] Z hl hp1 (by decide) (by decide) hwf)
                    have hfin := Lib.hid (show Prom l (xs ++ [x]) n1 n2 p1 true from by
                      have := hPx'.out
                      simp only [afterP, afterB, hwf, if_true, if_false, Bool.false_eq_true, Bool.not_false, Bool.or_true, Bool.true_or, Bool.false_or] at this
                      exact this)
                    replace hwf := Lib.hid hwf
                    go_wp2_with fail
                    refine C1.out.mono ?_
                    rintro e V ⟨rfl, Z1⟩
                    clear r2 s2 ltZ
                    have r2 := cellB Z1.rd 2
                    have s2 := frozB Z1.rd 2
                    simp at r2
                    have ltZ := ltB Z1.rd
                    have Z2 := Z1.setBad true
                    go_wp2_with fail
                    go_meet
                    case rel => exact ⟨p1, true, Z2, ⟨hfin.out⟩, hp1, ⟨fun h => by simp at h⟩⟩
              case rest =>
                clear Z hPx hp1 hpp
                obtain ⟨p2, b2, Z, ⟨hPx⟩, hp2, ⟨hpp⟩⟩ := hcut
                have hPx' := Lib.hid hPx
                have hpp' := Lib.hid hpp
                clear hPx hpp
                have c0 := cellB Z.prg 0
                simp at c0
                have z0 := cellB Z.own 0; have z1 := cellB Z.own 1; have z2 := cellB Z.own 2; have z3 := cellB Z.own 3; have z4 := cellB Z.own 4
                simp at z0 z1 z2 z3 z4
                have ltq := ltB Z.prg
                have ltx := ltB Z.own
                have hbs := Z.bel.size
                go_wp2_with (at_builtin; refine Kd.R_append k35 (w0 := w) w.heap.size rfl (.tmp 121) (.tmp 123) 22 35 (.agg #[(.int .i64 0), (.int .i64 0), (.int .i64 0), (.int .i64 0), (.int .i64 0)]) 40 rfl Tryd.underlying22 info35' rfl (by decide) (by decide) (.slice A xs.length c) xs x [.int .i64 x.f0, .int .i64 x.f1, .int .i64 x.f2, .int .i64 x.f3, .int .i64 x.f4] (fun k_ => k_ ≠ xb) (fun _ => False) rfl (by first | (go_simp; done) | (go_simp; rfl)) (k35_mkM _ _ _ x) (fun _ hk => hk.elim) ?aF Z.row Z.bel Z.bel.size ?aL ?_; (case aF => intro k_ hk_; show k_ ≠ xb; omega); (case aL => omega); intro v1 w1 hR1 hB1 hg1 _; obtain ⟨Av, cv, rfl⟩ := Kd.R_slice hR1; obtain ⟨SE, hpe⟩ := CX.app Z hR1 hB1 hg1; have u0 := cellB hpe 0; have fu0 := frozB hpe 0; simp at u0; clear c0 z0 z1 z2 z3 z4)
                go_roundg g1
                case measure => omega
                case rel =>
                  have hl1 : (xs ++ [x]).length = xs.length + 1 := by simp
                  rw [hl1] at SE
                  refine ⟨p2, b2, xs ++ [x], Av, cv, by rw [hl1]; exact SE, ⟨hPx'.out⟩, hp2, by rw [hl1]; omega, fun h => by rw [hl1]; have := (hpp'.out h).2; omega, ⟨?_⟩⟩
                  cases b2 with
                  | true => simp
                  | false => have := (hpp'.out rfl).1; simp; omega
          · have dp : decide ((p : Int) < (l.length : Int)) = false := decide_eq_false (by omega)
            have hsz : (bs l).size = l.length := bs_size l
            obtain ⟨A', c', he, hcl, hC⟩ := Kd.R_reads X.row
            obtain ⟨rfl, rfl⟩ : A = A' ∧ c = c' := by injection he with h1 h2 h3; exact ⟨h1, h3⟩
            have CC := Lib.hid (rcheck_calls A c xs n1 n2 wr hC hcl)
            have c0 := cellB X.prg 0; have c1 := cellB X.prg 1; have c2 := cellB X.prg 2
            simp at c0 c1 c2
            have ltq := ltB X.prg
            have hgt : ¬ p < l.length := hlt
            clear he hgk hx2
            rcases check_val xs n1 n2 with hch | hch
            rotate_left
            · have hN := Lib.hid (end_check hP hgt (by rw [hch]; decide))
              rw [hch] at CC
              replace hch := Lib.hid hch
              replace hP := Lib.hid hP
              go_wp2_with fail
              refine CC.out.mono ?_
              rintro e V ⟨rfl, kV⟩
              have XV := X.kp kV
              have e0 := cellB XV.res 0; have e1 := cellB XV.res 1; have e2 := cellB XV.res 2
              have f0 := frozB XV.res 0; have f1 := frozB XV.res 1; have f2 := frozB XV.res 2
              simp at e0 e1 e2
              clear X c0 c1 c2 r1 r2 s2
              go_wp2_with fail
              refine bodyPost_ret (results_ct rfl _ _ w.heap.size 24 #[.slice none 0 0, .int .i64 0, .int .i64 0] (0, 0) _ rfl (setB3 XV.res) Tryd.underlying24 rfl info24) rfl ?_
              exact cs_none hN.out XV
            · have TC := Lib.hid (fun W k => rtext_calls A c xs n1 n2 W (Kd.C_below hC (k : Below wr.heap.size wr W)) hcl hch)
              rw [hch] at CC
              by_cases htx : progT xs n1 n2 = l
              · have hY := Lib.hid (end_good hch htx)
                have F1 : (bs (progT xs n1 n2)).toList = (bs l).toList := by rw [htx]
                have F2 : ((bs (progT xs n1 n2)).toList == (bs l).toList) = true := by rw [htx]; simp
                have F3 : ((bs (progT xs n1 n2)).toList != (bs l).toList) = false := by rw [htx]; simp
                replace hch := Lib.hid hch
                replace hP := Lib.hid hP
                replace htx := Lib.hid htx
                go_wp2_with fail
                refine CC.out.mono ?_
                rintro e V ⟨rfl, kV⟩
                have XV := X.kp kV
                have TV := Lib.hid (TC.out V (kV.below (Nat.le_refl _) (by simp)))
                clear c0 c1 c2 r1 r2 s2 ltq hltX
                have c0 := cellB XV.prg 0; have c1 := cellB XV.prg 1; have c2 := cellB XV.prg 2
                simp at c0 c1 c2
                have ltq := ltB XV.prg
                clear X
                go_wp2_with fail
                refine TV.out.mono ?_
                rintro e V2 ⟨rfl, kV2⟩
                have X2 := XV.kp kV2
                clear c0 c1 c2 ltq
                have c0 := cellB X2.prg 0; have c1 := cellB X2.prg 1; have c2 := cellB X2.prg 2
                have e0 := cellB X2.res 0; have e1 := cellB X2.res 1; have e2 := cellB X2.res 2
                have f0 := frozB X2.res 0; have f1 := frozB X2.res 1; have f2 := frozB X2.res 2
                simp at c0 c1 c2 e0 e1 e2
                clear XV
                go_wp2_with fail
                refine bodyPost_ret (results_ct rfl _ _ w.heap.size 24 #[.slice A xs.length c, .int .i64 n1, .int .i64 n2] (0, 0) _ rfl (setB3 X2.res) Tryd.underlying24 rfl info24) rfl ?_
                refine ⟨set3_kp X2.kpw (Nat.le_refl _), ?_⟩
                rw [hY.out]
                exact ⟨_, rfl, Kd.R_set (Kd.R_set (Kd.R_set X2.row X2.res (by decide) 0 _) (setB X2.res 0 _) (by decide) 1 _) (setB (setB X2.res 0 _) 1 _) (by decide) 2 _⟩
              · have hN := Lib.hid (end_text hP hgt htx)
                have F0 : ¬ (bs (progT xs n1 n2)).toList = (bs l).toList := by rw [bs_list, bs_list]; exact htx
                have F2 : ((bs (progT xs n1 n2)).toList == (bs l).toList) = false := by simpa using F0
                have F3 : ((bs (progT xs n1 n2)).toList != (bs l).toList) = true := by simpa using F0
                replace hch := Lib.hid hch
                replace hP := Lib.hid hP
                replace htx := Lib.hid htx
                go_wp2_with fail
                refine CC.out.mono ?_
                rintro e V ⟨rfl, kV⟩
                have XV := X.kp kV
                have TV := Lib.hid (TC.out V (kV.below (Nat.le_refl _) (by simp)))
                clear c0 c1 c2 r1 r2 s2 ltq hltX
                have c0 := cellB XV.prg 0; have c1 := cellB XV.prg 1; have c2 := cellB XV.prg 2
                simp at c0 c1 c2
                have ltq := ltB XV.prg
                clear X
                go_wp2_with fail
                refine TV.out.mono ?_
                rintro e V2 ⟨rfl, kV2⟩
                have X2 := XV.kp kV2
                clear c0 c1 c2 ltq
                have e0 := cellB X2.res 0; have e1 := cellB X2.res 1; have e2 := cellB X2.res 2
                have f0 := frozB X2.res 0; have f1 := frozB X2.res 1; have f2 := frozB X2.res 2
                simp at e0 e1 e2
                clear XV
                go_wp2_with fail
                refine bodyPost_ret (results_ct rfl _ _ w.heap.size 24 #[.slice none 0 0, .int .i64 0, .int .i64 0] (0, 0) _ rfl (setB3 X2.res) Tryd.underlying24 rfl info24) rfl ?_
                exact cs_none hN.out X2
end Go.Proofs.YtkjkkebaafmheaaDoor
