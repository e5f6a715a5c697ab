/- Package wire: the walk of Decode. -/
import Derived.Test.YtkjkkebaafmheaaM
namespace Go.Proofs.Ytkjkkebaafmheaa
open Go.RowKit PWireCodes Go.Proofs.YtkjkkebaafmheaaW.PrintWords Go.Proofs.YtkjkkebaafmheaaW.PrintLast Go.Proofs.YtkjkkebaafmheaaW.PrintMore
open Go.Shelf
set_option linter.unusedVariables false
set_option linter.unusedSimpArgs false
set_option maxRecDepth 100000 in
set_option maxHeartbeats 8000000 in
theorem decode_bad (s : List UInt8) (hl : s.length ≤ 1000000) (hh : hdB s = false) (w : World) :
    Calls Try.prog 10 #[.string ⟨s.toArray⟩] w fun e w' => e = .returned (.tuple #[.agg #[.slice none 0 0, .int .i64 0, .int .i64 0], .int .i64 140]) ∧ Kp [] w w' := by
  have CP := Lib.hid (prefix_calls s)
  have CS := Lib.hid (sum_calls s (by omega))
  have hsz : (⟨s.toArray⟩ : ByteArray).size = s.length := by simp [ByteArray.size]
  rcases hdB_cases s hh with h1 | ⟨h1, h2⟩ | ⟨h1, h2, h3⟩
  · have d1 : decide ((s.length : Int) - 1 < 3) = true := decide_eq_true (by omega)
    clear hh
    go_enter Try.func10, Try.ntmps10
    go_wp2
    apply wp_scope_at 0 (J := fun w' => Kp [] w w' ∧ w'.heap[w.heap.size]? = some (.cells #[.slice none 0 0, .int .i64 0, .int .i64 0] 24 (0, 0))) (hf := rfl)
    · go_wp2
      go_step3
      refine ⟨rfl, ?_, (((Kp.refl [] w).alloc _).alloc _).alloc _, heap3' w _ _ _⟩
      rfl
    · rintro w' ⟨k, hb⟩
      have c0 := cellB hb 0; have c1 := cellB hb 1; have c2 := cellB hb 2; have f0 := frozB hb 0; have f1 := frozB hb 1; have f2 := frozB hb 2
      simp at c0 c1 c2
      go_wp2
      simp only [Exit.jump]
      refine bodyPost_ret (results_ct rfl _ _ w.heap.size 24 #[.slice none 0 0, .int .i64 0, .int .i64 0] (0, 0) _ rfl (by first | exact setB3 hb | exact hb) Try.underlying24 rfl (by kernel_rfl)) rfl ⟨rfl, ?_⟩
      first
        | exact k
        | exact ((k.setNew (Nat.le_refl _) _).setNew (Nat.le_refl _) _).setNew (Nat.le_refl _) _
  · have d1 : decide ((s.length : Int) - 1 < 3) = false := decide_eq_false (by omega)
    have CP2 : Hid (∀ w, Calls Try.prog 27 #[.string ⟨s.toArray⟩, .string ⟨#[66, 82, 49]⟩] w fun e w' => e = .returned (.bool false) ∧ Drawn0 w w') := by
      have := CP.out
      rw [decide_eq_false h2, Bool.and_false] at this
      exact this
    clear hh
    go_enter Try.func10, Try.ntmps10
    go_wp2
    apply wp_scope_at 0 (J := fun w' => Kp [] w w' ∧ w'.heap[w.heap.size]? = some (.cells #[.slice none 0 0, .int .i64 0, .int .i64 0] 24 (0, 0))) (hf := rfl)
    · go_wp2_with (go_at_call 27; refine (CP2.out _).mono ?_; rintro e w1 ⟨rfl, ⟨n1, rfl⟩⟩)
      go_step3
      refine ⟨rfl, ?_, ((((Kp.refl [] w).alloc _).alloc _).alloc _).drewN _, heap3' w _ _ _⟩
      rfl
    · rintro w' ⟨k, hb⟩
      have c0 := cellB hb 0; have c1 := cellB hb 1; have c2 := cellB hb 2; have f0 := frozB hb 0; have f1 := frozB hb 1; have f2 := frozB hb 2
      simp at c0 c1 c2
      go_wp2
      simp only [Exit.jump]
      refine bodyPost_ret (results_ct rfl _ _ w.heap.size 24 #[.slice none 0 0, .int .i64 0, .int .i64 0] (0, 0) _ rfl (by first | exact setB3 hb | exact hb) Try.underlying24 rfl (by kernel_rfl)) rfl ⟨rfl, ?_⟩
      first
        | exact k
        | exact ((k.setNew (Nat.le_refl _) _).setNew (Nat.le_refl _) _).setNew (Nat.le_refl _) _
  · have d1 : decide ((s.length : Int) - 1 < 3) = false := decide_eq_false (by omega)
    have CP2 : Hid (∀ w, Calls Try.prog 27 #[.string ⟨s.toArray⟩, .string ⟨#[66, 82, 49]⟩] w fun e w' => e = .returned (.bool true) ∧ Drawn0 w w') := by
      have := CP.out
      rw [decide_eq_true h2, decide_eq_true (show 3 ≤ s.length by omega), Bool.and_true] at this
      exact this
    have d3 : (((xorL s).toNat : Int) != 0) = true := by
      rw [bne_iff_ne]
      intro e
      exact h3 (UInt8.toNat_inj.1 (by rw [Int.natCast_eq_zero.1 e]; rfl))
    clear hh h2 h3
    go_enter Try.func10, Try.ntmps10
    go_wp2
    apply wp_scope_at 0 (J := fun w' => Kp [] w w' ∧ w'.heap[w.heap.size]? = some (.cells #[.slice none 0 0, .int .i64 0, .int .i64 0] 24 (0, 0))) (hf := rfl)
    · go_wp2_with (first | (go_at_call 27; refine (CP2.out _).mono ?_; rintro e w1 ⟨rfl, ⟨n1, rfl⟩⟩) | (go_at_call 23; refine (CS.out _).mono ?_; rintro e w2 ⟨rfl, ⟨n2, rfl⟩⟩))
      go_step3
      refine ⟨rfl, ?_, ((((Kp.refl [] w).alloc _).alloc _).alloc _).drewN _, heap3' w _ _ _⟩
      rfl
    · rintro w' ⟨k, hb⟩
      have c0 := cellB hb 0; have c1 := cellB hb 1; have c2 := cellB hb 2; have f0 := frozB hb 0; have f1 := frozB hb 1; have f2 := frozB hb 2
      simp at c0 c1 c2
      go_wp2
      simp only [Exit.jump]
      refine bodyPost_ret (results_ct rfl _ _ w.heap.size 24 #[.slice none 0 0, .int .i64 0, .int .i64 0] (0, 0) _ rfl (by first | exact setB3 hb | exact hb) Try.underlying24 rfl (by kernel_rfl)) rfl ⟨rfl, ?_⟩
      first
        | exact k
        | exact ((k.setNew (Nat.le_refl _) _).setNew (Nat.le_refl _) _).setNew (Nat.le_refl _) _
theorem DX.app {w W w1 : World} {s bad l u a b x y} {v1 : Value} (h : DX w W s bad l u a b x y) (hR : Kd.R k40 40 w1 w.heap.size (fun k => k ≠ x) v1 (l ++ [y])) (hb : Below w.heap.size w w1) (hg : W.grownBy w1 u.ownBlock) :
    DS w (w1.setCell ⟨w.heap.size + 1, 0, none⟩ v1) s bad (l ++ [y]) v1 a b ∧ w1.heap[w.heap.size + 1]? = some (.cells #[u, .int .i64 a, .int .i64 b] 24 (0, 0)) := by
  have hp : w1.heap[w.heap.size + 1]? = some (.cells #[u, .int .i64 a, .int .i64 b] 24 (0, 0)) := (hg.block _ (ltB h.prg) (Kd.R_ne h.row h.prg (by decide))).trans h.prg
  refine ⟨⟨?_, (setB hp 0 v1).trans rfl, ⟨?_, h.rd.2⟩, ?_, hb.setCell (by show w.heap.size ≤ w.heap.size + 1; omega) _⟩, hp⟩
  · exact blk_far ((hg.block _ (ltB h.res) (Kd.R_ne h.row h.res (by decide))).trans h.res) (by show w.heap.size + 1 ≠ _; omega) _
  · exact blk_far ((hg.block _ (ltB h.rd.1) (Kd.R_ne h.row h.rd.1 (by decide))).trans h.rd.1) (by show w.heap.size + 1 ≠ _; omega) _
  · exact Kd.R_mono (Kd.R_set hR hp (by intro q hq; simp [k40, Kd.iso, Kd.pair, Kd.int, Kd.scalar] at hq; omega) 0 v1) (fun _ _ => trivial)
theorem DS.kpW {w W : World} {s bad l u a b} (h : DS w W s bad l u a b) : Kp [] w W := Kp.ofBelow h.bel
theorem dec_none {w W : World} {s s' bad l u a b} (hd : decP s = none) (h : DS w W s' bad l u a b) :
    DecPost s w (.returned (.tuple #[.agg #[.slice none 0 0, .int .i64 0, .int .i64 0], .int .i64 140])) (((W.setCell ⟨w.heap.size, 0, none⟩ (.slice none 0 0)).setCell ⟨w.heap.size, 1, none⟩ (.int .i64 0)).setCell ⟨w.heap.size, 2, none⟩ (.int .i64 0)) := by
  unfold DecPost
  rw [hd]
  exact ⟨rfl, ((h.kpW.setNew (Nat.le_refl _) _).setNew (Nat.le_refl _) _).setNew (Nat.le_refl _) _⟩
theorem dec_some {w W : World} {s s' bad l u} {a b : Nat} (hd : decP s = some (l, a, b)) (h : DS w W s' bad l u a b) :
    DecPost s w (.returned (.tuple #[.agg #[u, .int .i64 a, .int .i64 b], .int .i64 0])) (((W.setCell ⟨w.heap.size, 0, none⟩ u).setCell ⟨w.heap.size, 1, none⟩ (.int .i64 a)).setCell ⟨w.heap.size, 2, none⟩ (.int .i64 b)) := by
  unfold DecPost
  rw [hd]
  have ht : ∀ q, q ∈ 40 :: k40.E → q ≠ 24 := by intro q hq; simp [k40, Kd.iso, Kd.pair, Kd.int, Kd.scalar] at hq; omega
  exact ⟨u, rfl, Kd.R_set (Kd.R_set (Kd.R_set h.row h.res ht 0 _) (setB h.res 0 _) ht 1 _) (setB (setB h.res 0 _) 1 _) ht 2 _, ((h.kpW.setNew (Nat.le_refl _) _).setNew (Nat.le_refl _) _).setNew (Nat.le_refl _) _⟩
theorem loopP_step {k C : Nat} (hk : k < C) (l : List S40) (q : List UInt8) : loopP (C - k) l q false = loopP (C - (k + 1)) (l ++ [(instP q false).1]) (instP q false).2.1 (instP q false).2.2 := by
  rw [show C - k = (C - (k + 1)) + 1 by omega, loopP, if_neg (by decide)]
set_option maxRecDepth 100000 in
set_option maxHeartbeats 16000000 in
theorem decode_good (s : List UInt8) (hl : s.length ≤ 1000000) (h1 : 4 ≤ s.length) (h2 : s.take 3 = [66, 82, 49]) (h3 : xorL s = 0) (w : World) :
    Calls Try.prog 10 #[.string ⟨s.toArray⟩] w (DecPost s w) := by
  have CP := Lib.hid (prefix_calls s)
  have CS := Lib.hid (sum_calls s (by omega))
  have hsz : (⟨s.toArray⟩ : ByteArray).size = s.length := by simp [ByteArray.size]
  have d1 : decide ((s.length : Int) - 1 < 3) = false := decide_eq_false (by omega)
  have CP2 : Hid (∀ w, Calls Try.prog 27 #[.string ⟨s.toArray⟩, .string ⟨#[66, 82, 49]⟩] w fun e w' => e = .returned (.bool true) ∧ Drawn0 w w') := by
    have := CP.out
    rw [decide_eq_true h2, decide_eq_true (show 3 ≤ s.length by omega), Bool.and_true] at this
    exact this
  have CS2 : Hid (∀ w, Calls Try.prog 23 #[.string ⟨s.toArray⟩] w fun e w' => e = .returned (.int .u8 0) ∧ Drawn0 w w') := by
    have := CS.out
    rw [h3] at this
    exact this
  obtain ⟨m, hm⟩ : ∃ m, m = (s.drop 3).dropLast := ⟨_, rfl⟩
  obtain ⟨A, s1, b1, hA⟩ : ∃ A s1 b1, numP 3 m false 0 0 = (A, s1, b1) := ⟨_, _, _, rfl⟩
  obtain ⟨B, s2, b2, hB⟩ : ∃ B s2 b2, numP 3 s1 b1 0 0 = (B, s2, b2) := ⟨_, _, _, rfl⟩
  obtain ⟨C, s3, b3, hC⟩ : ∃ C s3 b3, numP 3 s2 b2 0 0 = (C, s3, b3) := ⟨_, _, _, rfl⟩
  obtain ⟨L, s4, b4, hL⟩ : ∃ L s4 b4, loopP C [] s3 b3 = (L, s4, b4) := ⟨_, _, _, rfl⟩
  have hP : parsP m = (A, B, L, s4, b4) := by simp only [parsP, hA, hB, hC, hL]
  have hD : decP s = if b4 = true then none else if s4 ≠ [] then none else if checkB L A B = 0 then some (L, A, B) else none := by
    unfold decP
    rw [if_neg (by omega), if_neg (fun q => q h2), if_neg (fun q => q h3), ← hm, hP]
  have hC2 : C < 2097152 + 16384 := by have := numP_lt 3 s2 b2 0 0 (by omega) (by omega); rw [hC] at this; exact this
  have S0 := Lib.hid (fun n => DS.start w n ((⟨s.toArray⟩ : ByteArray).extract 3 (s.length - 1)) m (by rw [hm]; exact mid_size s h1))
  replace hA := Lib.hid hA
  replace hB := Lib.hid hB
  replace hC := Lib.hid hC
  have HL := Lib.hid hL
  have HD := Lib.hid hD
  clear h2 h3 hm hP hL hD CP CS
  go_enter Try.func10, Try.ntmps10
  go_wp2
  go_step3
  go_wp2_with (first | (go_at_call 27; refine (CP2.out _).mono ?_; rintro e w1 ⟨rfl, ⟨n1, rfl⟩⟩) | (go_at_call 23; refine (CS2.out _).mono ?_; rintro e w2 ⟨rfl, ⟨n2, rfl⟩⟩) | (go_at_call 26; ((with_reducible refine (ds_num (S0.out _) hA.out).mono ?_)); rintro e W1 ⟨rfl, S1⟩) | (go_at_call 26; ((with_reducible refine (ds_num S1 hB.out).mono ?_)); rintro e W2 ⟨rfl, S2⟩; clear S1; have p0 := cellB S2.prg 0; have p1 := cellB S2.prg 1; have p2 := cellB S2.prg 2; have f0 := frozB S2.prg 0; have f1 := frozB S2.prg 1; have f2 := frozB S2.prg 2; simp at p0 p1 p2) | (go_at_call 26; refine (ds_num (DS.setPrg (DS.setPrg S2 1 _ rfl rfl) 2 _ rfl rfl) hC.out).mono ?_; rintro e W3 ⟨rfl, S3⟩; clear S2 p0 p1 p2 f0 f1 f2)) 

  go_loopg [9] C (fun gk v9 wr => ∃ (k : Nat) (q : List UInt8) (bad : Bool) (l : List S40) (u : Value), v9 = .int .i64 k ∧ k ≤ C ∧ C - k ≤ gk ∧ l.length = k ∧ Aside0 (loopP (C - k) l q bad = (L, s4, b4)) ∧ Aside0 (DS w wr q bad l u A B))
  case atStart => exact ⟨0, s3, b3, [], _, rfl, by omega, by omega, rfl, ⟨HL.out⟩, ⟨S3⟩⟩
  case round =>
    obtain ⟨k, q, bad, l, u, rfl, hkC, hgk, hlen, hR, hS⟩ := hrel
    have r0 := cellB hS.out.rd.1 0; have r1 := cellB hS.out.rd.1 1
    have p0 := cellB hS.out.prg 0; have p1 := cellB hS.out.prg 1; have p2 := cellB hS.out.prg 2
    have e0 := cellB hS.out.res 0; have e1 := cellB hS.out.res 1; have e2 := cellB hS.out.res 2
    have f0 := frozB hS.out.res 0; have f1 := frozB hS.out.res 1; have f2 := frozB hS.out.res 2
    simp at r0 r1 p0 p1 p2 e0 e1 e2
    by_cases hk : k < C
    · have dk := decide_eq_true (show (k : Int) < (C : Int) by omega)
      cases bad with
      | true =>
        rw [loopP_bad] at hR
        have hd : decP s = none := by rw [HD.out]; have := hR.out; simp only [Prod.mk.injEq] at this; rw [← this.2.2, if_pos rfl]
        replace hd := Lib.hid hd
        clear HD HL hR
        go_wp2
        go_step3
        go_wp2
        refine bodyPost_ret (results_ct rfl _ _ w.heap.size 24 #[.slice none 0 0, .int .i64 0, .int .i64 0] (0, 0) _ rfl (setB3 hS.out.res) Try.underlying24 rfl (by kernel_rfl)) rfl ?_
        exact dec_none hd.out hS.out
      | false =>
        clear p0 p1 p2 e0 e1 e2 f0 f1 f2
        obtain ⟨g1, rfl⟩ : ∃ g1, gk = g1 + 1 := ⟨gk - 1, by omega⟩
        obtain ⟨op, q1, bad1, hop⟩ : ∃ op q1 bad1, oneP q false = (op, q1, bad1) := ⟨_, _, _, rfl⟩
        rcases ownF_cases (op : Int) with hF | hF | hF | hF
        · have CF : Hid (∀ W, Calls Try.prog 20 #[.int .i64 (op : Int)] W fun e w' => e = .returned (.tuple #[.bool true, .bool true, .bool true, .bool false]) ∧ Drawn0 W w') := by
            intro W
            have := wfields_calls (op : Int) W
            rw [hF] at this
            exact this
          obtain ⟨n1, r1, t1, hn1⟩ : ∃ n1 r1 t1, numP 3 q1 bad1 0 0 = (n1, r1, t1) := ⟨_, _, _, rfl⟩
          obtain ⟨n2, r2, t2, hn2⟩ : ∃ n2 r2 t2, numP 3 r1 t1 0 0 = (n2, r2, t2) := ⟨_, _, _, rfl⟩
          obtain ⟨n3, r3, t3, hn3⟩ : ∃ n3 r3 t3, numP 3 r2 t2 0 0 = (n3, r3, t3) := ⟨_, _, _, rfl⟩
          have hI : instP q false = ((⟨(op : Int), (n1 : Int), (n2 : Int), (n3 : Int), 0⟩ : S40), r3, t3) := by
            unfold instP; simp only [hop, hF, fieldP, if_true, if_false, Bool.false_eq_true, hn1, hn2, hn3]; rfl
          have hR2 : Aside0 (loopP (C - (k + 1)) (l ++ [(⟨(op : Int), (n1 : Int), (n2 : Int), (n3 : Int), 0⟩ : S40)]) r3 t3 = (L, s4, b4)) := ⟨by have := loopP_step hk l q; rw [hI] at this; rw [← this]; exact hR.out⟩
          replace hn1 := Lib.hid hn1
          replace hn2 := Lib.hid hn2
          replace hn3 := Lib.hid hn3
          clear hI hF hR
          have HOP := Lib.hid hop; clear hop
          go_wp2_with (first | (go_at_call 28; refine (ds_one hS.out HOP.out).mono ?_; rintro e V0 ⟨rfl, X0⟩; have X := DX.new X0 (⟨op, 0, 0, 0, 0⟩ : S40); have fa1 : w.heap.size + 1 ≠ V0.heap.size := (by have := X.far; omega); have fa2 : V0.heap.size ≠ w.heap.size + 1 := (by have := X.far; omega); clear X0; have z0 := cellB X.own 0; have z1 := cellB X.own 1; have z2 := cellB X.own 2; have z3 := cellB X.own 3; have z4 := cellB X.own 4; have y1 := frozB X.own 1; have y2 := frozB X.own 2; have y3 := frozB X.own 3; have y4 := frozB X.own 4; have z5 := cellB X.prg 0; simp [encI] at z0 z1 z2 z3 z4 z5) | (go_at_call 20; refine (CF.out _).mono ?_; rintro e V1 ⟨rfl, kd⟩; replace X := X.kp (Kp.ofDrawn kd); clear kd z0 z1 z2 z3 z4 z5 y1 y2 y3 y4; have z0 := cellB X.own 0; have z1 := cellB X.own 1; have z2 := cellB X.own 2; have z3 := cellB X.own 3; have z4 := cellB X.own 4; have y1 := frozB X.own 1; have y2 := frozB X.own 2; have y3 := frozB X.own 3; have y4 := frozB X.own 4; have z5 := cellB X.prg 0; simp [encI] at z0 z1 z2 z3 z4 z5) | (go_at_call 26; ((with_reducible refine (dx_num X hn1.out).mono ?_)); rintro e V2 ⟨rfl, X'⟩; replace X := X'; clear X' z0 z1 z2 z3 z4 z5 y1 y2 y3 y4; have z0 := cellB X.own 0; have z1 := cellB X.own 1; have z2 := cellB X.own 2; have z3 := cellB X.own 3; have z4 := cellB X.own 4; have y1 := frozB X.own 1; have y2 := frozB X.own 2; have y3 := frozB X.own 3; have y4 := frozB X.own 4; have z5 := cellB X.prg 0; simp [encI] at z0 z1 z2 z3 z4 z5) | (go_at_call 26; ((with_reducible refine (dx_num (DX.set X 1 (.int .i64 (n1 : Int)) (⟨(op : Int), (n1 : Int), 0, 0, 0⟩ : S40) rfl) hn2.out).mono ?_)); rintro e V3 ⟨rfl, X'⟩; replace X := X'; clear X' z0 z1 z2 z3 z4 z5 y1 y2 y3 y4; have z0 := cellB X.own 0; have z1 := cellB X.own 1; have z2 := cellB X.own 2; have z3 := cellB X.own 3; have z4 := cellB X.own 4; have y1 := frozB X.own 1; have y2 := frozB X.own 2; have y3 := frozB X.own 3; have y4 := frozB X.own 4; have z5 := cellB X.prg 0; simp [encI] at z0 z1 z2 z3 z4 z5) | (go_at_call 26; ((with_reducible refine (dx_num (DX.set X 2 (.int .i64 (n2 : Int)) (⟨(op : Int), (n1 : Int), (n2 : Int), 0, 0⟩ : S40) rfl) hn3.out).mono ?_)); rintro e V4 ⟨rfl, X'⟩; replace X := X'; clear X' z0 z1 z2 z3 z4 z5 y1 y2 y3 y4; have z0 := cellB X.own 0; have z1 := cellB X.own 1; have z2 := cellB X.own 2; have z3 := cellB X.own 3; have z4 := cellB X.own 4; have y1 := frozB X.own 1; have y2 := frozB X.own 2; have y3 := frozB X.own 3; have y4 := frozB X.own 4; have z5 := cellB X.prg 0; simp [encI] at z0 z1 z2 z3 z4 z5) | (at_builtin; have XE := (DX.set X 3 (.int .i64 (n3 : Int)) (⟨(op : Int), (n1 : Int), (n2 : Int), (n3 : Int), 0⟩ : S40) rfl); refine Kd.R_append k40 (w0 := w) w.heap.size rfl (.tmp 88) (.tmp 90) 22 40 (.agg #[(.int .i64 0), (.int .i64 0), (.int .i64 0), (.int .i64 0), (.int .i64 0)]) 40 rfl Try.underlying22 info40 rfl (by decide) (by omega) u l (⟨(op : Int), (n1 : Int), (n2 : Int), (n3 : Int), 0⟩ : S40) [.int .i64 (op : Int), .int .i64 (n1 : Int), .int .i64 (n2 : Int), .int .i64 (n3 : Int), .int .i64 0] (fun k_ => k_ ≠ V0.heap.size) (fun _ => False) rfl (by first | (go_simp; done) | (go_simp; rfl)) ?aP (fun _ hk => hk.elim) ?aF XE.row XE.bel XE.bel.size ?aL ?_; (case aP => exact k40_mkM _ _ _ (⟨(op : Int), (n1 : Int), (n2 : Int), (n3 : Int), 0⟩ : S40)); (case aF => intro k_ hk_; have := ltB XE.own; show k_ ≠ _; omega); (case aL => omega); intro v1 w1 hR1 hB1 hg1 _; obtain ⟨Av, cv, rfl⟩ := Kd.R_slice hR1; obtain ⟨SE, hpe⟩ := DX.app XE hR1 hB1 hg1; have u0 := cellB hpe 0; have fu0 := frozB hpe 0; simp at u0; clear XE X hR1 hB1 hg1 z0 z1 z2 z3 z4 z5 y1 y2 y3 y4))
          go_roundg g1
          case measure => omega
          case rel =>
            rw [show (l ++ [(⟨(op : Int), (n1 : Int), (n2 : Int), (n3 : Int), 0⟩ : S40)]).length = k + 1 by simp [hlen]] at SE
            exact ⟨k + 1, r3, t3, _, .slice Av (k + 1) cv, by go_num, by omega, by omega, by simp [hlen], hR2, ⟨SE⟩⟩
        · have CF : Hid (∀ W, Calls Try.prog 20 #[.int .i64 (op : Int)] W fun e w' => e = .returned (.tuple #[.bool false, .bool false, .bool true, .bool true]) ∧ Drawn0 W w') := by
            intro W
            have := wfields_calls (op : Int) W
            rw [hF] at this
            exact this
          obtain ⟨n3, r3, t3, hn3⟩ : ∃ n3 r3 t3, numP 3 q1 bad1 0 0 = (n3, r3, t3) := ⟨_, _, _, rfl⟩
          obtain ⟨n4, r4, t4, hn4⟩ : ∃ n4 r4 t4, numP 3 r3 t3 0 0 = (n4, r4, t4) := ⟨_, _, _, rfl⟩
          have hI : instP q false = ((⟨(op : Int), 0, 0, (n3 : Int), (n4 : Int)⟩ : S40), r4, t4) := by
            unfold instP; simp only [hop, hF, fieldP, if_true, if_false, Bool.false_eq_true, hn3, hn4]; rfl
          have hR2 : Aside0 (loopP (C - (k + 1)) (l ++ [(⟨(op : Int), 0, 0, (n3 : Int), (n4 : Int)⟩ : S40)]) r4 t4 = (L, s4, b4)) := ⟨by have := loopP_step hk l q; rw [hI] at this; rw [← this]; exact hR.out⟩
          replace hn3 := Lib.hid hn3
          replace hn4 := Lib.hid hn4
          clear hI hF hR
          have HOP := Lib.hid hop; clear hop
          go_wp2_with (first | (go_at_call 28; refine (ds_one hS.out HOP.out).mono ?_; rintro e V0 ⟨rfl, X0⟩; have X := DX.new X0 (⟨op, 0, 0, 0, 0⟩ : S40); have fa1 : w.heap.size + 1 ≠ V0.heap.size := (by have := X.far; omega); have fa2 : V0.heap.size ≠ w.heap.size + 1 := (by have := X.far; omega); clear X0; have z0 := cellB X.own 0; have z1 := cellB X.own 1; have z2 := cellB X.own 2; have z3 := cellB X.own 3; have z4 := cellB X.own 4; have y1 := frozB X.own 1; have y2 := frozB X.own 2; have y3 := frozB X.own 3; have y4 := frozB X.own 4; have z5 := cellB X.prg 0; simp [encI] at z0 z1 z2 z3 z4 z5) | (go_at_call 20; refine (CF.out _).mono ?_; rintro e V1 ⟨rfl, kd⟩; replace X := X.kp (Kp.ofDrawn kd); clear kd z0 z1 z2 z3 z4 z5 y1 y2 y3 y4; have z0 := cellB X.own 0; have z1 := cellB X.own 1; have z2 := cellB X.own 2; have z3 := cellB X.own 3; have z4 := cellB X.own 4; have y1 := frozB X.own 1; have y2 := frozB X.own 2; have y3 := frozB X.own 3; have y4 := frozB X.own 4; have z5 := cellB X.prg 0; simp [encI] at z0 z1 z2 z3 z4 z5) | (go_at_call 26; ((with_reducible refine (dx_num X hn3.out).mono ?_)); rintro e V4 ⟨rfl, X'⟩; replace X := X'; clear X' z0 z1 z2 z3 z4 z5 y1 y2 y3 y4; have z0 := cellB X.own 0; have z1 := cellB X.own 1; have z2 := cellB X.own 2; have z3 := cellB X.own 3; have z4 := cellB X.own 4; have y1 := frozB X.own 1; have y2 := frozB X.own 2; have y3 := frozB X.own 3; have y4 := frozB X.own 4; have z5 := cellB X.prg 0; simp [encI] at z0 z1 z2 z3 z4 z5) | (go_at_call 26; ((with_reducible refine (dx_num (DX.set X 3 (.int .i64 (n3 : Int)) (⟨(op : Int), 0, 0, (n3 : Int), 0⟩ : S40) rfl) hn4.out).mono ?_)); rintro e V5 ⟨rfl, X'⟩; replace X := X'; clear X' z0 z1 z2 z3 z4 z5 y1 y2 y3 y4; have z0 := cellB X.own 0; have z1 := cellB X.own 1; have z2 := cellB X.own 2; have z3 := cellB X.own 3; have z4 := cellB X.own 4; have y1 := frozB X.own 1; have y2 := frozB X.own 2; have y3 := frozB X.own 3; have y4 := frozB X.own 4; have z5 := cellB X.prg 0; simp [encI] at z0 z1 z2 z3 z4 z5) | (at_builtin; have XE := (DX.set X 4 (.int .i64 (n4 : Int)) (⟨(op : Int), 0, 0, (n3 : Int), (n4 : Int)⟩ : S40) rfl); refine Kd.R_append k40 (w0 := w) w.heap.size rfl (.tmp 88) (.tmp 90) 22 40 (.agg #[(.int .i64 0), (.int .i64 0), (.int .i64 0), (.int .i64 0), (.int .i64 0)]) 40 rfl Try.underlying22 info40 rfl (by decide) (by omega) u l (⟨(op : Int), 0, 0, (n3 : Int), (n4 : Int)⟩ : S40) [.int .i64 (op : Int), .int .i64 0, .int .i64 0, .int .i64 (n3 : Int), .int .i64 (n4 : Int)] (fun k_ => k_ ≠ V0.heap.size) (fun _ => False) rfl (by first | (go_simp; done) | (go_simp; rfl)) ?aP (fun _ hk => hk.elim) ?aF XE.row XE.bel XE.bel.size ?aL ?_; (case aP => exact k40_mkM _ _ _ (⟨(op : Int), 0, 0, (n3 : Int), (n4 : Int)⟩ : S40)); (case aF => intro k_ hk_; have := ltB XE.own; show k_ ≠ _; omega); (case aL => omega); intro v1 w1 hR1 hB1 hg1 _; obtain ⟨Av, cv, rfl⟩ := Kd.R_slice hR1; obtain ⟨SE, hpe⟩ := DX.app XE hR1 hB1 hg1; have u0 := cellB hpe 0; have fu0 := frozB hpe 0; simp at u0; clear XE X hR1 hB1 hg1 z0 z1 z2 z3 z4 z5 y1 y2 y3 y4))
          go_roundg g1
          case measure => omega
          case rel =>
            rw [show (l ++ [(⟨(op : Int), 0, 0, (n3 : Int), (n4 : Int)⟩ : S40)]).length = k + 1 by simp [hlen]] at SE
            exact ⟨k + 1, r4, t4, _, .slice Av (k + 1) cv, by go_num, by omega, by omega, by simp [hlen], hR2, ⟨SE⟩⟩
        · have CF : Hid (∀ W, Calls Try.prog 20 #[.int .i64 (op : Int)] W fun e w' => e = .returned (.tuple #[.bool true, .bool false, .bool true, .bool false]) ∧ Drawn0 W w') := by
            intro W
            have := wfields_calls (op : Int) W
            rw [hF] at this
            exact this
          obtain ⟨n1, r1, t1, hn1⟩ : ∃ n1 r1 t1, numP 3 q1 bad1 0 0 = (n1, r1, t1) := ⟨_, _, _, rfl⟩
          obtain ⟨n3, r3, t3, hn3⟩ : ∃ n3 r3 t3, numP 3 r1 t1 0 0 = (n3, r3, t3) := ⟨_, _, _, rfl⟩
          have hI : instP q false = ((⟨(op : Int), (n1 : Int), 0, (n3 : Int), 0⟩ : S40), r3, t3) := by
            unfold instP; simp only [hop, hF, fieldP, if_true, if_false, Bool.false_eq_true, hn1, hn3]; rfl
          have hR2 : Aside0 (loopP (C - (k + 1)) (l ++ [(⟨(op : Int), (n1 : Int), 0, (n3 : Int), 0⟩ : S40)]) r3 t3 = (L, s4, b4)) := ⟨by have := loopP_step hk l q; rw [hI] at this; rw [← this]; exact hR.out⟩
          replace hn1 := Lib.hid hn1
          replace hn3 := Lib.hid hn3
          clear hI hF hR
          have HOP := Lib.hid hop; clear hop
          go_wp2_with (first | (go_at_call 28; refine (ds_one hS.out HOP.out).mono ?_; rintro e V0 ⟨rfl, X0⟩; have X := DX.new X0 (⟨op, 0, 0, 0, 0⟩ : S40); have fa1 : w.heap.size + 1 ≠ V0.heap.size := (by have := X.far; omega); have fa2 : V0.heap.size ≠ w.heap.size + 1 := (by have := X.far; omega); clear X0; have z0 := cellB X.own 0; have z1 := cellB X.own 1; have z2 := cellB X.own 2; have z3 := cellB X.own 3; have z4 := cellB X.own 4; have y1 := frozB X.own 1; have y2 := frozB X.own 2; have y3 := frozB X.own 3; have y4 := frozB X.own 4; have z5 := cellB X.prg 0; simp [encI] at z0 z1 z2 z3 z4 z5) | (go_at_call 20; refine (CF.out _).mono ?_; rintro e V1 ⟨rfl, kd⟩; replace X := X.kp (Kp.ofDrawn kd); clear kd z0 z1 z2 z3 z4 z5 y1 y2 y3 y4; have z0 := cellB X.own 0; have z1 := cellB X.own 1; have z2 := cellB X.own 2; have z3 := cellB X.own 3; have z4 := cellB X.own 4; have y1 := frozB X.own 1; have y2 := frozB X.own 2; have y3 := frozB X.own 3; have y4 := frozB X.own 4; have z5 := cellB X.prg 0; simp [encI] at z0 z1 z2 z3 z4 z5) | (go_at_call 26; ((with_reducible refine (dx_num X hn1.out).mono ?_)); rintro e V2 ⟨rfl, X'⟩; replace X := X'; clear X' z0 z1 z2 z3 z4 z5 y1 y2 y3 y4; have z0 := cellB X.own 0; have z1 := cellB X.own 1; have z2 := cellB X.own 2; have z3 := cellB X.own 3; have z4 := cellB X.own 4; have y1 := frozB X.own 1; have y2 := frozB X.own 2; have y3 := frozB X.own 3; have y4 := frozB X.own 4; have z5 := cellB X.prg 0; simp [encI] at z0 z1 z2 z3 z4 z5) | (go_at_call 26; ((with_reducible refine (dx_num (DX.set X 1 (.int .i64 (n1 : Int)) (⟨(op : Int), (n1 : Int), 0, 0, 0⟩ : S40) rfl) hn3.out).mono ?_)); rintro e V4 ⟨rfl, X'⟩; replace X := X'; clear X' z0 z1 z2 z3 z4 z5 y1 y2 y3 y4; have z0 := cellB X.own 0; have z1 := cellB X.own 1; have z2 := cellB X.own 2; have z3 := cellB X.own 3; have z4 := cellB X.own 4; have y1 := frozB X.own 1; have y2 := frozB X.own 2; have y3 := frozB X.own 3; have y4 := frozB X.own 4; have z5 := cellB X.prg 0; simp [encI] at z0 z1 z2 z3 z4 z5) | (at_builtin; have XE := (DX.set X 3 (.int .i64 (n3 : Int)) (⟨(op : Int), (n1 : Int), 0, (n3 : Int), 0⟩ : S40) rfl); refine Kd.R_append k40 (w0 := w) w.heap.size rfl (.tmp 88) (.tmp 90) 22 40 (.agg #[(.int .i64 0), (.int .i64 0), (.int .i64 0), (.int .i64 0), (.int .i64 0)]) 40 rfl Try.underlying22 info40 rfl (by decide) (by omega) u l (⟨(op : Int), (n1 : Int), 0, (n3 : Int), 0⟩ : S40) [.int .i64 (op : Int), .int .i64 (n1 : Int), .int .i64 0, .int .i64 (n3 : Int), .int .i64 0] (fun k_ => k_ ≠ V0.heap.size) (fun _ => False) rfl (by first | (go_simp; done) | (go_simp; rfl)) ?aP (fun _ hk => hk.elim) ?aF XE.row XE.bel XE.bel.size ?aL ?_; (case aP => exact k40_mkM _ _ _ (⟨(op : Int), (n1 : Int), 0, (n3 : Int), 0⟩ : S40)); (case aF => intro k_ hk_; have := ltB XE.own; show k_ ≠ _; omega); (case aL => omega); intro v1 w1 hR1 hB1 hg1 _; obtain ⟨Av, cv, rfl⟩ := Kd.R_slice hR1; obtain ⟨SE, hpe⟩ := DX.app XE hR1 hB1 hg1; have u0 := cellB hpe 0; have fu0 := frozB hpe 0; simp at u0; clear XE X hR1 hB1 hg1 z0 z1 z2 z3 z4 z5 y1 y2 y3 y4))
          go_roundg g1
          case measure => omega
          case rel =>
            rw [show (l ++ [(⟨(op : Int), (n1 : Int), 0, (n3 : Int), 0⟩ : S40)]).length = k + 1 by simp [hlen]] at SE
            exact ⟨k + 1, r3, t3, _, .slice Av (k + 1) cv, by go_num, by omega, by omega, by simp [hlen], hR2, ⟨SE⟩⟩
        · have CF : Hid (∀ W, Calls Try.prog 20 #[.int .i64 (op : Int)] W fun e w' => e = .returned (.tuple #[.bool false, .bool false, .bool false, .bool false]) ∧ Drawn0 W w') := by
            intro W
            have := wfields_calls (op : Int) W
            rw [hF] at this
            exact this
          have hI : instP q false = ((⟨(op : Int), 0, 0, 0, 0⟩ : S40), q1, bad1) := by
            unfold instP; simp only [hop, hF, fieldP, if_true, if_false, Bool.false_eq_true]; rfl
          have hR2 : Aside0 (loopP (C - (k + 1)) (l ++ [(⟨(op : Int), 0, 0, 0, 0⟩ : S40)]) q1 bad1 = (L, s4, b4)) := ⟨by have := loopP_step hk l q; rw [hI] at this; rw [← this]; exact hR.out⟩
          clear hI hF hR
          have HOP := Lib.hid hop; clear hop
          go_wp2_with (first | (go_at_call 28; refine (ds_one hS.out HOP.out).mono ?_; rintro e V0 ⟨rfl, X0⟩; have X := DX.new X0 (⟨op, 0, 0, 0, 0⟩ : S40); have fa1 : w.heap.size + 1 ≠ V0.heap.size := (by have := X.far; omega); have fa2 : V0.heap.size ≠ w.heap.size + 1 := (by have := X.far; omega); clear X0; have z0 := cellB X.own 0; have z1 := cellB X.own 1; have z2 := cellB X.own 2; have z3 := cellB X.own 3; have z4 := cellB X.own 4; have y1 := frozB X.own 1; have y2 := frozB X.own 2; have y3 := frozB X.own 3; have y4 := frozB X.own 4; have z5 := cellB X.prg 0; simp [encI] at z0 z1 z2 z3 z4 z5) | (go_at_call 20; refine (CF.out _).mono ?_; rintro e V1 ⟨rfl, kd⟩; replace X := X.kp (Kp.ofDrawn kd); clear kd z0 z1 z2 z3 z4 z5 y1 y2 y3 y4; have z0 := cellB X.own 0; have z1 := cellB X.own 1; have z2 := cellB X.own 2; have z3 := cellB X.own 3; have z4 := cellB X.own 4; have y1 := frozB X.own 1; have y2 := frozB X.own 2; have y3 := frozB X.own 3; have y4 := frozB X.own 4; have z5 := cellB X.prg 0; simp [encI] at z0 z1 z2 z3 z4 z5) | (at_builtin; have XE := X; refine Kd.R_append k40 (w0 := w) w.heap.size rfl (.tmp 88) (.tmp 90) 22 40 (.agg #[(.int .i64 0), (.int .i64 0), (.int .i64 0), (.int .i64 0), (.int .i64 0)]) 40 rfl Try.underlying22 info40 rfl (by decide) (by omega) u l (⟨(op : Int), 0, 0, 0, 0⟩ : S40) [.int .i64 (op : Int), .int .i64 0, .int .i64 0, .int .i64 0, .int .i64 0] (fun k_ => k_ ≠ V0.heap.size) (fun _ => False) rfl (by first | (go_simp; done) | (go_simp; rfl)) ?aP (fun _ hk => hk.elim) ?aF XE.row XE.bel XE.bel.size ?aL ?_; (case aP => exact k40_mkM _ _ _ (⟨(op : Int), 0, 0, 0, 0⟩ : S40)); (case aF => intro k_ hk_; have := ltB XE.own; show k_ ≠ _; omega); (case aL => omega); intro v1 w1 hR1 hB1 hg1 _; obtain ⟨Av, cv, rfl⟩ := Kd.R_slice hR1; obtain ⟨SE, hpe⟩ := DX.app XE hR1 hB1 hg1; have u0 := cellB hpe 0; have fu0 := frozB hpe 0; simp at u0; clear XE X hR1 hB1 hg1 z0 z1 z2 z3 z4 z5 y1 y2 y3 y4))
          go_roundg g1
          case measure => omega
          case rel =>
            rw [show (l ++ [(⟨(op : Int), 0, 0, 0, 0⟩ : S40)]).length = k + 1 by simp [hlen]] at SE
            exact ⟨k + 1, q1, bad1, _, .slice Av (k + 1) cv, by go_num, by omega, by omega, by simp [hlen], hR2, ⟨SE⟩⟩
    · obtain rfl : k = C := by omega
      have dk := decide_eq_false (show ¬ ((k : Int) < (k : Int)) by omega)
      rw [Nat.sub_self, loopP] at hR
      clear hk hkC hgk
      subst hlen
      obtain ⟨rfl, rfl, rfl⟩ : l = L ∧ q = s4 ∧ bad = b4 := by have := hR.out; simpa only [Prod.mk.injEq] using this
      clear hR HL
      cases bad with
      | true =>
        have hd : decP s = none := by rw [HD.out, if_pos rfl]
        replace hd := Lib.hid hd
        clear HD
        go_wp2
        go_step3
        go_wp2
        refine bodyPost_ret (results_ct rfl _ _ w.heap.size 24 #[.slice none 0 0, .int .i64 0, .int .i64 0] (0, 0) _ rfl (setB3 hS.out.res) Try.underlying24 rfl (by kernel_rfl)) rfl ?_
        exact dec_none hd.out hS.out
      | false =>
        cases q with
        | cons c0 t0 =>
          have hd : decP s = none := by rw [HD.out, if_neg (by decide), if_pos (by simp)]
          replace hd := Lib.hid hd
          clear HD
          have hq1 : (⟨(c0 :: t0).toArray⟩ : ByteArray).toList.isEmpty = false := by simp [ByteArray.toList_eq]
          go_wp2
          go_step3
          go_wp2
          refine bodyPost_ret (results_ct rfl _ _ w.heap.size 24 #[.slice none 0 0, .int .i64 0, .int .i64 0] (0, 0) _ rfl (setB3 hS.out.res) Try.underlying24 rfl (by kernel_rfl)) rfl ?_
          exact dec_none hd.out hS.out
        | nil =>
          have r0' : wr.cell? ⟨w.heap.size + 2, 0, none⟩ = some (.string ⟨#[]⟩) := r0
          clear r0
          obtain ⟨Au, cu, rfl, hcu, hCu⟩ := Kd.R_reads hS.out.row
          have CC := Lib.hid (check_calls Au cu l A B wr hCu)
          rcases check_or l A B with hc | hc
          · have hd : decP s = some (l, A, B) := by rw [HD.out, if_neg (by decide), if_neg (by simp), if_pos hc]
            replace hd := Lib.hid hd
            rw [hc] at CC
            replace hc := Lib.hid hc
            clear HD
            go_wp2_with (go_at_call 15; refine (CC.out).mono ?_; rintro e W5 ⟨rfl, k5⟩; have S5 := Lib.hid (hS.out.kp k5); clear p0 p1 p2 e0 e1 e2 f0 f1 f2; have p0 := cellB S5.out.prg 0; have p1 := cellB S5.out.prg 1; have p2 := cellB S5.out.prg 2; have e0 := cellB S5.out.res 0; have e1 := cellB S5.out.res 1; have e2 := cellB S5.out.res 2; have f0 := frozB S5.out.res 0; have f1 := frozB S5.out.res 1; have f2 := frozB S5.out.res 2; simp at p0 p1 p2 e0 e1 e2)
            refine bodyPost_ret (results_ct rfl _ _ w.heap.size 24 #[.slice Au l.length cu, .int .i64 A, .int .i64 B] (0, 0) _ rfl (setB3 S5.out.res) Try.underlying24 rfl (by kernel_rfl)) rfl ?_
            exact dec_some hd.out S5.out
          · have hd : decP s = none := by rw [HD.out, if_neg (by decide), if_neg (by simp), if_neg (by rw [hc]; decide)]
            replace hd := Lib.hid hd
            rw [hc] at CC
            replace hc := Lib.hid hc
            clear HD
            go_wp2_with (go_at_call 15; refine (CC.out).mono ?_; rintro e W5 ⟨rfl, k5⟩; have S5 := Lib.hid (hS.out.kp k5); clear p0 p1 p2 e0 e1 e2 f0 f1 f2; have e0 := cellB S5.out.res 0; have e1 := cellB S5.out.res 1; have e2 := cellB S5.out.res 2; have f0 := frozB S5.out.res 0; have f1 := frozB S5.out.res 1; have f2 := frozB S5.out.res 2; simp at e0 e1 e2)
            go_step3
            go_wp2
            refine bodyPost_ret (results_ct rfl _ _ w.heap.size 24 #[.slice none 0 0, .int .i64 0, .int .i64 0] (0, 0) _ rfl (setB3 S5.out.res) Try.underlying24 rfl (by kernel_rfl)) rfl ?_
            exact dec_none hd.out S5.out
theorem decP_hd (s : List UInt8) (h : hdB s = false) : decP s = none := by
  unfold decP
  rcases hdB_cases s h with h1 | ⟨h1, h2⟩ | ⟨h1, h2, h3⟩
  · rw [if_pos h1]
  · rw [if_neg (by omega), if_pos h2]
  · rw [if_neg (by omega), if_neg (fun q => q h2), if_pos h3]
theorem decode_calls (s : List UInt8) (hl : s.length ≤ 1000000) (w : World) : Calls Try.prog 10 #[.string ⟨s.toArray⟩] w (DecPost s w) := by
  cases h : hdB s with
  | false =>
    refine (decode_bad s hl h w).mono ?_
    rintro e w' h2
    unfold DecPost
    rw [decP_hd s h]
    exact h2
  | true =>
    unfold hdB at h
    simp only [Bool.and_eq_true, decide_eq_true_eq] at h
    exact decode_good s hl h.1 h.2.1 h.2.2 w
end Go.Proofs.Ytkjkkebaafmheaa
