/- Package tree: Same, walked. -/
import Derived.Test.YtojlhlepneefoaaSN
namespace Go.Proofs.Ytojlhlepneefoaa
open Go.RowKit PAll Go.Proofs.YtojlhlepneefoaaW.PrintWords Go.Proofs.YtojlhlepneefoaaW.PrintLast Go.Proofs.YtojlhlepneefoaaW.PrintMore
open Go.Shelf
set_option linter.unusedVariables false
set_option linter.unusedSimpArgs false

set_option maxRecDepth 100000 in
set_option maxHeartbeats 8000000 in
theorem eqf_calls (p : S25 → S25 → Bool) (PT : Addr) (A1 : Option Addr) (c1 : Nat) (l1 : List S25) (A2 : Option Addr) (c2 : Nat) (l2 : List S25) (w : World) (h1 : Kd.C k25 w A1 l1.length l1) (h2 : Kd.C k25 w A2 l2.length l2)
    (hp : ∀ (va vb : NV) (W : World), Kp [] w W → va.ok W → vb.ok W → Calls Try.prog 116 #[va.val, vb.val, .pointer (some PT)] W fun e w' => e = .returned (.bool (p va.n vb.n)) ∧ Kp [] W w') :
    Calls Try.prog 115 #[.slice A1 l1.length c1, .slice A2 l2.length c2, .func (.func 116) #[] #[.pointer (some PT)]] w fun e w' => e = .returned (.bool (decide (l1.length = l2.length) && (l1.zip l2).all fun q => p q.1 q.2)) ∧ Kp [] w w' := by
  have hm1 : l1.length ≤ 9223372036854775807 := h1.2.1
  by_cases hl : l1.length = l2.length
  rotate_left
  · have b0 : ((l1.length : Int) != (l2.length : Int)) = true := by simp; omega
    rw [decide_eq_false hl, Bool.false_and]
    clear hl
    go_enter Try.func115, Try.ntmps115
    go_wp2_with fail
    go_ret
    exact ⟨rfl, Kp.refl _ _⟩
  · have b0 : ((l1.length : Int) != (l2.length : Int)) = false := by simp [hl]
    rw [decide_eq_true hl, Bool.true_and]
    obtain ⟨R, hR⟩ : ∃ R, R = (l1.zip l2).all fun q => p q.1 q.2 := ⟨_, rfl⟩
    rw [← hR]
    replace hR := Lib.hid hR
    have HL := Lib.hid hl
    have HP := Lib.hid hp
    have H1 := Lib.hid h1
    have H2 := Lib.hid h2
    obtain ⟨n, hn⟩ : ∃ n, n = l1.length := ⟨_, rfl⟩
    have hn2 : l2.length = n := by rw [hn]; exact hl.symm
    rw [hn2, ← hn] at b0 ⊢
    rw [← hn] at hm1
    have HN1 := Lib.hid hn; have HN2 := Lib.hid hn2
    clear hl hp h1 h2 hn hn2
    go_enter Try.func115, Try.ntmps115
    go_wp2_with fail
    go_loopw [17] (fun iv wr => ∃ i : Nat, iv = .int .i64 i ∧ i ≤ n ∧ Aside0 (∀ q ∈ (l1.zip l2).take i, p q.1 q.2 = true) ∧ Aside0 (Kp [] w wr)) (fun iv _ => n - (intOf iv).toNat)
    case atStart => exact ⟨0, rfl, by omega, ⟨fun q hq => by simp at hq⟩, ⟨Kp.refl _ _⟩⟩
    case round =>
      obtain ⟨i, rfl, hi, HQ, HK⟩ := hrel
      by_cases hlt : i < n
      · have dk : decide ((i : Int) < (n : Int)) = true := decide_eq_true (by omega)
        obtain ⟨b1, o1, rfl, hb1, vs1, hvs1, hok1, hc1⟩ := rowOpen H1.out (by rw [← HN1.out]; omega)
        obtain ⟨b2, o2, rfl, hb2, vs2, hvs2, hok2, hc2⟩ := rowOpen H2.out (by rw [HN2.out]; omega)
        have hvl1 : vs1.length = n := by rw [HN1.out, ← hvs1]; simp
        have hvl2 : vs2.length = n := by rw [← HN2.out, ← hvs2]; simp
        obtain ⟨x, hx⟩ : ∃ x, x = vs1[i]'(by omega) := ⟨_, rfl⟩
        obtain ⟨y, hy⟩ : ∃ y, y = vs2[i]'(by omega) := ⟨_, rfl⟩
        have hzl : i < (l1.zip l2).length := by rw [List.length_zip]; have := HN1.out; have := HN2.out; omega
        have hz : (l1.zip l2)[i] = (x.n, y.n) := by
          have e1 : l1 = vs1.map (·.n) := hvs1.symm
          have e2 : l2 = vs2.map (·.n) := hvs2.symm
          subst e1 e2
          simp [hx, hy]
        have okx : x.ok w := by rw [hx]; exact hok1 _ (List.getElem_mem _)
        have oky : y.ok w := by rw [hy]; exact hok2 _ (List.getElem_mem _)
        have cx : ∀ k u, x.cells[k]? = some u → wr.cell? ⟨b1, o1 + i * 8 + k, none⟩ = some u := fun k u h => kcell HK.out (hc1 i (by omega) k u (by rw [← hx]; exact h))
        have cy : ∀ k u, y.cells[k]? = some u → wr.cell? ⟨b2, o2 + i * 8 + k, none⟩ = some u := fun k u h => kcell HK.out (hc2 i (by omega) k u (by rw [← hy]; exact h))
        have hbw1 := Nat.lt_of_lt_of_le hb1 HK.out.size
        have hbw2 := Nat.lt_of_lt_of_le hb2 HK.out.size
        obtain ⟨W5, hW5⟩ : ∃ W5, W5 = (wr.alloc (.cells x.cells.toArray 25)).alloc (.cells y.cells.toArray 25) := ⟨_, rfl⟩
        have k5 : Kp [] wr W5 := by rw [hW5]; exact ((Kp.refl [] wr).alloc _).alloc _
        have k5w := HK.out.trans k5
        have CC := HP.out x y W5 k5w (okx.kp k5w) (oky.kp k5w)
        obtain ⟨r, hr⟩ : ∃ r, r = p x.n y.n := ⟨_, rfl⟩
        rw [← hr] at CC
        have fin : r = true → Aside0 (∀ q ∈ (l1.zip l2).take (i + 1), p q.1 q.2 = true) := by
          intro h
          refine ⟨fun q hq => ?_⟩
          rw [List.take_succ_eq_append_getElem hzl, hz] at hq
          rcases List.mem_append.1 hq with hq | hq
          · exact HQ.out q hq
          · simp at hq; rw [hq, ← hr]; exact h
        have finF : r = false → R = false := by
          intro h
          rw [hR.out, ← Bool.not_eq_true, List.all_eq_true]
          intro hall
          have := hall (x.n, y.n) (by rw [← hz]; exact List.getElem_mem hzl)
          rw [← hr, h] at this
          cases this
        have FIN := Lib.hid fin; have FF := Lib.hid finF
        have K5 := Lib.hid k5
        clear fin finF hr hz hzl hx hy hok1 hok2 hc1 hc2 hvs1 hvs2 okx oky k5 k5w hvl1 hvl2
        obtain ⟨⟨kd, set, num, nm, mn, mx, lz, subs⟩, A1, c1, A7, c7⟩ := x
        obtain ⟨⟨kd', set', num', nm', mn', mx', lz', subs'⟩, A1', c1', A7', c7'⟩ := y
        dsimp only [NV.val, NV.cells] at cx cy CC hW5
        have x0 := cx 0 _ rfl; have x1 := cx 1 _ rfl; have x2 := cx 2 _ rfl; have x3 := cx 3 _ rfl; have x4 := cx 4 _ rfl; have x5 := cx 5 _ rfl; have x6 := cx 6 _ rfl; have x7 := cx 7 _ rfl
        have y0 := cy 0 _ rfl; have y1 := cy 1 _ rfl; have y2 := cy 2 _ rfl; have y3 := cy 3 _ rfl; have y4 := cy 4 _ rfl; have y5 := cy 5 _ rfl; have y6 := cy 6 _ rfl; have y7 := cy 7 _ rfl
        simp only [Nat.add_zero] at x0 y0
        clear cx cy
        replace CC := Lib.hid CC
        cases r with
        | true =>
          go_wp2_with (rw [← hW5]; go_at_call 116; refine (CC.out).mono ?_; clear CC; rintro e w6 ⟨rfl, k6⟩)
          go_round
          case rel => exact ⟨i + 1, by simp, hlt, FIN.out trivial, ⟨(HK.out.trans K5.out).trans k6⟩⟩
          case measure => simp [intOf]; omega
        | false =>
          have hRf := Lib.hid (FF.out rfl)
          go_wp2_with (rw [← hW5]; go_at_call 116; refine (CC.out).mono ?_; clear CC; rintro e w6 ⟨rfl, k6⟩)
          go_ret
          exact ⟨by rw [hRf.out]; rfl, (HK.out.trans K5.out).trans k6⟩
      · obtain rfl : i = n := by omega
        have dk : decide ((i : Int) < (i : Int)) = false := decide_eq_false (by omega)
        have hRt : R = true := by
          rw [hR.out, List.all_eq_true]
          intro q hq
          have := HQ.out q
          rw [List.take_of_length_le (by rw [List.length_zip]; have := HN1.out; omega)] at this
          exact this hq
        replace hRt := Lib.hid hRt
        go_wp2_with fail
        go_ret
        exact ⟨by rw [hRt.out]; rfl, HK.out⟩
theorem nebT {a b : Int} (h : ¬ a = b) : (a != b) = true := by simp [h]
theorem nebF {a b : Int} (h : a = b) : (a != b) = false := by simp [h]
def SameC (m : Nat) : Prop := ∀ (va vb : NV) (w : World), va.ok w → vb.ok w → Calls Try.prog 86 #[va.val, vb.val, .int .i64 (m : Int)] w fun e w' => e = .returned (.bool (sameP m va.n vb.n)) ∧ Kp [] w w'
set_option maxRecDepth 100000 in
set_option maxHeartbeats 4000000 in
theorem clo_calls (m : Nat) (hm : m < 1000000) (ih : SameC m) (PT : Nat) (va vb : NV) (W : World) (ha : va.ok W) (hb : vb.ok W) (hB : W.heap[PT]? = some (.cells #[.int .i64 ((m + 1 : Nat) : Int)] 3 (0, 0))) :
    Calls Try.prog 116 #[va.val, vb.val, .pointer (some ⟨PT, 0, none⟩)] W fun e w' => e = .returned (.bool (sameP m va.n vb.n)) ∧ Kp [] W w' := by
  obtain ⟨W1, hW1⟩ : ∃ W1, W1 = (W.alloc (.cells va.cells.toArray 25)).alloc (.cells vb.cells.toArray 25) := ⟨_, rfl⟩
  have k1 : Kp [] W W1 := by rw [hW1]; exact ((Kp.refl [] W).alloc _).alloc _
  have CC := ih va vb W1 (ha.kp k1) (hb.kp k1)
  obtain ⟨r, hr⟩ : ∃ r, r = sameP m va.n vb.n := ⟨_, rfl⟩
  rw [← hr] at CC ⊢
  have z := cellB hB 0
  have zz : W.cell? ⟨PT, 0, none⟩ = some (.int .i64 ((m + 1 : Nat) : Int)) := z
  have hlt := ltB hB
  have hw : IntKind.i64.wrap (((m + 1 : Nat) : Int) - 1) = (m : Int) := by rw [IntWalk.i64_in _ (by omega)]; omega
  have K1 := Lib.hid k1
  clear hr k1 ha hb ih z hB
  obtain ⟨⟨kd, set, num, nm, mn, mx, lz, subs⟩, A1, c1, A7, c7⟩ := va
  obtain ⟨⟨kd', set', num', nm', mn', mx', lz', subs'⟩, A1', c1', A7', c7'⟩ := vb
  dsimp only [NV.val, NV.cells] at CC hW1 ⊢
  replace CC := Lib.hid CC
  go_enter Try.func116, Try.ntmps116
  go_wp2_with (rw [← hW1]; go_at_call 86; refine (CC.out).mono ?_; clear CC; rintro e w6 ⟨rfl, k6⟩)
  go_ret
  exact ⟨rfl, K1.out.trans k6⟩
set_option maxRecDepth 100000 in
set_option maxHeartbeats 16000000 in
theorem same86 : ∀ (m : Nat), m ≤ 1000 → SameC m := by
  intro m
  induction m with
  | zero =>
    intro _ va vb w ha hb
    obtain ⟨⟨kd, set, num, nm, mn, mx, lz, subs⟩, A1, c1, A7, c7⟩ := va
    obtain ⟨⟨kd', set', num', nm', mn', mx', lz', subs'⟩, A1', c1', A7', c7'⟩ := vb
    dsimp only [NV.val, NV.cells]
    go_enter Try.func86, Try.ntmps86
    go_wp2_with fail
    go_ret
    exact ⟨rfl, ((((Kp.refl [] w).alloc _).alloc _).alloc _)⟩
  | succ m ih =>
    intro hm va vb w ha hb
    have ihm := ih (by omega)
    obtain ⟨W1, hW1⟩ : ∃ W1, W1 = ((w.alloc (.cells va.cells.toArray 25)).alloc (.cells vb.cells.toArray 25)).alloc (.cells #[.int .i64 ((m + 1 : Nat) : Int)] 3) := ⟨_, rfl⟩
    have k1 : Kp [] w W1 := by rw [hW1]; exact (((Kp.refl [] w).alloc _).alloc _).alloc _
    have hB1 : W1.heap[w.heap.size]? = some (.cells va.cells.toArray 25 (0, 0)) := by rw [hW1]; exact (Below.heap_alloc _ _ _ (by simp; omega)).trans ((Below.heap_alloc _ _ _ (by simp)).trans (heap_alloc_new _ _))
    have hB2 : W1.heap[w.heap.size + 1]? = some (.cells vb.cells.toArray 25 (0, 0)) := by rw [hW1]; exact (Below.heap_alloc _ _ _ (by simp)).trans (new_at _ _ _ (by simp))
    have hB3 : W1.heap[w.heap.size + 1 + 1]? = some (.cells #[.int .i64 ((m + 1 : Nat) : Int)] 3 (0, 0)) := by rw [hW1]; exact new_at _ _ _ (by simp)
    have ha1 := ha.kp k1
    have hb1 := hb.kp k1
    have d1 : decide (((m + 1 : Nat) : Int) < 1) = false := decide_eq_false (by omega)
    have C114 : ∀ W, Kp [] W1 W → Calls Try.prog 114 #[.slice va.A1 va.n.f1.length va.c1, .slice vb.A1 vb.n.f1.length vb.c1] W fun e w' => e = .returned (.bool (eqB va.n.f1 vb.n.f1)) ∧ Kp [] W1 w' := by
      intro W k
      have oa := ha1.kp k
      have ob := hb1.kp k
      refine (api_Range_114.calls (va.n.f1.length + 1) va.A1 va.c1 va.n.f1 vb.A1 vb.c1 vb.n.f1 _ W oa.g1 oa.l1 ob.g1 ob.l1 (eq114_f _ _ ha.g1.2.1 _ (Nat.le_refl _))).mono fun e w' ⟨h, q⟩ => ⟨h, k.trans (Kp.ofDrawn q)⟩
    have C115 : ∀ W, Kp [] W1 W → Calls Try.prog 115 #[.slice va.A7 va.n.f7.length va.c7, .slice vb.A7 vb.n.f7.length vb.c7, .func (.func 116) #[] #[.pointer (some ⟨w.heap.size + 1 + 1, 0, none⟩)]] W fun e w' => e = .returned (.bool (decide (va.n.f7.length = vb.n.f7.length) && (va.n.f7.zip vb.n.f7).all fun q => sameP m q.1 q.2)) ∧ Kp [] W1 w' := by
      intro W k
      exact (eqf_calls (sameP m) ⟨w.heap.size + 1 + 1, 0, none⟩ va.A7 va.c7 va.n.f7 vb.A7 vb.c7 vb.n.f7 W (ha1.kp k).g7 (hb1.kp k).g7 (fun x y W' q ox oy => clo_calls m (by omega) ihm (w.heap.size + 1 + 1) x y W' ox oy (kblk (k.trans q) hB3))).mono fun e w' ⟨h, q⟩ => ⟨h, k.trans q⟩
    have hdef : sameP (m + 1) va.n vb.n = (headB va.n vb.n && (decide (va.n.f7.length = vb.n.f7.length) && (va.n.f7.zip vb.n.f7).all fun p => sameP m p.1 p.2)) := rfl
    rw [hdef]
    obtain ⟨r7, hr7⟩ : ∃ r, r = (decide (va.n.f7.length = vb.n.f7.length) && (va.n.f7.zip vb.n.f7).all fun q => sameP m q.1 q.2) := ⟨_, rfl⟩
    simp only [← hr7] at C115 ⊢
    have headF : ∀ {a b : S25}, ¬ (a.f0 = b.f0 ∧ a.f2 = b.f2 ∧ a.f3 = b.f3 ∧ a.f4 = b.f4 ∧ a.f5 = b.f5 ∧ a.f6 = b.f6 ∧ a.f1 = b.f1) → headB a b = false := fun h => by rw [← Bool.not_eq_true, headB_iff]; exact h
    have hB3l := ltB hB3
    have zM0 := cellB hB3 0
    obtain ⟨M, hM⟩ : ∃ M : Int, M = ((m + 1 : Nat) : Int) := ⟨_, rfl⟩
    rw [← hM] at hW1 d1 zM0 ⊢
    have zM : W1.cell? ⟨w.heap.size + 1 + 1, 0, none⟩ = some (.int .i64 M) := zM0
    clear zM0
    replace hM := Lib.hid hM
    have K1 := Lib.hid k1
    have kr := Kp.refl [] W1
    clear hdef hr7 ihm ih ha hb ha1 hb1 hB3 k1
    obtain ⟨⟨kd, set, num, nm, mn, mx, lz, subs⟩, A1, c1, A7, c7⟩ := va
    obtain ⟨⟨kd', set', num', nm', mn', mx', lz', subs'⟩, A1', c1', A7', c7'⟩ := vb
    dsimp only [NV.val, NV.cells] at hB1 hB2 hW1 C114 C115 ⊢
    obtain ⟨HB, hHB⟩ : ∃ HB, HB = headB ⟨kd, set, num, nm, mn, mx, lz, subs⟩ ⟨kd', set', num', nm', mn', mx', lz', subs'⟩ := ⟨_, rfl⟩
    rw [← hHB]
    have HF : Hid (¬ (kd = kd' ∧ num = num' ∧ nm = nm' ∧ mn = mn' ∧ mx = mx' ∧ lz = lz' ∧ set = set') → HB = false) := Lib.hid fun h => by rw [hHB]; exact headF h
    have HT : Hid ((kd = kd' ∧ num = num' ∧ nm = nm' ∧ mn = mn' ∧ mx = mx' ∧ lz = lz' ∧ set = set') → HB = true) := Lib.hid fun h => by rw [hHB]; exact headB_iff.2 h
    replace hHB := Lib.hid hHB
    have z0 : W1.cell? ⟨w.heap.size, 0, none⟩ = some (Value.int .i64 kd) := cellB hB1 0; have z1 : W1.cell? ⟨w.heap.size, 1, none⟩ = some (Value.slice A1 set.length c1) := cellB hB1 1; have z2 : W1.cell? ⟨w.heap.size, 2, none⟩ = some (Value.int .i64 num) := cellB hB1 2; have z3 : W1.cell? ⟨w.heap.size, 3, none⟩ = some (Value.string nm) := cellB hB1 3; have z4 : W1.cell? ⟨w.heap.size, 4, none⟩ = some (Value.int .i64 mn) := cellB hB1 4; have z5 : W1.cell? ⟨w.heap.size, 5, none⟩ = some (Value.int .i64 mx) := cellB hB1 5; have z6 : W1.cell? ⟨w.heap.size, 6, none⟩ = some (Value.bool lz) := cellB hB1 6; have z7 : W1.cell? ⟨w.heap.size, 7, none⟩ = some (Value.slice A7 subs.length c7) := cellB hB1 7; have y0 : W1.cell? ⟨(w.heap.size + 1), 0, none⟩ = some (Value.int .i64 kd') := cellB hB2 0; have y1 : W1.cell? ⟨(w.heap.size + 1), 1, none⟩ = some (Value.slice A1' set'.length c1') := cellB hB2 1; have y2 : W1.cell? ⟨(w.heap.size + 1), 2, none⟩ = some (Value.int .i64 num') := cellB hB2 2; have y3 : W1.cell? ⟨(w.heap.size + 1), 3, none⟩ = some (Value.string nm') := cellB hB2 3; have y4 : W1.cell? ⟨(w.heap.size + 1), 4, none⟩ = some (Value.int .i64 mn') := cellB hB2 4; have y5 : W1.cell? ⟨(w.heap.size + 1), 5, none⟩ = some (Value.int .i64 mx') := cellB hB2 5; have y6 : W1.cell? ⟨(w.heap.size + 1), 6, none⟩ = some (Value.bool lz') := cellB hB2 6; have y7 : W1.cell? ⟨(w.heap.size + 1), 7, none⟩ = some (Value.slice A7' subs'.length c7') := cellB hB2 7
    have hB1l := ltB hB1; have hB2l := ltB hB2
    replace hB1 := Lib.hid hB1; replace hB2 := Lib.hid hB2
    replace C115 := Lib.hid C115
    clear headF
    go_enter Try.func86, Try.ntmps86
    go_upto_region 1 with fail
    rw [← hW1]
    replace hW1 := Lib.hid hW1
    by_cases h_kd : kd = kd'
    rotate_left
    · have E := Lib.hid (HF.out (by rintro ⟨e0, e2, e3, e4, e5, e6, e1⟩; exact h_kd e0))
      have b_kd := nebT h_kd
      clear h_kd
      go_wp2_with fail
      go_ret
      exact ⟨by rw [E.out]; rfl, K1.out⟩
    subst h_kd
    by_cases h_num : num = num'
    rotate_left
    · have E := Lib.hid (HF.out (by rintro ⟨e0, e2, e3, e4, e5, e6, e1⟩; exact h_num e2))
      have b_num := nebT h_num
      clear h_num
      go_wp2_with fail
      go_ret
      exact ⟨by rw [E.out]; rfl, K1.out⟩
    subst h_num
    by_cases h_nm : nm = nm'
    rotate_left
    · have E := Lib.hid (HF.out (by rintro ⟨e0, e2, e3, e4, e5, e6, e1⟩; exact h_nm e3))
      have b_nm := strF h_nm
      clear h_nm
      go_wp2_with fail
      go_ret
      exact ⟨by rw [E.out]; rfl, K1.out⟩
    subst h_nm
    by_cases h_mn : mn = mn'
    rotate_left
    · have E := Lib.hid (HF.out (by rintro ⟨e0, e2, e3, e4, e5, e6, e1⟩; exact h_mn e4))
      have b_mn := nebT h_mn
      clear h_mn
      go_wp2_with fail
      go_ret
      exact ⟨by rw [E.out]; rfl, K1.out⟩
    subst h_mn
    by_cases h_mx : mx = mx'
    rotate_left
    · have E := Lib.hid (HF.out (by rintro ⟨e0, e2, e3, e4, e5, e6, e1⟩; exact h_mx e5))
      have b_mx := nebT h_mx
      clear h_mx
      go_wp2_with fail
      go_ret
      exact ⟨by rw [E.out]; rfl, K1.out⟩
    subst h_mx
    by_cases h_lz : lz = lz'
    rotate_left
    · have E := Lib.hid (HF.out (by rintro ⟨e0, e2, e3, e4, e5, e6, e1⟩; exact h_lz e6))
      cases lz <;> cases lz'
      · exact absurd rfl h_lz
      · clear h_lz
        go_wp2_with fail
        go_ret
        exact ⟨by rw [E.out]; rfl, K1.out⟩
      · clear h_lz
        go_wp2_with fail
        go_ret
        exact ⟨by rw [E.out]; rfl, K1.out⟩
      · exact absurd rfl h_lz
    subst h_lz
    obtain ⟨r1, hr1⟩ : ∃ r, r = eqB set set' := ⟨_, rfl⟩
    simp only [← hr1] at C114
    replace hr1 := Lib.hid hr1
    replace C114 := Lib.hid C114
    cases r1 with
    | false =>
      have E := Lib.hid (HF.out (by rintro ⟨e0, e2, e3, e4, e5, e6, e1⟩; have := hr1.out; rw [e1, eqB_self] at this; cases this))
      cases lz
      all_goals
        go_wp2_with (go_at_call 114; refine (C114.out _ kr).mono ?_; clear C114; rintro e w6 ⟨rfl, k6⟩)
        go_ret
        exact ⟨by rw [E.out]; rfl, K1.out.trans k6⟩
    | true =>
      have E := Lib.hid (HT.out ⟨rfl, rfl, rfl, rfl, rfl, rfl, eqB_iff.1 hr1.out.symm⟩)
      cases lz
      all_goals
        go_wp2_with (first | (go_at_call 114; refine (C114.out _ kr).mono ?_; clear C114; rintro e w6 ⟨rfl, k6⟩; have zz7 : w6.cell? ⟨w.heap.size, 7, none⟩ = some (.slice A7 subs.length c7) := cellB (kblk k6 hB1.out) 7; have yy7 : w6.cell? ⟨w.heap.size + 1, 7, none⟩ = some (.slice A7' subs'.length c7') := cellB (kblk k6 hB2.out) 7) | (go_at_call 115; refine (C115.out _ k6).mono ?_; clear C115; rintro e w7 ⟨rfl, k6⟩))
        go_ret
        exact ⟨by rw [E.out]; rfl, K1.out.trans k6⟩

end Go.Proofs.Ytojlhlepneefoaa
