/- Package tree: Size, Depth, Check, Groups as plain contracts; the chapter's example. -/
import Derived.Test.YtojlhlepneefoaaM
import Derived.Test.YtojlhlepneefoaaC
namespace Go.Proofs.Ytojlhlepneefoaa
open Go.RowKit PAll Go.Proofs.YtojlhlepneefoaaW.PrintWords Go.Proofs.YtojlhlepneefoaaW.PrintLast Go.Proofs.YtojlhlepneefoaaW.PrintMore
open Go.Shelf
set_option linter.unusedVariables false
set_option linter.unusedSimpArgs false

noncomputable def checkV (n : S25) : Int := if depthP 1001 n > 1000 then 61 else chkOut (chkL (stepsL 1000 1 n))
theorem size_calls (v : NV) (w : World) (hv : v.ok w) (hN : (stepsL 1000 1 v.n).length ≤ 1000000) : Calls Try.prog 38 #[v.val] w fun e w' => e = .returned (.int .i64 (stepsL 1000 1 v.n).length) ∧ Kp [] w w' :=
  (callsIn_wide (n := 3)).1 ((Size_in 3 (by omega) v w hv (by omega)).mono fun e w' ⟨h, hb⟩ => ⟨h, Kp.ofBelow hb⟩)
theorem depth_calls {d : Nat} (v : NV) (w : World) (hv : v.ok w) (ht : Thin d v.n) : Calls Try.prog 39 #[v.val] w fun e w' => e = .returned (.int .i64 (depthP 1001 v.n)) ∧ Kp [] w w' := by
  obtain ⟨K, hK⟩ := Depth_f ht
  exact (tree_Depth.calls K v.n.f0 v.A1 v.c1 v.n.f1 v.n.f2 v.n.f3 v.n.f4 v.n.f5 v.n.f6 v.A7 v.c7 v.n.f7 _ w hv.g1 hv.l1 hv.g7 hv.l7 (hK K (Nat.le_refl _))).mono fun e w' ⟨h, hb⟩ => ⟨h, Kp.ofBelow hb⟩
theorem check_calls {d : Nat} (v : NV) (w : World) (hv : v.ok w) (ht : Thin d v.n) (hN : (stepsL 1000 1 v.n).length ≤ 1000000) : Calls Try.prog 24 #[v.val] w fun e w' => e = .returned (.int .i64 (checkV v.n)) ∧ Kp [] w w' := by
  obtain ⟨K, hK⟩ := Depth_f ht
  exact (callsIn_wide (n := 3)).1 ((Check_in 3 (by omega) v w hv hN K _ (hK K (Nat.le_refl _))).mono fun e w' ⟨h, hb⟩ => ⟨h, Kp.ofBelow hb⟩)
theorem groups_calls (v : NV) (w : World) (hv : v.ok w) (hN : (stepsL 1000 1 v.n).length ≤ 1000000) : Calls Try.prog 41 #[v.val] w fun e w' =>
    ∃ u, e = .returned u ∧ w'.ownsRow w.heap.size 9 1 u (groupsP (stepsL 1000 1 v.n)).length ((groupsP (stepsL 1000 1 v.n)).map .string) ∧ Kp [] w w' :=
  (callsIn_wide (n := 3)).1 ((Groups_in 3 (by omega) v w hv hN).mono fun e w' ⟨u, h, ho, hb⟩ => ⟨u, h, ho, Kp.ofBelow hb⟩)
def exN : S25 := ⟨7, [], 0, ⟨#[]⟩, 0, 0, false, [letN 97, letN 98]⟩
def exB : S25 := ⟨9, [], 0, ⟨#[]⟩, 2, 1, false, [letN 97]⟩
theorem exN_steps : stepsL 1000 1 exN = [(1, exN), (2, letN 97), (2, letN 98)] := rfl
theorem exB_steps : stepsL 1000 1 exB = [(1, exB), (2, letN 97)] := rfl
theorem let_thin (c : Int) : Thin 1 (letN c) := ⟨by simp [letN], by simp [letN], by simp [letN], Nat.zero_le _⟩
theorem exN_thin : Thin 2 exN := ⟨by simp [exN], by simp [exN]; exact ⟨let_thin _, let_thin _⟩, by simp [exN], by decide⟩
theorem exB_thin : Thin 2 exB := ⟨by simp [exB], by simp [exB]; exact let_thin _, by simp [exB], by decide⟩
theorem exN_depth : depthP 1001 exN = 2 := by decide +kernel
theorem exB_depth : depthP 1001 exB = 2 := by decide +kernel
theorem exN_fits : fitsV exN = true := by decide +kernel
theorem exB_fits : fitsV exB = false := by decide +kernel
theorem la_fits : fitsV (letN 97) = true := by decide +kernel
theorem lb_fits : fitsV (letN 98) = true := by decide +kernel
theorem exN_check : checkV exN = 0 := by
  unfold checkV
  rw [exN_depth, exN_steps, if_neg (by omega)]
  have : chkL [(1, exN), (2, letN 97), (2, letN 98)] = .ok [] := by
    show chkStep (chkStep (chkStep (.ok []) (1, exN)) (2, letN 97)) (2, letN 98) = _
    rw [chk_skip exN_fits (by decide), chk_skip la_fits (by decide), chk_skip lb_fits (by decide)]
  rw [this]; rfl
theorem exB_check : checkV exB = 60 := by
  unfold checkV
  rw [exB_depth, exB_steps, if_neg (by omega)]
  have : chkL [(1, exB), (2, letN 97)] = .error 60 := by
    show chkStep (chkStep (.ok []) (1, exB)) (2, letN 97) = _
    rw [chk_no exB_fits]; rfl
  rw [this]; rfl
theorem exN_null : nullP 1000 exN = false := by decide +kernel
theorem exN_ok {w : World} {b : Nat} {va vb : NV} (ha : va.n = letN 97) (hb : vb.n = letN 98) (oa : va.ok w) (ob : vb.ok w) (hr : w.heap[b]? = some (.cells ([va, vb].flatMap NV.cells).toArray 25 (0, 0))) : (⟨exN, none, 0, some ⟨b, 0, none⟩, 2⟩ : NV).ok w := by
  have R := rowMake (vs := [va, vb]) hr (fun v hv => by simp at hv; rcases hv with rfl | rfl <;> assumption) (by simp)
  simp only [List.map_cons, List.map_nil, ha, hb] at R
  exact ⟨Nat.zero_le _, ⟨rfl, Nat.zero_le _, fun h => absurd h (by simp [exN])⟩, Nat.le_refl _, R⟩
theorem exB_ok {w : World} {b : Nat} {va : NV} (ha : va.n = letN 97) (oa : va.ok w) (hr : w.heap[b]? = some (.cells ([va].flatMap NV.cells).toArray 25 (0, 0))) : (⟨exB, none, 0, some ⟨b, 0, none⟩, 1⟩ : NV).ok w := by
  have R := rowMake (vs := [va]) hr (fun v hv => by simp at hv; subst hv; exact oa) (by simp)
  simp only [List.map_cons, List.map_nil, ha] at R
  exact ⟨Nat.zero_le _, ⟨rfl, Nat.zero_le _, fun h => absurd h (by simp [exB])⟩, Nat.le_refl _, R⟩
set_option maxRecDepth 100000 in
set_option maxHeartbeats 8000000 in
theorem works_calls (w : World) : Calls Try.prog 32 #[] w fun e w' => e = .returned (.bool true) ∧ Kp [] w w' := by
  have nv1 : nameB [97, 95, 49] = true := by decide +kernel
  have nv2 : nameB [49, 97] = false := by decide +kernel
  go_enter Try.func32, Try.ntmps32
  go_wp2_with fail
  refine (letter_calls 97 _).mono ?_
  rintro e w1 ⟨⟨na, A1, c1, A7, c7⟩, rfl, hn, oa, ka⟩
  obtain rfl : na = letN 97 := hn
  dsimp only [NV.val, NV.cells, letN, List.length_cons, List.length_nil, Nat.zero_add]
  go_wp2_with fail
  refine (letter_calls 98 _).mono ?_
  rintro e w2 ⟨⟨nb, B1, d1, B7, d7⟩, rfl, hn, ob, kb⟩
  obtain rfl : nb = letN 98 := hn
  dsimp only [NV.val, NV.cells, letN, List.length_cons, List.length_nil, Nat.zero_add]
  replace oa := oa.kp kb
  go_wp2_with fail
  obtain ⟨V1, hV1⟩ : ∃ V1, V1 = (w2.alloc (.cells ([(⟨letN 97, A1, c1, A7, c7⟩ : NV), ⟨letN 98, B1, d1, B7, d7⟩].flatMap NV.cells).toArray 25)).alloc (.cells (⟨exN, none, 0, some ⟨w2.heap.size, 0, none⟩, 2⟩ : NV).cells.toArray 25) := ⟨_, rfl⟩
  have k1 : Kp [] w2 V1 := by rw [hV1]; exact ((Kp.refl [] w2).alloc _).alloc _
  have hr1 : V1.heap[w2.heap.size]? = some (.cells ([(⟨letN 97, A1, c1, A7, c7⟩ : NV), ⟨letN 98, B1, d1, B7, d7⟩].flatMap NV.cells).toArray 25 (0, 0)) := by rw [hV1]; exact (Below.heap_alloc _ _ _ (by simp)).trans (heap_alloc_new _ _)
  have hx1 : V1.heap[w2.heap.size + 1]? = some (.cells (⟨exN, none, 0, some ⟨w2.heap.size, 0, none⟩, 2⟩ : NV).cells.toArray 25 (0, 0)) := by rw [hV1]; exact new_at _ _ _ (by simp)
  have g1 := exN_ok (w := V1) (b := w2.heap.size) rfl rfl (oa.kp k1) (ob.kp k1) hr1
  refine (letter_calls 97 _).mono ?_
  rintro e w3 ⟨⟨nc, D1, e1, D7, e7⟩, rfl, hn, oc, kc⟩
  obtain rfl : nc = letN 97 := hn
  replace kc : Kp [] V1 w3 := by rw [hV1]; exact kc
  dsimp only [NV.val, NV.cells, letN, List.length_cons, List.length_nil, Nat.zero_add]
  have m0 := ltB (kblk kc hx1)
  have m1 : w2.heap.size + 1 < w3.heap.size + 1 := by omega
  obtain ⟨V2, hV2⟩ : ∃ V2, V2 = (w3.alloc (.cells ([(⟨letN 97, D1, e1, D7, e7⟩ : NV)].flatMap NV.cells).toArray 25)).alloc (.cells (⟨exB, none, 0, some ⟨w3.heap.size, 0, none⟩, 1⟩ : NV).cells.toArray 25) := ⟨_, rfl⟩
  have k2 : Kp [] w3 V2 := by rw [hV2]; exact ((Kp.refl [] w3).alloc _).alloc _
  have hk0 : Kp [] V2 ((w3.alloc (.cells ([(⟨letN 97, D1, e1, D7, e7⟩ : NV)].flatMap NV.cells).toArray 25)).alloc (.cells (⟨exB, none, 0, some ⟨w3.heap.size, 0, none⟩, 1⟩ : NV).cells.toArray 25)) := by rw [hV2]; exact Kp.refl _ _
  have hr2 : V2.heap[w3.heap.size]? = some (.cells ([(⟨letN 97, D1, e1, D7, e7⟩ : NV)].flatMap NV.cells).toArray 25 (0, 0)) := by rw [hV2]; exact (Below.heap_alloc _ _ _ (by simp)).trans (heap_alloc_new _ _)
  have hb2 : V2.heap[w3.heap.size + 1]? = some (.cells (⟨exB, none, 0, some ⟨w3.heap.size, 0, none⟩, 1⟩ : NV).cells.toArray 25 (0, 0)) := by rw [hV2]; exact new_at _ _ _ (by simp)
  have hb1 := kblk k2 (kblk kc hx1)
  have g2 := exB_ok (w := V2) (b := w3.heap.size) rfl (oc.kp k2) hr2
  replace g1 := (g1.kp kc).kp k2
  have ka2 : Kp [] w V2 := (((ka.trans kb).trans k1).trans kc).trans k2
  have C38 := Lib.hid (fun W (k : Kp [] V2 W) => (size_calls _ W (g1.kp k) (by rw [exN_steps]; simp)).mono fun e w' ⟨h, q⟩ => (⟨h, k.trans q⟩ : _ ∧ Kp [] V2 w'))
  have C39 := Lib.hid (fun W (k : Kp [] V2 W) => (depth_calls _ W (g1.kp k) exN_thin).mono fun e w' ⟨h, q⟩ => (⟨h, k.trans q⟩ : _ ∧ Kp [] V2 w'))
  have C24 := Lib.hid (fun W (k : Kp [] V2 W) => (check_calls _ W (g1.kp k) exN_thin (by rw [exN_steps]; simp)).mono fun e w' ⟨h, q⟩ => (⟨h, k.trans q⟩ : _ ∧ Kp [] V2 w'))
  have C24b := Lib.hid (fun W (k : Kp [] V2 W) => (check_calls _ W (g2.kp k) exB_thin (by rw [exB_steps]; simp)).mono fun e w' ⟨h, q⟩ => (⟨h, k.trans q⟩ : _ ∧ Kp [] V2 w'))
  have C40 := Lib.hid (fun W (k : Kp [] V2 W) => (nullable_calls _ W (g1.kp k)).mono fun e w' ⟨h, q⟩ => (⟨h, k.trans q⟩ : _ ∧ Kp [] V2 w'))
  have C34a : Hid (∀ (W : World), Kp [] V2 W → Calls Try.prog 34 #[.string ⟨#[97, 95, 49]⟩] W fun e w' => e = .returned (.bool true) ∧ Kp [] V2 w') := Lib.hid fun W k => (name_calls [97, 95, 49] W).mono fun e w' ⟨h, q⟩ => ⟨by rw [h, nv1], k.trans q⟩
  have C34b : Hid (∀ (W : World), Kp [] V2 W → Calls Try.prog 34 #[.string ⟨#[49, 97]⟩] W fun e w' => e = .returned (.bool false) ∧ Kp [] V2 w') := Lib.hid fun W k => (name_calls [49, 97] W).mono fun e w' ⟨h, q⟩ => ⟨by rw [h, nv2], k.trans q⟩
  rw [exN_steps] at C38
  rw [exN_depth] at C39
  rw [exN_check] at C24
  rw [exB_check] at C24b
  rw [exN_null] at C40
  replace C38 : Hid (∀ (W : World), Kp [] V2 W → Calls Try.prog 38 #[.agg #[.int .i64 7, .slice none 0 0, .int .i64 0, .string ⟨#[]⟩, .int .i64 0, .int .i64 0, .bool false, .slice (some ⟨w2.heap.size, 0, none⟩) 2 2]] W fun e w' => e = .returned (.int .i64 3) ∧ Kp [] V2 w') := C38
  replace C39 : Hid (∀ (W : World), Kp [] V2 W → Calls Try.prog 39 #[.agg #[.int .i64 7, .slice none 0 0, .int .i64 0, .string ⟨#[]⟩, .int .i64 0, .int .i64 0, .bool false, .slice (some ⟨w2.heap.size, 0, none⟩) 2 2]] W fun e w' => e = .returned (.int .i64 2) ∧ Kp [] V2 w') := C39
  replace C24 : Hid (∀ (W : World), Kp [] V2 W → Calls Try.prog 24 #[.agg #[.int .i64 7, .slice none 0 0, .int .i64 0, .string ⟨#[]⟩, .int .i64 0, .int .i64 0, .bool false, .slice (some ⟨w2.heap.size, 0, none⟩) 2 2]] W fun e w' => e = .returned (.int .i64 0) ∧ Kp [] V2 w') := C24
  replace C24b : Hid (∀ (W : World), Kp [] V2 W → Calls Try.prog 24 #[.agg #[.int .i64 9, .slice none 0 0, .int .i64 0, .string ⟨#[]⟩, .int .i64 2, .int .i64 1, .bool false, .slice (some ⟨w3.heap.size, 0, none⟩) 1 1]] W fun e w' => e = .returned (.int .i64 60) ∧ Kp [] V2 w') := C24b
  replace C40 : Hid (∀ (W : World), Kp [] V2 W → Calls Try.prog 40 #[.agg #[.int .i64 7, .slice none 0 0, .int .i64 0, .string ⟨#[]⟩, .int .i64 0, .int .i64 0, .bool false, .slice (some ⟨w2.heap.size, 0, none⟩) 2 2]] W fun e w' => e = .returned (.bool false) ∧ Kp [] V2 w') := C40
  have HW1 := Lib.hid hV1
  have HW2 := Lib.hid hV2
  have z := cellB (kblk kc hx1)
  have z0 : w3.cell? ⟨w2.heap.size + 1, 0, none⟩ = some (.int .i64 7) := z 0
  have z1 : w3.cell? ⟨w2.heap.size + 1, 1, none⟩ = some (.slice none 0 0) := z 1
  have z2 : w3.cell? ⟨w2.heap.size + 1, 2, none⟩ = some (.int .i64 0) := z 2
  have z3 : w3.cell? ⟨w2.heap.size + 1, 3, none⟩ = some (.string ⟨#[]⟩) := z 3
  have z4 : w3.cell? ⟨w2.heap.size + 1, 4, none⟩ = some (.int .i64 0) := z 4
  have z5 : w3.cell? ⟨w2.heap.size + 1, 5, none⟩ = some (.int .i64 0) := z 5
  have z6 : w3.cell? ⟨w2.heap.size + 1, 6, none⟩ = some (.bool false) := z 6
  have z7 : w3.cell? ⟨w2.heap.size + 1, 7, none⟩ = some (.slice (some ⟨w2.heap.size, 0, none⟩) 2 2) := z 7
  clear hV1 hV2 oa ob oc ka kb k1 kc k2 hr1 hr2 hx1 g1 g2 z nv1 nv2
  dsimp only [List.flatMap_cons, List.flatMap_nil, NV.cells, letN, exN, exB] at hk0
  go_wp2_with (first | (go_at_call 38; refine (C38.out _ (by first | exact kk | exact hk0)).mono ?_; clear C38; rintro e w4 ⟨rfl, kk⟩; have p0 : w4.cell? ⟨w2.heap.size + 1, 0, none⟩ = some (.int .i64 7) := cellB (kblk kk hb1) 0; have p1 : w4.cell? ⟨w2.heap.size + 1, 1, none⟩ = some (.slice none 0 0) := cellB (kblk kk hb1) 1; have p2 : w4.cell? ⟨w2.heap.size + 1, 2, none⟩ = some (.int .i64 0) := cellB (kblk kk hb1) 2; have p3 : w4.cell? ⟨w2.heap.size + 1, 3, none⟩ = some (.string ⟨#[]⟩) := cellB (kblk kk hb1) 3; have p4 : w4.cell? ⟨w2.heap.size + 1, 4, none⟩ = some (.int .i64 0) := cellB (kblk kk hb1) 4; have p5 : w4.cell? ⟨w2.heap.size + 1, 5, none⟩ = some (.int .i64 0) := cellB (kblk kk hb1) 5; have p6 : w4.cell? ⟨w2.heap.size + 1, 6, none⟩ = some (.bool false) := cellB (kblk kk hb1) 6; have p7 : w4.cell? ⟨w2.heap.size + 1, 7, none⟩ = some (.slice (some ⟨w2.heap.size, 0, none⟩) 2 2) := cellB (kblk kk hb1) 7; have q0 : w4.cell? ⟨w3.heap.size + 1, 0, none⟩ = some (.int .i64 9) := cellB (kblk kk hb2) 0; have q1 : w4.cell? ⟨w3.heap.size + 1, 1, none⟩ = some (.slice none 0 0) := cellB (kblk kk hb2) 1; have q2 : w4.cell? ⟨w3.heap.size + 1, 2, none⟩ = some (.int .i64 0) := cellB (kblk kk hb2) 2; have q3 : w4.cell? ⟨w3.heap.size + 1, 3, none⟩ = some (.string ⟨#[]⟩) := cellB (kblk kk hb2) 3; have q4 : w4.cell? ⟨w3.heap.size + 1, 4, none⟩ = some (.int .i64 2) := cellB (kblk kk hb2) 4; have q5 : w4.cell? ⟨w3.heap.size + 1, 5, none⟩ = some (.int .i64 1) := cellB (kblk kk hb2) 5; have q6 : w4.cell? ⟨w3.heap.size + 1, 6, none⟩ = some (.bool false) := cellB (kblk kk hb2) 6; have q7 : w4.cell? ⟨w3.heap.size + 1, 7, none⟩ = some (.slice (some ⟨w3.heap.size, 0, none⟩) 1 1) := cellB (kblk kk hb2) 7) | (go_at_call 39; refine (C39.out _ (by first | exact kk | exact hk0)).mono ?_; clear C39; rintro e w4 ⟨rfl, kk⟩; have p0 : w4.cell? ⟨w2.heap.size + 1, 0, none⟩ = some (.int .i64 7) := cellB (kblk kk hb1) 0; have p1 : w4.cell? ⟨w2.heap.size + 1, 1, none⟩ = some (.slice none 0 0) := cellB (kblk kk hb1) 1; have p2 : w4.cell? ⟨w2.heap.size + 1, 2, none⟩ = some (.int .i64 0) := cellB (kblk kk hb1) 2; have p3 : w4.cell? ⟨w2.heap.size + 1, 3, none⟩ = some (.string ⟨#[]⟩) := cellB (kblk kk hb1) 3; have p4 : w4.cell? ⟨w2.heap.size + 1, 4, none⟩ = some (.int .i64 0) := cellB (kblk kk hb1) 4; have p5 : w4.cell? ⟨w2.heap.size + 1, 5, none⟩ = some (.int .i64 0) := cellB (kblk kk hb1) 5; have p6 : w4.cell? ⟨w2.heap.size + 1, 6, none⟩ = some (.bool false) := cellB (kblk kk hb1) 6; have p7 : w4.cell? ⟨w2.heap.size + 1, 7, none⟩ = some (.slice (some ⟨w2.heap.size, 0, none⟩) 2 2) := cellB (kblk kk hb1) 7; have q0 : w4.cell? ⟨w3.heap.size + 1, 0, none⟩ = some (.int .i64 9) := cellB (kblk kk hb2) 0; have q1 : w4.cell? ⟨w3.heap.size + 1, 1, none⟩ = some (.slice none 0 0) := cellB (kblk kk hb2) 1; have q2 : w4.cell? ⟨w3.heap.size + 1, 2, none⟩ = some (.int .i64 0) := cellB (kblk kk hb2) 2; have q3 : w4.cell? ⟨w3.heap.size + 1, 3, none⟩ = some (.string ⟨#[]⟩) := cellB (kblk kk hb2) 3; have q4 : w4.cell? ⟨w3.heap.size + 1, 4, none⟩ = some (.int .i64 2) := cellB (kblk kk hb2) 4; have q5 : w4.cell? ⟨w3.heap.size + 1, 5, none⟩ = some (.int .i64 1) := cellB (kblk kk hb2) 5; have q6 : w4.cell? ⟨w3.heap.size + 1, 6, none⟩ = some (.bool false) := cellB (kblk kk hb2) 6; have q7 : w4.cell? ⟨w3.heap.size + 1, 7, none⟩ = some (.slice (some ⟨w3.heap.size, 0, none⟩) 1 1) := cellB (kblk kk hb2) 7) | (go_at_call 24; refine (C24.out _ (by first | exact kk | exact hk0)).mono ?_; clear C24; rintro e w4 ⟨rfl, kk⟩; have p0 : w4.cell? ⟨w2.heap.size + 1, 0, none⟩ = some (.int .i64 7) := cellB (kblk kk hb1) 0; have p1 : w4.cell? ⟨w2.heap.size + 1, 1, none⟩ = some (.slice none 0 0) := cellB (kblk kk hb1) 1; have p2 : w4.cell? ⟨w2.heap.size + 1, 2, none⟩ = some (.int .i64 0) := cellB (kblk kk hb1) 2; have p3 : w4.cell? ⟨w2.heap.size + 1, 3, none⟩ = some (.string ⟨#[]⟩) := cellB (kblk kk hb1) 3; have p4 : w4.cell? ⟨w2.heap.size + 1, 4, none⟩ = some (.int .i64 0) := cellB (kblk kk hb1) 4; have p5 : w4.cell? ⟨w2.heap.size + 1, 5, none⟩ = some (.int .i64 0) := cellB (kblk kk hb1) 5; have p6 : w4.cell? ⟨w2.heap.size + 1, 6, none⟩ = some (.bool false) := cellB (kblk kk hb1) 6; have p7 : w4.cell? ⟨w2.heap.size + 1, 7, none⟩ = some (.slice (some ⟨w2.heap.size, 0, none⟩) 2 2) := cellB (kblk kk hb1) 7; have q0 : w4.cell? ⟨w3.heap.size + 1, 0, none⟩ = some (.int .i64 9) := cellB (kblk kk hb2) 0; have q1 : w4.cell? ⟨w3.heap.size + 1, 1, none⟩ = some (.slice none 0 0) := cellB (kblk kk hb2) 1; have q2 : w4.cell? ⟨w3.heap.size + 1, 2, none⟩ = some (.int .i64 0) := cellB (kblk kk hb2) 2; have q3 : w4.cell? ⟨w3.heap.size + 1, 3, none⟩ = some (.string ⟨#[]⟩) := cellB (kblk kk hb2) 3; have q4 : w4.cell? ⟨w3.heap.size + 1, 4, none⟩ = some (.int .i64 2) := cellB (kblk kk hb2) 4; have q5 : w4.cell? ⟨w3.heap.size + 1, 5, none⟩ = some (.int .i64 1) := cellB (kblk kk hb2) 5; have q6 : w4.cell? ⟨w3.heap.size + 1, 6, none⟩ = some (.bool false) := cellB (kblk kk hb2) 6; have q7 : w4.cell? ⟨w3.heap.size + 1, 7, none⟩ = some (.slice (some ⟨w3.heap.size, 0, none⟩) 1 1) := cellB (kblk kk hb2) 7) | (go_at_call 24; refine (C24b.out _ (by first | exact kk | exact hk0)).mono ?_; rintro e w4 ⟨rfl, kk⟩; have p0 : w4.cell? ⟨w2.heap.size + 1, 0, none⟩ = some (.int .i64 7) := cellB (kblk kk hb1) 0; have p1 : w4.cell? ⟨w2.heap.size + 1, 1, none⟩ = some (.slice none 0 0) := cellB (kblk kk hb1) 1; have p2 : w4.cell? ⟨w2.heap.size + 1, 2, none⟩ = some (.int .i64 0) := cellB (kblk kk hb1) 2; have p3 : w4.cell? ⟨w2.heap.size + 1, 3, none⟩ = some (.string ⟨#[]⟩) := cellB (kblk kk hb1) 3; have p4 : w4.cell? ⟨w2.heap.size + 1, 4, none⟩ = some (.int .i64 0) := cellB (kblk kk hb1) 4; have p5 : w4.cell? ⟨w2.heap.size + 1, 5, none⟩ = some (.int .i64 0) := cellB (kblk kk hb1) 5; have p6 : w4.cell? ⟨w2.heap.size + 1, 6, none⟩ = some (.bool false) := cellB (kblk kk hb1) 6; have p7 : w4.cell? ⟨w2.heap.size + 1, 7, none⟩ = some (.slice (some ⟨w2.heap.size, 0, none⟩) 2 2) := cellB (kblk kk hb1) 7; have q0 : w4.cell? ⟨w3.heap.size + 1, 0, none⟩ = some (.int .i64 9) := cellB (kblk kk hb2) 0; have q1 : w4.cell? ⟨w3.heap.size + 1, 1, none⟩ = some (.slice none 0 0) := cellB (kblk kk hb2) 1; have q2 : w4.cell? ⟨w3.heap.size + 1, 2, none⟩ = some (.int .i64 0) := cellB (kblk kk hb2) 2; have q3 : w4.cell? ⟨w3.heap.size + 1, 3, none⟩ = some (.string ⟨#[]⟩) := cellB (kblk kk hb2) 3; have q4 : w4.cell? ⟨w3.heap.size + 1, 4, none⟩ = some (.int .i64 2) := cellB (kblk kk hb2) 4; have q5 : w4.cell? ⟨w3.heap.size + 1, 5, none⟩ = some (.int .i64 1) := cellB (kblk kk hb2) 5; have q6 : w4.cell? ⟨w3.heap.size + 1, 6, none⟩ = some (.bool false) := cellB (kblk kk hb2) 6; have q7 : w4.cell? ⟨w3.heap.size + 1, 7, none⟩ = some (.slice (some ⟨w3.heap.size, 0, none⟩) 1 1) := cellB (kblk kk hb2) 7) | (go_at_call 40; refine (C40.out _ (by first | exact kk | exact hk0)).mono ?_; clear C40; rintro e w4 ⟨rfl, kk⟩; have p0 : w4.cell? ⟨w2.heap.size + 1, 0, none⟩ = some (.int .i64 7) := cellB (kblk kk hb1) 0; have p1 : w4.cell? ⟨w2.heap.size + 1, 1, none⟩ = some (.slice none 0 0) := cellB (kblk kk hb1) 1; have p2 : w4.cell? ⟨w2.heap.size + 1, 2, none⟩ = some (.int .i64 0) := cellB (kblk kk hb1) 2; have p3 : w4.cell? ⟨w2.heap.size + 1, 3, none⟩ = some (.string ⟨#[]⟩) := cellB (kblk kk hb1) 3; have p4 : w4.cell? ⟨w2.heap.size + 1, 4, none⟩ = some (.int .i64 0) := cellB (kblk kk hb1) 4; have p5 : w4.cell? ⟨w2.heap.size + 1, 5, none⟩ = some (.int .i64 0) := cellB (kblk kk hb1) 5; have p6 : w4.cell? ⟨w2.heap.size + 1, 6, none⟩ = some (.bool false) := cellB (kblk kk hb1) 6; have p7 : w4.cell? ⟨w2.heap.size + 1, 7, none⟩ = some (.slice (some ⟨w2.heap.size, 0, none⟩) 2 2) := cellB (kblk kk hb1) 7; have q0 : w4.cell? ⟨w3.heap.size + 1, 0, none⟩ = some (.int .i64 9) := cellB (kblk kk hb2) 0; have q1 : w4.cell? ⟨w3.heap.size + 1, 1, none⟩ = some (.slice none 0 0) := cellB (kblk kk hb2) 1; have q2 : w4.cell? ⟨w3.heap.size + 1, 2, none⟩ = some (.int .i64 0) := cellB (kblk kk hb2) 2; have q3 : w4.cell? ⟨w3.heap.size + 1, 3, none⟩ = some (.string ⟨#[]⟩) := cellB (kblk kk hb2) 3; have q4 : w4.cell? ⟨w3.heap.size + 1, 4, none⟩ = some (.int .i64 2) := cellB (kblk kk hb2) 4; have q5 : w4.cell? ⟨w3.heap.size + 1, 5, none⟩ = some (.int .i64 1) := cellB (kblk kk hb2) 5; have q6 : w4.cell? ⟨w3.heap.size + 1, 6, none⟩ = some (.bool false) := cellB (kblk kk hb2) 6; have q7 : w4.cell? ⟨w3.heap.size + 1, 7, none⟩ = some (.slice (some ⟨w3.heap.size, 0, none⟩) 1 1) := cellB (kblk kk hb2) 7) | (go_at_call 34; refine (C34a.out _ kk).mono ?_; clear C34a; rintro e w4 ⟨rfl, kk⟩) | (go_at_call 34; refine (C34b.out _ kk).mono ?_; clear C34b; rintro e w4 ⟨rfl, kk⟩))
  go_ret
  exact ⟨rfl, ka2.trans kk⟩
end Go.Proofs.Ytojlhlepneefoaa
