/- The law TreeTells, walked. -/
import Derived.Test.YtojlhlepneefoaaTree2
namespace Go.Proofs.Ytojlhlepneefoaa
open Go.RowKit PAll Go.Proofs.YtojlhlepneefoaaW.PrintWords Go.Proofs.YtojlhlepneefoaaW.PrintLast Go.Proofs.YtojlhlepneefoaaW.PrintMore
open Go.Shelf
set_option linter.unusedVariables false
set_option linter.unusedSimpArgs false

set_option maxRecDepth 100000 in
set_option maxHeartbeats 8000000 in
theorem tells_walk (v : NV) (w : World) (hv : v.ok w) : Calls Try.prog 7 #[v.val] w fun e w' => e = .returned (.bool true) ∧ Below w.heap.size w w' := by
  obtain ⟨W0, hW0⟩ : ∃ W0, W0 = w.alloc (.cells v.cells.toArray 25) := ⟨_, rfl⟩
  have k0 : Kp [] w W0 := by rw [hW0]; exact (Kp.refl [] w).alloc _
  have hb : W0.heap[w.heap.size]? = some (.cells v.cells.toArray 25 (0, 0)) := by rw [hW0]; exact new_at _ _ _ rfl
  have hv0 := hv.kp k0
  have kk : Below W0.heap.size W0 (w.alloc (.cells v.cells.toArray 25)) := by rw [hW0]; exact Below.refl _ _
  have up : ∀ {W w' : World}, Below W0.heap.size W0 W → Kp [] W w' → Below W0.heap.size W0 w' := fun h k => h.trans (k.bel.mono h.size)
  have CW := Lib.hid (fun W (k : Below W0.heap.size W0 W) => (works_calls W).mono fun e w' ⟨h, q⟩ => (⟨h, up k q⟩ : _ ∧ Below W0.heap.size W0 w'))
  have CG : Hid (∀ (W : World), Below W0.heap.size W0 W → Calls Try.prog 31 #[v.val, .int .i64 300] W fun e w' => e = .returned (.bool (decide (weighP 40 v.n 300 < 0))) ∧ Below W0.heap.size W0 w') := Lib.hid fun W k => by
    obtain ⟨K, hK⟩ := Great_f v.n 300 (by omega)
    have ho := okBelow hv0 k
    exact (burinbook_Great.calls K v.n.f0 v.A1 v.c1 v.n.f1 v.n.f2 v.n.f3 v.n.f4 v.n.f5 v.n.f6 v.A7 v.c7 v.n.f7 300 _ W ho.g1 ho.l1 ho.g7 ho.l7 (hK K (Nat.le_refl _))).mono fun e w' ⟨h, q⟩ => ⟨h, up k (Kp.ofBelow q)⟩
  have bel : ∀ W, Below W0.heap.size W0 W → Below w.heap.size w W := fun W k => k0.bel.trans (k.mono k0.size)
  by_cases hg : weighP 40 v.n 300 < 0
  · rw [decide_eq_true hg] at CG
    clear hg hv0
    obtain ⟨⟨kd, set, num, nm, mn, mx_, lz, subs⟩, A1, c1, A7, c7⟩ := v
    dsimp only [NV.val, NV.cells] at hb kk CG ⊢
    replace hW0 := Lib.hid hW0
    go_enter Try.func7, Try.ntmps7
    go_wp2_with (first | (go_at_call 32; refine (CW.out _ kk).mono ?_; clear CW; rintro e w4 ⟨rfl, kk⟩) | (go_at_call 31; refine (CG.out _ kk).mono ?_; clear CG; rintro e w4 ⟨rfl, kk⟩))
    go_ret
    exact ⟨rfl, bel _ kk⟩
  · obtain ⟨ht, hlen⟩ := Great_no (a := 300) hg
    have hst := hlen 1000 1
    rw [decide_eq_false hg] at CG
    obtain ⟨G, hG⟩ : ∃ G, G = groupsP (stepsL 1000 1 v.n) := ⟨_, rfl⟩
    have hGl : G.length ≤ 1000000 := by have := groupsP_len (stepsL 1000 1 v.n); rw [hG]; omega
    have C41 := Lib.hid (fun W (k : Below W0.heap.size W0 W) => (groups_calls v W (okBelow hv0 k) (by omega)).mono fun e w' ⟨u, h, ho, q⟩ => (⟨u, h, rowBase ho k.size, up k q⟩ : ∃ u, e = Ending.returned u ∧ w'.ownsRow W0.heap.size 9 1 u (groupsP (stepsL 1000 1 v.n)).length ((groupsP (stepsL 1000 1 v.n)).map .string) ∧ Below W0.heap.size W0 w'))
    have C43 := Lib.hid (fun W (k : Below W0.heap.size W0 W) => (rgroups_calls v W (okBelow hv0 k) (by omega)).mono fun e w' ⟨u, h, ho, q⟩ => (⟨u, h, rowBase ho k.size, q, up k q⟩ : ∃ u, e = Ending.returned u ∧ w'.ownsRow W0.heap.size 9 1 u (groupsP (stepsL 1000 1 v.n)).length ((groupsP (stepsL 1000 1 v.n)).map .string) ∧ Kp [] W w' ∧ Below W0.heap.size W0 w'))
    have C38 := Lib.hid (fun W (k : Below W0.heap.size W0 W) => (size_calls v W (okBelow hv0 k) (by omega)).mono fun e w' ⟨h, q⟩ => (⟨h, up k q⟩ : _ ∧ Below W0.heap.size W0 w'))
    have C45 := Lib.hid (fun W (k : Below W0.heap.size W0 W) => (all_calls v W (okBelow hv0 k) (by omega)).mono fun e w' ⟨u, xs, h, hp, ho, q⟩ => (show ∃ A c, e = Ending.returned (.slice A (stepsL 1000 1 v.n).length c) ∧ Below W0.heap.size W0 w' from by
      obtain ⟨A, c, rfl, _⟩ := rowForm ho
      have : xs.length = (stepsL 1000 1 v.n).length := by have := congrArg List.length hp; simpa [proj] using this
      exact ⟨A, c, by rw [h, this], up k q⟩))
    have C39 := Lib.hid (fun W (k : Below W0.heap.size W0 W) => (depth_calls v W (okBelow hv0 k) ht).mono fun e w' ⟨h, q⟩ => (⟨h, up k q⟩ : _ ∧ Below W0.heap.size W0 w'))
    have C46 := Lib.hid (fun W (k : Below W0.heap.size W0 W) => (rdepth_calls v W (okBelow hv0 k) ht).mono fun e w' ⟨h, q⟩ => (⟨h, up k q⟩ : _ ∧ Below W0.heap.size W0 w'))
    have C40 := Lib.hid (fun W (k : Below W0.heap.size W0 W) => (nullable_calls v W (okBelow hv0 k)).mono fun e w' ⟨h, q⟩ => (⟨h, up k q⟩ : _ ∧ Below W0.heap.size W0 w'))
    have C47 := Lib.hid (fun W (k : Below W0.heap.size W0 W) => (rnull_calls v W (okBelow hv0 k) ht).mono fun e w' ⟨h, q⟩ => (⟨h, up k q⟩ : _ ∧ Below W0.heap.size W0 w'))
    obtain ⟨SN, hSN⟩ : ∃ SN : Nat, SN = (stepsL 1000 1 v.n).length := ⟨_, rfl⟩
    obtain ⟨DN, hDN⟩ : ∃ DN, DN = depthP 1001 v.n := ⟨_, rfl⟩
    obtain ⟨NN, hNN⟩ : ∃ NN, NN = nullP 1000 v.n := ⟨_, rfl⟩
    simp only [← hG] at C41 C43
    simp only [← hSN] at C38 C45
    rw [← hDN] at C39 C46
    rw [← hNN] at C40 C47
    clear hSN hDN hNN hG hst ht hlen hg hv0
    obtain ⟨⟨kd, set, num, nm, mn, mx_, lz, subs⟩, A1, c1, A7, c7⟩ := v
    dsimp only [NV.val, NV.cells] at hb kk CG C41 C43 C38 C45 C39 C46 C40 C47 ⊢
    have hbl : w.heap.size < W0.heap.size := ltB hb
    replace hW0 := Lib.hid hW0
    have sOf : ∀ W, Below W0.heap.size W0 W → (Below W0.heap.size W0 W ∧ W.cell? ⟨w.heap.size, 0, none⟩ = some (Value.int .i64 kd) ∧ W.cell? ⟨w.heap.size, 1, none⟩ = some (Value.slice A1 set.length c1) ∧ W.cell? ⟨w.heap.size, 2, none⟩ = some (Value.int .i64 num) ∧ W.cell? ⟨w.heap.size, 3, none⟩ = some (Value.string nm) ∧ W.cell? ⟨w.heap.size, 4, none⟩ = some (Value.int .i64 mn) ∧ W.cell? ⟨w.heap.size, 5, none⟩ = some (Value.int .i64 mx_) ∧ W.cell? ⟨w.heap.size, 6, none⟩ = some (Value.bool lz) ∧ W.cell? ⟨w.heap.size, 7, none⟩ = some (Value.slice A7 subs.length c7)) := fun W k => by
      have h : W.heap[w.heap.size]? = some (.cells #[.int .i64 kd, .slice A1 set.length c1, .int .i64 num, .string nm, .int .i64 mn, .int .i64 mx_, .bool lz, .slice A7 subs.length c7] 25 (0, 0)) := (k.block _ hbl).trans hb
      exact ⟨k, cellB h 0, cellB h 1, cellB h 2, cellB h 3, cellB h 4, cellB h 5, cellB h 6, cellB h 7⟩
    have Y38 := Lib.hid (fun W (h : (Below W0.heap.size W0 W ∧ W.cell? ⟨w.heap.size, 0, none⟩ = some (Value.int .i64 kd) ∧ W.cell? ⟨w.heap.size, 1, none⟩ = some (Value.slice A1 set.length c1) ∧ W.cell? ⟨w.heap.size, 2, none⟩ = some (Value.int .i64 num) ∧ W.cell? ⟨w.heap.size, 3, none⟩ = some (Value.string nm) ∧ W.cell? ⟨w.heap.size, 4, none⟩ = some (Value.int .i64 mn) ∧ W.cell? ⟨w.heap.size, 5, none⟩ = some (Value.int .i64 mx_) ∧ W.cell? ⟨w.heap.size, 6, none⟩ = some (Value.bool lz) ∧ W.cell? ⟨w.heap.size, 7, none⟩ = some (Value.slice A7 subs.length c7))) => (C38.out W h.1).mono (fun e (w' : World) ⟨h, q⟩ => (⟨h, sOf _ q⟩ : _ ∧ (Below W0.heap.size W0 w' ∧ w'.cell? ⟨w.heap.size, 0, none⟩ = some (Value.int .i64 kd) ∧ w'.cell? ⟨w.heap.size, 1, none⟩ = some (Value.slice A1 set.length c1) ∧ w'.cell? ⟨w.heap.size, 2, none⟩ = some (Value.int .i64 num) ∧ w'.cell? ⟨w.heap.size, 3, none⟩ = some (Value.string nm) ∧ w'.cell? ⟨w.heap.size, 4, none⟩ = some (Value.int .i64 mn) ∧ w'.cell? ⟨w.heap.size, 5, none⟩ = some (Value.int .i64 mx_) ∧ w'.cell? ⟨w.heap.size, 6, none⟩ = some (Value.bool lz) ∧ w'.cell? ⟨w.heap.size, 7, none⟩ = some (Value.slice A7 subs.length c7)))))
    have Y39 := Lib.hid (fun W (h : (Below W0.heap.size W0 W ∧ W.cell? ⟨w.heap.size, 0, none⟩ = some (Value.int .i64 kd) ∧ W.cell? ⟨w.heap.size, 1, none⟩ = some (Value.slice A1 set.length c1) ∧ W.cell? ⟨w.heap.size, 2, none⟩ = some (Value.int .i64 num) ∧ W.cell? ⟨w.heap.size, 3, none⟩ = some (Value.string nm) ∧ W.cell? ⟨w.heap.size, 4, none⟩ = some (Value.int .i64 mn) ∧ W.cell? ⟨w.heap.size, 5, none⟩ = some (Value.int .i64 mx_) ∧ W.cell? ⟨w.heap.size, 6, none⟩ = some (Value.bool lz) ∧ W.cell? ⟨w.heap.size, 7, none⟩ = some (Value.slice A7 subs.length c7))) => (C39.out W h.1).mono (fun e (w' : World) ⟨h, q⟩ => (⟨h, sOf _ q⟩ : _ ∧ (Below W0.heap.size W0 w' ∧ w'.cell? ⟨w.heap.size, 0, none⟩ = some (Value.int .i64 kd) ∧ w'.cell? ⟨w.heap.size, 1, none⟩ = some (Value.slice A1 set.length c1) ∧ w'.cell? ⟨w.heap.size, 2, none⟩ = some (Value.int .i64 num) ∧ w'.cell? ⟨w.heap.size, 3, none⟩ = some (Value.string nm) ∧ w'.cell? ⟨w.heap.size, 4, none⟩ = some (Value.int .i64 mn) ∧ w'.cell? ⟨w.heap.size, 5, none⟩ = some (Value.int .i64 mx_) ∧ w'.cell? ⟨w.heap.size, 6, none⟩ = some (Value.bool lz) ∧ w'.cell? ⟨w.heap.size, 7, none⟩ = some (Value.slice A7 subs.length c7)))))
    have Y46 := Lib.hid (fun W (h : (Below W0.heap.size W0 W ∧ W.cell? ⟨w.heap.size, 0, none⟩ = some (Value.int .i64 kd) ∧ W.cell? ⟨w.heap.size, 1, none⟩ = some (Value.slice A1 set.length c1) ∧ W.cell? ⟨w.heap.size, 2, none⟩ = some (Value.int .i64 num) ∧ W.cell? ⟨w.heap.size, 3, none⟩ = some (Value.string nm) ∧ W.cell? ⟨w.heap.size, 4, none⟩ = some (Value.int .i64 mn) ∧ W.cell? ⟨w.heap.size, 5, none⟩ = some (Value.int .i64 mx_) ∧ W.cell? ⟨w.heap.size, 6, none⟩ = some (Value.bool lz) ∧ W.cell? ⟨w.heap.size, 7, none⟩ = some (Value.slice A7 subs.length c7))) => (C46.out W h.1).mono (fun e (w' : World) ⟨h, q⟩ => (⟨h, sOf _ q⟩ : _ ∧ (Below W0.heap.size W0 w' ∧ w'.cell? ⟨w.heap.size, 0, none⟩ = some (Value.int .i64 kd) ∧ w'.cell? ⟨w.heap.size, 1, none⟩ = some (Value.slice A1 set.length c1) ∧ w'.cell? ⟨w.heap.size, 2, none⟩ = some (Value.int .i64 num) ∧ w'.cell? ⟨w.heap.size, 3, none⟩ = some (Value.string nm) ∧ w'.cell? ⟨w.heap.size, 4, none⟩ = some (Value.int .i64 mn) ∧ w'.cell? ⟨w.heap.size, 5, none⟩ = some (Value.int .i64 mx_) ∧ w'.cell? ⟨w.heap.size, 6, none⟩ = some (Value.bool lz) ∧ w'.cell? ⟨w.heap.size, 7, none⟩ = some (Value.slice A7 subs.length c7)))))
    have Y40 := Lib.hid (fun W (h : (Below W0.heap.size W0 W ∧ W.cell? ⟨w.heap.size, 0, none⟩ = some (Value.int .i64 kd) ∧ W.cell? ⟨w.heap.size, 1, none⟩ = some (Value.slice A1 set.length c1) ∧ W.cell? ⟨w.heap.size, 2, none⟩ = some (Value.int .i64 num) ∧ W.cell? ⟨w.heap.size, 3, none⟩ = some (Value.string nm) ∧ W.cell? ⟨w.heap.size, 4, none⟩ = some (Value.int .i64 mn) ∧ W.cell? ⟨w.heap.size, 5, none⟩ = some (Value.int .i64 mx_) ∧ W.cell? ⟨w.heap.size, 6, none⟩ = some (Value.bool lz) ∧ W.cell? ⟨w.heap.size, 7, none⟩ = some (Value.slice A7 subs.length c7))) => (C40.out W h.1).mono (fun e (w' : World) ⟨h, q⟩ => (⟨h, sOf _ q⟩ : _ ∧ (Below W0.heap.size W0 w' ∧ w'.cell? ⟨w.heap.size, 0, none⟩ = some (Value.int .i64 kd) ∧ w'.cell? ⟨w.heap.size, 1, none⟩ = some (Value.slice A1 set.length c1) ∧ w'.cell? ⟨w.heap.size, 2, none⟩ = some (Value.int .i64 num) ∧ w'.cell? ⟨w.heap.size, 3, none⟩ = some (Value.string nm) ∧ w'.cell? ⟨w.heap.size, 4, none⟩ = some (Value.int .i64 mn) ∧ w'.cell? ⟨w.heap.size, 5, none⟩ = some (Value.int .i64 mx_) ∧ w'.cell? ⟨w.heap.size, 6, none⟩ = some (Value.bool lz) ∧ w'.cell? ⟨w.heap.size, 7, none⟩ = some (Value.slice A7 subs.length c7)))))
    have Y47 := Lib.hid (fun W (h : (Below W0.heap.size W0 W ∧ W.cell? ⟨w.heap.size, 0, none⟩ = some (Value.int .i64 kd) ∧ W.cell? ⟨w.heap.size, 1, none⟩ = some (Value.slice A1 set.length c1) ∧ W.cell? ⟨w.heap.size, 2, none⟩ = some (Value.int .i64 num) ∧ W.cell? ⟨w.heap.size, 3, none⟩ = some (Value.string nm) ∧ W.cell? ⟨w.heap.size, 4, none⟩ = some (Value.int .i64 mn) ∧ W.cell? ⟨w.heap.size, 5, none⟩ = some (Value.int .i64 mx_) ∧ W.cell? ⟨w.heap.size, 6, none⟩ = some (Value.bool lz) ∧ W.cell? ⟨w.heap.size, 7, none⟩ = some (Value.slice A7 subs.length c7))) => (C47.out W h.1).mono (fun e (w' : World) ⟨h, q⟩ => (⟨h, sOf _ q⟩ : _ ∧ (Below W0.heap.size W0 w' ∧ w'.cell? ⟨w.heap.size, 0, none⟩ = some (Value.int .i64 kd) ∧ w'.cell? ⟨w.heap.size, 1, none⟩ = some (Value.slice A1 set.length c1) ∧ w'.cell? ⟨w.heap.size, 2, none⟩ = some (Value.int .i64 num) ∧ w'.cell? ⟨w.heap.size, 3, none⟩ = some (Value.string nm) ∧ w'.cell? ⟨w.heap.size, 4, none⟩ = some (Value.int .i64 mn) ∧ w'.cell? ⟨w.heap.size, 5, none⟩ = some (Value.int .i64 mx_) ∧ w'.cell? ⟨w.heap.size, 6, none⟩ = some (Value.bool lz) ∧ w'.cell? ⟨w.heap.size, 7, none⟩ = some (Value.slice A7 subs.length c7)))))
    have Y45 := Lib.hid (fun W (h : (Below W0.heap.size W0 W ∧ W.cell? ⟨w.heap.size, 0, none⟩ = some (Value.int .i64 kd) ∧ W.cell? ⟨w.heap.size, 1, none⟩ = some (Value.slice A1 set.length c1) ∧ W.cell? ⟨w.heap.size, 2, none⟩ = some (Value.int .i64 num) ∧ W.cell? ⟨w.heap.size, 3, none⟩ = some (Value.string nm) ∧ W.cell? ⟨w.heap.size, 4, none⟩ = some (Value.int .i64 mn) ∧ W.cell? ⟨w.heap.size, 5, none⟩ = some (Value.int .i64 mx_) ∧ W.cell? ⟨w.heap.size, 6, none⟩ = some (Value.bool lz) ∧ W.cell? ⟨w.heap.size, 7, none⟩ = some (Value.slice A7 subs.length c7))) => (C45.out W h.1).mono (fun e (w' : World) ⟨A, c, h, q⟩ => (⟨A, c, h, sOf _ q⟩ : ∃ A c, e = Ending.returned (.slice A SN c) ∧ (Below W0.heap.size W0 w' ∧ w'.cell? ⟨w.heap.size, 0, none⟩ = some (Value.int .i64 kd) ∧ w'.cell? ⟨w.heap.size, 1, none⟩ = some (Value.slice A1 set.length c1) ∧ w'.cell? ⟨w.heap.size, 2, none⟩ = some (Value.int .i64 num) ∧ w'.cell? ⟨w.heap.size, 3, none⟩ = some (Value.string nm) ∧ w'.cell? ⟨w.heap.size, 4, none⟩ = some (Value.int .i64 mn) ∧ w'.cell? ⟨w.heap.size, 5, none⟩ = some (Value.int .i64 mx_) ∧ w'.cell? ⟨w.heap.size, 6, none⟩ = some (Value.bool lz) ∧ w'.cell? ⟨w.heap.size, 7, none⟩ = some (Value.slice A7 subs.length c7)))))
    have Y32 := Lib.hid (fun W (h : (Below W0.heap.size W0 W ∧ W.cell? ⟨w.heap.size, 0, none⟩ = some (Value.int .i64 kd) ∧ W.cell? ⟨w.heap.size, 1, none⟩ = some (Value.slice A1 set.length c1) ∧ W.cell? ⟨w.heap.size, 2, none⟩ = some (Value.int .i64 num) ∧ W.cell? ⟨w.heap.size, 3, none⟩ = some (Value.string nm) ∧ W.cell? ⟨w.heap.size, 4, none⟩ = some (Value.int .i64 mn) ∧ W.cell? ⟨w.heap.size, 5, none⟩ = some (Value.int .i64 mx_) ∧ W.cell? ⟨w.heap.size, 6, none⟩ = some (Value.bool lz) ∧ W.cell? ⟨w.heap.size, 7, none⟩ = some (Value.slice A7 subs.length c7))) => (CW.out W h.1).mono (fun e (w' : World) ⟨h, q⟩ => (⟨h, sOf _ q⟩ : _ ∧ (Below W0.heap.size W0 w' ∧ w'.cell? ⟨w.heap.size, 0, none⟩ = some (Value.int .i64 kd) ∧ w'.cell? ⟨w.heap.size, 1, none⟩ = some (Value.slice A1 set.length c1) ∧ w'.cell? ⟨w.heap.size, 2, none⟩ = some (Value.int .i64 num) ∧ w'.cell? ⟨w.heap.size, 3, none⟩ = some (Value.string nm) ∧ w'.cell? ⟨w.heap.size, 4, none⟩ = some (Value.int .i64 mn) ∧ w'.cell? ⟨w.heap.size, 5, none⟩ = some (Value.int .i64 mx_) ∧ w'.cell? ⟨w.heap.size, 6, none⟩ = some (Value.bool lz) ∧ w'.cell? ⟨w.heap.size, 7, none⟩ = some (Value.slice A7 subs.length c7)))))
    clear C38 C39 C46 C40 C47 C45 CW
    replace sOf := Lib.hid sOf
    replace hb := Lib.hid hb
    go_enter Try.func7, Try.ntmps7
    go_wp2_with (first
      | (go_at_call 31; refine (CG.out _ kk).mono ?_; clear CG; rintro e w4 ⟨rfl, kk⟩; have s0 := sOf.out _ kk; have z0 : w4.cell? ⟨w.heap.size, 0, none⟩ = some (Value.int .i64 kd) := (s0).2.1; have z1 : w4.cell? ⟨w.heap.size, 1, none⟩ = some (Value.slice A1 set.length c1) := (s0).2.2.1; have z2 : w4.cell? ⟨w.heap.size, 2, none⟩ = some (Value.int .i64 num) := (s0).2.2.2.1; have z3 : w4.cell? ⟨w.heap.size, 3, none⟩ = some (Value.string nm) := (s0).2.2.2.2.1; have z4 : w4.cell? ⟨w.heap.size, 4, none⟩ = some (Value.int .i64 mn) := (s0).2.2.2.2.2.1; have z5 : w4.cell? ⟨w.heap.size, 5, none⟩ = some (Value.int .i64 mx_) := (s0).2.2.2.2.2.2.1; have z6 : w4.cell? ⟨w.heap.size, 6, none⟩ = some (Value.bool lz) := (s0).2.2.2.2.2.2.2.1; have z7 : w4.cell? ⟨w.heap.size, 7, none⟩ = some (Value.slice A7 subs.length c7) := (s0).2.2.2.2.2.2.2.2)
      | (go_at_call 41; refine (C41.out _ kk).mono ?_; clear C41; rintro e w5 ⟨u1, rfl, ho1, kk⟩; have s0 := sOf.out _ kk; have z0 : w5.cell? ⟨w.heap.size, 0, none⟩ = some (Value.int .i64 kd) := (s0).2.1; have z1 : w5.cell? ⟨w.heap.size, 1, none⟩ = some (Value.slice A1 set.length c1) := (s0).2.2.1; have z2 : w5.cell? ⟨w.heap.size, 2, none⟩ = some (Value.int .i64 num) := (s0).2.2.2.1; have z3 : w5.cell? ⟨w.heap.size, 3, none⟩ = some (Value.string nm) := (s0).2.2.2.2.1; have z4 : w5.cell? ⟨w.heap.size, 4, none⟩ = some (Value.int .i64 mn) := (s0).2.2.2.2.2.1; have z5 : w5.cell? ⟨w.heap.size, 5, none⟩ = some (Value.int .i64 mx_) := (s0).2.2.2.2.2.2.1; have z6 : w5.cell? ⟨w.heap.size, 6, none⟩ = some (Value.bool lz) := (s0).2.2.2.2.2.2.2.1; have z7 : w5.cell? ⟨w.heap.size, 7, none⟩ = some (Value.slice A7 subs.length c7) := (s0).2.2.2.2.2.2.2.2)
      | (go_at_call 43; refine (C43.out _ kk).mono ?_; clear C43; rintro e w6 ⟨u2, rfl, ho2, k56, kk⟩; replace ho1 := rowKp ho1 k56)
      | (go_at_call 42; refine (same_calls _ _ G hGl _ _ _ ho1 ho2).mono ?_; rintro e w7 ⟨rfl, k67⟩; replace ho1 := rowKp ho1 k67; replace kk := up kk k67)
      | (go_at_call 44; refine (spoil_calls _ _ _ _ _ ho1).mono ?_; rintro e w8 ⟨rfl, k78⟩; replace kk := Below.trans kk k78; have s0 := sOf.out _ kk))
    go_region_held3 (fun (w' : World) => (Below W0.heap.size W0 w' ∧ w'.cell? ⟨w.heap.size, 0, none⟩ = some (Value.int .i64 kd) ∧ w'.cell? ⟨w.heap.size, 1, none⟩ = some (Value.slice A1 set.length c1) ∧ w'.cell? ⟨w.heap.size, 2, none⟩ = some (Value.int .i64 num) ∧ w'.cell? ⟨w.heap.size, 3, none⟩ = some (Value.string nm) ∧ w'.cell? ⟨w.heap.size, 4, none⟩ = some (Value.int .i64 mn) ∧ w'.cell? ⟨w.heap.size, 5, none⟩ = some (Value.int .i64 mx_) ∧ w'.cell? ⟨w.heap.size, 6, none⟩ = some (Value.bool lz) ∧ w'.cell? ⟨w.heap.size, 7, none⟩ = some (Value.slice A7 subs.length c7))) (first | assumption | exact ⟨below_drew (And.left (by assumption)), And.right (by assumption)⟩)
      (first
       | (go_at_call 38; refine (Y38.out _ (by assumption)).mono ?_; clear Y38; rintro e wA ⟨rfl, sA⟩)
       | (go_at_call 45; refine (Y45.out _ (by assumption)).mono ?_; clear Y45; rintro e wB ⟨A9, c9, rfl, sB⟩)
       | (go_at_call 39; refine (Y39.out _ (by assumption)).mono ?_; clear Y39; rintro e wC ⟨rfl, sC⟩)
       | (go_at_call 46; refine (Y46.out _ (by assumption)).mono ?_; clear Y46; rintro e wD ⟨rfl, sD⟩)
       | (go_at_call 40; refine (Y40.out _ (by assumption)).mono ?_; clear Y40; rintro e wE ⟨rfl, sE⟩)
       | (go_at_call 47; refine (Y47.out _ (by assumption)).mono ?_; clear Y47; rintro e wF ⟨rfl, sF⟩)
       | (go_at_call 32; refine (Y32.out _ (by assumption)).mono ?_; clear Y32; rintro e wG ⟨rfl, sG⟩))
    all_goals
      go_wp2_with fail
      go_ret
      exact ⟨rfl, bel _ (And.left (by assumption))⟩
theorem tells_row (W : World) (x : NV) (h : x.ok W) : Calls Try.prog 7 #[x.val] W fun e w' => e = .returned (.bool true) ∧ Below W.heap.size W w' := tells_walk x W h

end Go.Proofs.Ytojlhlepneefoaa
