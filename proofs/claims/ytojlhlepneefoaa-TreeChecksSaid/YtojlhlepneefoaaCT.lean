/- The law TreeChecks, walked. -/
import Derived.Test.YtojlhlepneefoaaCK
import Derived.Test.YtojlhlepneefoaaO
import Derived.Test.YtojlhlepneefoaaPAllx7
namespace Go.Proofs.Ytojlhlepneefoaa
open Go.RowKit PAll Go.Proofs.YtojlhlepneefoaaW.PrintWords Go.Proofs.YtojlhlepneefoaaW.PrintLast Go.Proofs.YtojlhlepneefoaaW.PrintMore
open Go.Shelf
set_option linter.unusedVariables false
set_option linter.unusedSimpArgs false

set_option maxRecDepth 100000 in
set_option maxHeartbeats 8000000 in
theorem checks_walk (v : NV) (nmx : ByteArray) (w : World) (hv : v.ok w) (hs : nmx.size ≤ 140737488351232) : Calls Try.prog 5 #[v.val, .string nmx] w fun e w' => e = .returned (.bool true) ∧ Below w.heap.size w w' := by
  obtain ⟨W0, hW0⟩ : ∃ W0, W0 = w.alloc (.cells v.cells.toArray 25) := ⟨_, rfl⟩
  have k0 : Kp [] w W0 := by rw [hW0]; exact (Kp.refl [] w).alloc _
  have hb : W0.heap[w.heap.size]? = some (.cells v.cells.toArray 25 (0, 0)) := by rw [hW0]; exact new_at _ _ _ rfl
  have hv0 := hv.kp k0
  have kk : Kp [] W0 (w.alloc (.cells v.cells.toArray 25)) := by rw [hW0]; exact Kp.refl _ _
  have CW := Lib.hid (fun W (k : Kp [] W0 W) => (works_calls W).mono fun e w' ⟨h, q⟩ => (⟨h, k.trans q⟩ : _ ∧ Kp [] W0 w'))
  have CG : Hid (∀ (W : World), Kp [] W0 W → Calls Try.prog 31 #[v.val, .int .i64 300] W fun e w' => e = .returned (.bool (decide (weighP 40 v.n 300 < 0))) ∧ Kp [] W0 w') := Lib.hid fun W k => by
    obtain ⟨K, hK⟩ := Great_f v.n 300 (by omega)
    have ho := hv0.kp k
    exact (burinbook_Great.calls K v.n.f0 v.A1 v.c1 v.n.f1 v.n.f2 v.n.f3 v.n.f4 v.n.f5 v.n.f6 v.A7 v.c7 v.n.f7 300 _ W ho.g1 ho.l1 ho.g7 ho.l7 (hK K (Nat.le_refl _))).mono fun e w' ⟨h, q⟩ => ⟨h, k.trans (Kp.ofBelow q)⟩
  have bel : ∀ W, Kp [] W0 W → Below w.heap.size w W := fun W k => (k0.trans k).bel
  by_cases hg : weighP 40 v.n 300 < 0
  · rw [decide_eq_true hg] at CG
    clear hg hv0
    obtain ⟨⟨kd, set, num, nm, mn, mx_, lz, subs⟩, A1, c1, A7, c7⟩ := v
    dsimp only [NV.val, NV.cells] at hb kk CG ⊢
    replace hW0 := Lib.hid hW0
    go_enter Try.func5, Try.ntmps5
    go_wp2_with (first | (go_at_call 32; refine (CW.out _ kk).mono ?_; clear CW; rintro e w4 ⟨rfl, kk⟩) | (go_at_call 31; refine (CG.out _ kk).mono ?_; clear CG; rintro e w4 ⟨rfl, kk⟩))
    go_ret
    exact ⟨rfl, bel _ kk⟩
  · obtain ⟨ht, hlen⟩ := Great_no (a := 300) hg
    have hst := hlen 1000 1
    rw [decide_eq_false hg] at CG
    have C24 := Lib.hid (fun W (k : Kp [] W0 W) => (check_calls v W (hv0.kp k) ht (by omega)).mono fun e w' ⟨h, q⟩ => (⟨h, k.trans q⟩ : _ ∧ Kp [] W0 w'))
    have C33 := Lib.hid (fun W (k : Kp [] W0 W) => (rcheck_calls v W (hv0.kp k) ht (by omega)).mono fun e w' ⟨h, q⟩ => (⟨h, k.trans q⟩ : _ ∧ Kp [] W0 w'))
    have C34 : Hid (∀ (W : World), Kp [] W0 W → Calls Try.prog 34 #[.string nmx] W fun e w' => e = .returned (.bool (nameB nmx.data.toList)) ∧ Kp [] W0 w') := Lib.hid fun W k => (name_calls nmx.data.toList W).mono fun e w' ⟨h, q⟩ => ⟨h, k.trans q⟩
    have C35 := Lib.hid (fun W (k : Kp [] W0 W) => (rname_calls nmx (by omega) W).mono fun e w' ⟨h, q⟩ => (⟨h, k.trans q⟩ : _ ∧ Kp [] W0 w'))
    obtain ⟨CN, hCN⟩ : ∃ CN, CN = checkV v.n := ⟨_, rfl⟩
    rw [← hCN] at C24 C33
    obtain ⟨NB, hNB⟩ : ∃ NB, NB = nameB nmx.data.toList := ⟨_, rfl⟩
    rw [← hNB] at C34 C35
    clear hCN hNB hst ht hlen hg hv0
    obtain ⟨⟨kd, set, num, nm, mn, mx_, lz, subs⟩, A1, c1, A7, c7⟩ := v
    dsimp only [NV.val, NV.cells] at hb kk CG C24 C33 ⊢
    replace hW0 := Lib.hid hW0
    have sOf : ∀ W, Kp [] W0 W → (Kp [] W0 W ∧ W.cell? ⟨w.heap.size, 0, none⟩ = some (Value.int .i64 kd) ∧ W.cell? ⟨w.heap.size, 1, none⟩ = some (Value.slice A1 set.length c1) ∧ W.cell? ⟨w.heap.size, 2, none⟩ = some (Value.int .i64 num) ∧ W.cell? ⟨w.heap.size, 3, none⟩ = some (Value.string nm) ∧ W.cell? ⟨w.heap.size, 4, none⟩ = some (Value.int .i64 mn) ∧ W.cell? ⟨w.heap.size, 5, none⟩ = some (Value.int .i64 mx_) ∧ W.cell? ⟨w.heap.size, 6, none⟩ = some (Value.bool lz) ∧ W.cell? ⟨w.heap.size, 7, none⟩ = some (Value.slice A7 subs.length c7)) := fun W k => ⟨k, cellB (kblk k hb) 0, cellB (kblk k hb) 1, cellB (kblk k hb) 2, cellB (kblk k hb) 3, cellB (kblk k hb) 4, cellB (kblk k hb) 5, cellB (kblk k hb) 6, cellB (kblk k hb) 7⟩
    have Y24 := Lib.hid (fun W (h : (Kp [] W0 W ∧ W.cell? ⟨w.heap.size, 0, none⟩ = some (Value.int .i64 kd) ∧ W.cell? ⟨w.heap.size, 1, none⟩ = some (Value.slice A1 set.length c1) ∧ W.cell? ⟨w.heap.size, 2, none⟩ = some (Value.int .i64 num) ∧ W.cell? ⟨w.heap.size, 3, none⟩ = some (Value.string nm) ∧ W.cell? ⟨w.heap.size, 4, none⟩ = some (Value.int .i64 mn) ∧ W.cell? ⟨w.heap.size, 5, none⟩ = some (Value.int .i64 mx_) ∧ W.cell? ⟨w.heap.size, 6, none⟩ = some (Value.bool lz) ∧ W.cell? ⟨w.heap.size, 7, none⟩ = some (Value.slice A7 subs.length c7))) => (C24.out W h.1).mono (fun e (w' : World) ⟨h, q⟩ => (⟨h, sOf _ q⟩ : _ ∧ (Kp [] W0 w' ∧ w'.cell? ⟨w.heap.size, 0, none⟩ = some (Value.int .i64 kd) ∧ w'.cell? ⟨w.heap.size, 1, none⟩ = some (Value.slice A1 set.length c1) ∧ w'.cell? ⟨w.heap.size, 2, none⟩ = some (Value.int .i64 num) ∧ w'.cell? ⟨w.heap.size, 3, none⟩ = some (Value.string nm) ∧ w'.cell? ⟨w.heap.size, 4, none⟩ = some (Value.int .i64 mn) ∧ w'.cell? ⟨w.heap.size, 5, none⟩ = some (Value.int .i64 mx_) ∧ w'.cell? ⟨w.heap.size, 6, none⟩ = some (Value.bool lz) ∧ w'.cell? ⟨w.heap.size, 7, none⟩ = some (Value.slice A7 subs.length c7)))))
    have Y33 := Lib.hid (fun W (h : (Kp [] W0 W ∧ W.cell? ⟨w.heap.size, 0, none⟩ = some (Value.int .i64 kd) ∧ W.cell? ⟨w.heap.size, 1, none⟩ = some (Value.slice A1 set.length c1) ∧ W.cell? ⟨w.heap.size, 2, none⟩ = some (Value.int .i64 num) ∧ W.cell? ⟨w.heap.size, 3, none⟩ = some (Value.string nm) ∧ W.cell? ⟨w.heap.size, 4, none⟩ = some (Value.int .i64 mn) ∧ W.cell? ⟨w.heap.size, 5, none⟩ = some (Value.int .i64 mx_) ∧ W.cell? ⟨w.heap.size, 6, none⟩ = some (Value.bool lz) ∧ W.cell? ⟨w.heap.size, 7, none⟩ = some (Value.slice A7 subs.length c7))) => (C33.out W h.1).mono (fun e (w' : World) ⟨h, q⟩ => (⟨h, sOf _ q⟩ : _ ∧ (Kp [] W0 w' ∧ w'.cell? ⟨w.heap.size, 0, none⟩ = some (Value.int .i64 kd) ∧ w'.cell? ⟨w.heap.size, 1, none⟩ = some (Value.slice A1 set.length c1) ∧ w'.cell? ⟨w.heap.size, 2, none⟩ = some (Value.int .i64 num) ∧ w'.cell? ⟨w.heap.size, 3, none⟩ = some (Value.string nm) ∧ w'.cell? ⟨w.heap.size, 4, none⟩ = some (Value.int .i64 mn) ∧ w'.cell? ⟨w.heap.size, 5, none⟩ = some (Value.int .i64 mx_) ∧ w'.cell? ⟨w.heap.size, 6, none⟩ = some (Value.bool lz) ∧ w'.cell? ⟨w.heap.size, 7, none⟩ = some (Value.slice A7 subs.length c7)))))
    have Y34 := Lib.hid (fun W (h : (Kp [] W0 W ∧ W.cell? ⟨w.heap.size, 0, none⟩ = some (Value.int .i64 kd) ∧ W.cell? ⟨w.heap.size, 1, none⟩ = some (Value.slice A1 set.length c1) ∧ W.cell? ⟨w.heap.size, 2, none⟩ = some (Value.int .i64 num) ∧ W.cell? ⟨w.heap.size, 3, none⟩ = some (Value.string nm) ∧ W.cell? ⟨w.heap.size, 4, none⟩ = some (Value.int .i64 mn) ∧ W.cell? ⟨w.heap.size, 5, none⟩ = some (Value.int .i64 mx_) ∧ W.cell? ⟨w.heap.size, 6, none⟩ = some (Value.bool lz) ∧ W.cell? ⟨w.heap.size, 7, none⟩ = some (Value.slice A7 subs.length c7))) => (C34.out W h.1).mono (fun e (w' : World) ⟨h, q⟩ => (⟨h, sOf _ q⟩ : _ ∧ (Kp [] W0 w' ∧ w'.cell? ⟨w.heap.size, 0, none⟩ = some (Value.int .i64 kd) ∧ w'.cell? ⟨w.heap.size, 1, none⟩ = some (Value.slice A1 set.length c1) ∧ w'.cell? ⟨w.heap.size, 2, none⟩ = some (Value.int .i64 num) ∧ w'.cell? ⟨w.heap.size, 3, none⟩ = some (Value.string nm) ∧ w'.cell? ⟨w.heap.size, 4, none⟩ = some (Value.int .i64 mn) ∧ w'.cell? ⟨w.heap.size, 5, none⟩ = some (Value.int .i64 mx_) ∧ w'.cell? ⟨w.heap.size, 6, none⟩ = some (Value.bool lz) ∧ w'.cell? ⟨w.heap.size, 7, none⟩ = some (Value.slice A7 subs.length c7)))))
    have Y35 := Lib.hid (fun W (h : (Kp [] W0 W ∧ W.cell? ⟨w.heap.size, 0, none⟩ = some (Value.int .i64 kd) ∧ W.cell? ⟨w.heap.size, 1, none⟩ = some (Value.slice A1 set.length c1) ∧ W.cell? ⟨w.heap.size, 2, none⟩ = some (Value.int .i64 num) ∧ W.cell? ⟨w.heap.size, 3, none⟩ = some (Value.string nm) ∧ W.cell? ⟨w.heap.size, 4, none⟩ = some (Value.int .i64 mn) ∧ W.cell? ⟨w.heap.size, 5, none⟩ = some (Value.int .i64 mx_) ∧ W.cell? ⟨w.heap.size, 6, none⟩ = some (Value.bool lz) ∧ W.cell? ⟨w.heap.size, 7, none⟩ = some (Value.slice A7 subs.length c7))) => (C35.out W h.1).mono (fun e (w' : World) ⟨h, q⟩ => (⟨h, sOf _ q⟩ : _ ∧ (Kp [] W0 w' ∧ w'.cell? ⟨w.heap.size, 0, none⟩ = some (Value.int .i64 kd) ∧ w'.cell? ⟨w.heap.size, 1, none⟩ = some (Value.slice A1 set.length c1) ∧ w'.cell? ⟨w.heap.size, 2, none⟩ = some (Value.int .i64 num) ∧ w'.cell? ⟨w.heap.size, 3, none⟩ = some (Value.string nm) ∧ w'.cell? ⟨w.heap.size, 4, none⟩ = some (Value.int .i64 mn) ∧ w'.cell? ⟨w.heap.size, 5, none⟩ = some (Value.int .i64 mx_) ∧ w'.cell? ⟨w.heap.size, 6, none⟩ = some (Value.bool lz) ∧ w'.cell? ⟨w.heap.size, 7, none⟩ = some (Value.slice A7 subs.length c7)))))
    have Y32 := Lib.hid (fun W (h : (Kp [] W0 W ∧ W.cell? ⟨w.heap.size, 0, none⟩ = some (Value.int .i64 kd) ∧ W.cell? ⟨w.heap.size, 1, none⟩ = some (Value.slice A1 set.length c1) ∧ W.cell? ⟨w.heap.size, 2, none⟩ = some (Value.int .i64 num) ∧ W.cell? ⟨w.heap.size, 3, none⟩ = some (Value.string nm) ∧ W.cell? ⟨w.heap.size, 4, none⟩ = some (Value.int .i64 mn) ∧ W.cell? ⟨w.heap.size, 5, none⟩ = some (Value.int .i64 mx_) ∧ W.cell? ⟨w.heap.size, 6, none⟩ = some (Value.bool lz) ∧ W.cell? ⟨w.heap.size, 7, none⟩ = some (Value.slice A7 subs.length c7))) => (CW.out W h.1).mono (fun e (w' : World) ⟨h, q⟩ => (⟨h, sOf _ q⟩ : _ ∧ (Kp [] W0 w' ∧ w'.cell? ⟨w.heap.size, 0, none⟩ = some (Value.int .i64 kd) ∧ w'.cell? ⟨w.heap.size, 1, none⟩ = some (Value.slice A1 set.length c1) ∧ w'.cell? ⟨w.heap.size, 2, none⟩ = some (Value.int .i64 num) ∧ w'.cell? ⟨w.heap.size, 3, none⟩ = some (Value.string nm) ∧ w'.cell? ⟨w.heap.size, 4, none⟩ = some (Value.int .i64 mn) ∧ w'.cell? ⟨w.heap.size, 5, none⟩ = some (Value.int .i64 mx_) ∧ w'.cell? ⟨w.heap.size, 6, none⟩ = some (Value.bool lz) ∧ w'.cell? ⟨w.heap.size, 7, none⟩ = some (Value.slice A7 subs.length c7)))))
    clear C24 C33 C34 C35 CW
    replace sOf := Lib.hid sOf
    replace hb := Lib.hid hb
    go_enter Try.func5, Try.ntmps5
    go_wp2_with (first | (go_at_call 31; refine (CG.out _ kk).mono ?_; clear CG; rintro e w4 ⟨rfl, kk⟩; have s0 := sOf.out _ kk))
    go_region_held3 (fun (w' : World) => (Kp [] W0 w' ∧ w'.cell? ⟨w.heap.size, 0, none⟩ = some (Value.int .i64 kd) ∧ w'.cell? ⟨w.heap.size, 1, none⟩ = some (Value.slice A1 set.length c1) ∧ w'.cell? ⟨w.heap.size, 2, none⟩ = some (Value.int .i64 num) ∧ w'.cell? ⟨w.heap.size, 3, none⟩ = some (Value.string nm) ∧ w'.cell? ⟨w.heap.size, 4, none⟩ = some (Value.int .i64 mn) ∧ w'.cell? ⟨w.heap.size, 5, none⟩ = some (Value.int .i64 mx_) ∧ w'.cell? ⟨w.heap.size, 6, none⟩ = some (Value.bool lz) ∧ w'.cell? ⟨w.heap.size, 7, none⟩ = some (Value.slice A7 subs.length c7))) (first | assumption | exact ⟨Kp.drew (And.left (by assumption)), And.right (by assumption)⟩)
      (first
       | (go_at_call 24; refine (Y24.out _ (by assumption)).mono ?_; clear Y24; rintro e wA ⟨rfl, sA⟩)
       | (go_at_call 33; refine (Y33.out _ (by assumption)).mono ?_; clear Y33; rintro e wB ⟨rfl, sB⟩)
       | (go_at_call 34; refine (Y34.out _ (by assumption)).mono ?_; clear Y34; rintro e wC ⟨rfl, sC⟩)
       | (go_at_call 35; refine (Y35.out _ (by assumption)).mono ?_; clear Y35; rintro e wD ⟨rfl, sD⟩)
       | (go_at_call 32; refine (Y32.out _ (by assumption)).mono ?_; clear Y32; rintro e wE ⟨rfl, sE⟩))
    all_goals
      go_wp2_with fail
      go_ret
      exact ⟨rfl, bel _ (And.left (by assumption))⟩
theorem checks_row (W : World) (x : NV) (s : ByteArray) (h : x.ok W) (hs : s.size ≤ 140737488351232) : Calls Try.prog 5 #[x.val, .string s] W fun e w' => e = .returned (.bool true) ∧ Below W.heap.size W w' := checks_walk x s W h hs

end Go.Proofs.Ytojlhlepneefoaa
