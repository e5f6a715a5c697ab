/- Package wire: the chapter's example. -/
import Derived.Test.YtkjkkebaafmheaaN
import Derived.Test.YtkjkkebaafmheaaPWireCodesx10
namespace Go.Proofs.Ytkjkkebaafmheaa
open Go.RowKit PWireCodes Go.Proofs.YtkjkkebaafmheaaW.PrintWords Go.Proofs.YtkjkkebaafmheaaW.PrintLast Go.Proofs.YtkjkkebaafmheaaW.PrintMore
open Go.Shelf
set_option linter.unusedVariables false
set_option linter.unusedSimpArgs false
def L0 : List S40 := [⟨2, 0, 0, 300, 1⟩, ⟨5, 0, 0, 0, 0⟩]
def B0 : List UInt8 := [66, 82, 49, 0, 2, 2, 2, 172, 2, 1, 5, 137]
theorem L0_check : checkB L0 0 2 = 0 := by decide
theorem L0_written : writtenL L0 0 2 = B0 := by decide +kernel
theorem L0_enc : encS L0 0 2 = (⟨B0.toArray⟩, 0) := by rw [encS, if_pos L0_check, L0_written]
theorem B0_dec : decP B0 = some (L0, 0, 2) := (decP_iff _ _ _ _).2 ⟨L0_check, L0_written⟩
theorem BR_dec : decP [66, 82, 49] = none := by rw [decP, if_pos (by decide)]
theorem L0_same : burinbook_SameProg.f 9 L0 0 2 L0 0 2 = some true := by decide +kernel
theorem C_two {w : World} {b : Nat} {t : TypeId} {fz : Nat × Nat} {x y : S40} (h : w.heap[b]? = some (.cells #[.int .i64 x.f0, .int .i64 x.f1, .int .i64 x.f2, .int .i64 x.f3, .int .i64 x.f4, .int .i64 y.f0, .int .i64 y.f1, .int .i64 y.f2, .int .i64 y.f3, .int .i64 y.f4] t fz)) :
    Kd.C k40 w (some ⟨b, 0, none⟩) 2 [x, y] := by
  refine ⟨rfl, by omega, fun _ => ⟨_, rfl, fun j p hp => ?_⟩⟩
  have hj : j < 2 := (List.getElem?_eq_some_iff.1 hp).1
  obtain rfl | rfl : j = 0 ∨ j = 1 := by omega
  · obtain rfl : x = p := by simpa using hp
    refine ⟨_, rfl, k40_mk w x, fun i u hu => ?_⟩
    have hi : i < 5 := (List.getElem?_eq_some_iff.1 hu).1
    rw [addNone, cellB h]
    obtain rfl | rfl | rfl | rfl | rfl : i = 0 ∨ i = 1 ∨ i = 2 ∨ i = 3 ∨ i = 4 := by omega
    all_goals exact hu
  · obtain rfl : y = p := by simpa using hp
    refine ⟨_, rfl, k40_mk w y, fun i u hu => ?_⟩
    have hi : i < 5 := (List.getElem?_eq_some_iff.1 hu).1
    rw [addNone, cellB h]
    obtain rfl | rfl | rfl | rfl | rfl : i = 0 ∨ i = 1 ∨ i = 2 ∨ i = 3 ∨ i = 4 := by omega
    all_goals exact hu
theorem w_enc (A : Option Addr) (c : Nat) (hc : 2 ≤ c) (W : World) (h : Kd.C k40 W A 2 L0) : Calls Try.prog 8 #[.agg #[.slice A 2 c, .int .i64 0, .int .i64 2]] W fun e w' => e = .returned (.tuple #[.string ⟨#[66, 82, 49, 0, 2, 2, 2, 172, 2, 1, 5, 137]⟩, .int .i64 0]) ∧ Kp [] W w' := by
  have := encode_calls A c L0 0 2 W h hc
  rw [L0_enc] at this
  exact this
theorem w_dec (W : World) : Calls Try.prog 10 #[.string ⟨#[66, 82, 49, 0, 2, 2, 2, 172, 2, 1, 5, 137]⟩] W fun e w' => ∃ A c, e = .returned (.tuple #[.agg #[.slice A 2 c, .int .i64 0, .int .i64 2], .int .i64 0]) ∧ 2 ≤ c ∧ Kd.C k40 w' A 2 L0 ∧ Kp [] W w' := by
  refine (decode_calls B0 (by decide) W).mono ?_
  intro e w' h
  unfold DecPost at h
  rw [B0_dec] at h
  obtain ⟨v, rfl, hR, k⟩ := h
  obtain ⟨A, c, rfl, hc, hC⟩ := Kd.R_reads hR
  exact ⟨A, c, rfl, hc, hC, k⟩
theorem w_dec2 (W : World) : Calls Try.prog 10 #[.string ⟨#[66, 82, 49]⟩] W fun e w' => e = .returned (.tuple #[.agg #[.slice none 0 0, .int .i64 0, .int .i64 0], .int .i64 140]) ∧ Kp [] W w' := by
  refine (decode_calls [66, 82, 49] (by decide) W).mono ?_
  intro e w' h
  unfold DecPost at h
  rw [BR_dec] at h
  exact h
theorem w_same (A B : Option Addr) (c d : Nat) (hc : 2 ≤ c) (hd : 2 ≤ d) (W : World) (h : Kd.C k40 W A 2 L0) (h' : Kd.C k40 W B 2 L0) :
    Calls Try.prog 12 #[.agg #[.slice A 2 c, .int .i64 0, .int .i64 2], .agg #[.slice B 2 d, .int .i64 0, .int .i64 2]] W fun e w' => e = .returned (.bool true) ∧ Kp [] W w' :=
  (burinbook_SameProg.calls 9 A c L0 0 2 B d L0 0 2 true W h hc h' hd L0_same).mono fun e w' ⟨he, hb⟩ => ⟨he, Kp.ofBelow hb⟩
set_option maxRecDepth 100000 in
set_option maxHeartbeats 4000000 in
theorem works_calls (w : World) : Calls Try.prog 7 #[] w fun e w' => e = .returned (.bool true) ∧ Kp [] w w' := by
  obtain ⟨W0, hW0⟩ : ∃ W0, W0 = (w.alloc (.cells #[.int .i64 2, .int .i64 0, .int .i64 0, .int .i64 300, .int .i64 1, .int .i64 5, .int .i64 0, .int .i64 0, .int .i64 0, .int .i64 0] 40)).alloc (.cells #[.slice (some ⟨w.heap.size, 0, none⟩) 2 2, .int .i64 0, .int .i64 2] 24) := ⟨_, rfl⟩
  have kk : Kp [] w W0 := by rw [hW0]; exact ((Kp.refl [] w).alloc _).alloc _
  have hC : Kd.C k40 W0 (some ⟨w.heap.size, 0, none⟩) 2 L0 := by
    rw [hW0]
    exact C_two (x := ⟨2, 0, 0, 300, 1⟩) (y := ⟨5, 0, 0, 0, 0⟩) ((Below.heap_alloc _ _ _ (by simp)).trans (heap_alloc_new w _))
  have hb : W0.heap[w.heap.size + 1]? = some (.cells #[.slice (some ⟨w.heap.size, 0, none⟩) 2 2, .int .i64 0, .int .i64 2] 24 (0, 0)) := by
    rw [hW0]
    exact new_at _ _ _ (by simp)
  have CE := Lib.hid (w_enc (some ⟨w.heap.size, 0, none⟩) 2 (Nat.le_refl _) W0 hC)
  rw [hW0] at CE
  replace hW0 := Lib.hid hW0
  have CD := Lib.hid w_dec
  have CD2 := Lib.hid w_dec2
  have CS := Lib.hid w_same
  have hx : (⟨#[66, 82, 49, 0, 2, 2, 2, 172, 2, 1, 5, 137]⟩ : ByteArray).extract 0 11 = ⟨#[66, 82, 49, 0, 2, 2, 2, 172, 2, 1, 5]⟩ := by decide +kernel
  go_enter Try.func7, Try.ntmps7
  go_wp2_with (first | (go_at_call 8; refine CE.out.mono ?_; rintro e w1 ⟨rfl, k1⟩; rw [← hW0.out] at k1; replace kk := kk.trans k1; replace hb := kblk k1 hb; replace hC := Kd.C_below hC (k1.below (Nat.le_refl _) (by simp)); have p0 := cellB hb 0; have p1 := cellB hb 1; have p2 := cellB hb 2; simp at p0 p1 p2; clear k1) | (go_at_call 10; ((with_reducible refine (CD.out _).mono ?_)); rintro e w2 ⟨A2, c2, rfl, hc2, hC2, k2⟩; replace kk := kk.trans k2; replace hb := kblk k2 hb; replace hC := Kd.C_below hC (k2.below (Nat.le_refl _) (by simp)); clear p0 p1 p2 k2; have p0 := cellB hb 0; have p1 := cellB hb 1; have p2 := cellB hb 2; simp at p0 p1 p2; have tok := trivial) | (go_at_call 10; ((with_reducible refine (CD2.out _).mono ?_)); rintro e w3 ⟨rfl, k3⟩; have hq := kblk k3 (heap_alloc_new w2 (.cells #[.slice A2 2 c2, .int .i64 0, .int .i64 2] 24)); have k4 : Kp [] w2 w3 := ((Kp.refl [] w2).alloc _).trans k3; replace kk := kk.trans k4; replace hb := kblk k4 hb; replace hC := Kd.C_below hC (k4.below (Nat.le_refl _) (by simp)); replace hC2 := Kd.C_below hC2 (k4.below (Nat.le_refl _) (by simp)); clear p0 p1 p2 k3 k4; have p0 := cellB hb 0; have p1 := cellB hb 1; have p2 := cellB hb 2; have q0 := cellB hq 0; have q1 := cellB hq 1; have q2 := cellB hq 2; simp at p0 p1 p2 q0 q1 q2; have z1 := ltB hb; have z2 := ltB hq) | (go_at_call 12; refine (CS.out _ _ _ _ (Nat.le_refl _) hc2 _ (Kd.C_below hC (((Kp.refl [] w3).alloc _).below (Nat.le_refl _) (by simp))) (Kd.C_below hC2 (((Kp.refl [] w3).alloc _).below (Nat.le_refl _) (by simp)))).mono ?_; rintro e w5 ⟨rfl, k5⟩; replace kk := (kk.alloc _).trans k5))
  go_ret
  exact ⟨rfl, kk⟩
end Go.Proofs.Ytkjkkebaafmheaa
