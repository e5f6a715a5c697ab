/- Package prog: the walk of Check. -/
import Derived.Test.YtkjkkebaafmheaaD
import Derived.Test.YtkjkkebaafmheaaPWireCodesx1
namespace Go.Proofs.Ytkjkkebaafmheaa
open Go.RowKit PWireCodes Go.Proofs.YtkjkkebaafmheaaW.PrintWords Go.Proofs.YtkjkkebaafmheaaW.PrintLast Go.Proofs.YtkjkkebaafmheaaW.PrintMore
open Go.Shelf
set_option linter.unusedVariables false
set_option linter.unusedSimpArgs false
instance : Inhabited S40 := ⟨z40⟩
def encI (x : S40) : List Value := [.int .i64 x.f0, .int .i64 x.f1, .int .i64 x.f2, .int .i64 x.f3, .int .i64 x.f4]
theorem addNone (b o n : Nat) : Addr.add ⟨b, o, none⟩ n = ⟨b, o + n, none⟩ := by unfold Addr.add; by_cases h : n = 0 <;> simp [h]
theorem rowOpen {w : World} {A : Option Addr} {l : List S40} (h : Kd.C k40 w A l.length l) (hn : 0 < l.length) : ∃ b o, A = some ⟨b, o, none⟩ ∧ b < w.heap.size ∧
    ∀ j, j < l.length → ∀ i v, (encI l[j]!)[i]? = some v → w.cell? ⟨b, o + j * 5 + i, none⟩ = some v := by
  obtain ⟨ad, rfl, h0, -⟩ := at_T40 h 0 (by omega) (by omega)
  obtain ⟨b, o, s⟩ := ad
  obtain rfl : s = none := by
    cases s with
    | none => rfl
    | some k => simp [Addr.add, World.cell?] at h0; split at h0 <;> simp at h0
  refine ⟨b, o, rfl, World.block_lt_of_cell? w _ h0, ?_⟩
  intro j hj i v hv
  obtain ⟨ad, he, k0, k1, k2, k3, k4⟩ := at_T40 h j (by omega) (by omega)
  obtain rfl := Option.some.inj he
  rw [addNone] at k0 k1 k2 k3 k4
  have hr : rd_T40 l j = l[j]! := by simp [rd_T40, List.getD, List.getElem?_eq_getElem hj, getElem!_pos l j hj]
  rw [hr] at k0 k1 k2 k3 k4
  simp only [Int.toNat_natCast] at k0 k1 k2 k3 k4
  have hi : i < 5 := by simpa [encI] using (List.getElem?_eq_some_iff.1 hv).1
  obtain rfl | rfl | rfl | rfl | rfl : i = 0 ∨ i = 1 ∨ i = 2 ∨ i = 3 ∨ i = 4 := by omega
  · exact k0.trans hv
  · exact k1.trans hv
  · exact k2.trans hv
  · exact k3.trans hv
  · exact k4.trans hv
theorem check1_calls (x : S40) (w : World) : Calls Try.prog 33 #[.agg #[.int .i64 x.f0, .int .i64 x.f1, .int .i64 x.f2, .int .i64 x.f3, .int .i64 x.f4]] w fun e w' => e = .returned (.bool (!fitsB x)) ∧ Kp [] w w' := by
  have kk := (Kp.refl [] w).alloc (.cells #[.int .i64 x.f0, .int .i64 x.f1, .int .i64 x.f2, .int .i64 x.f3, .int .i64 x.f4] 40)
  have C := Lib.hid fits_calls
  go_enter Try.func33, Try.ntmps33
  go_wp2_with (go_at_call 34; refine (C.out x _).mono ?_; rintro e w2 ⟨rfl, k2⟩; replace kk := kk.trans (show Kp [] _ _ from k2))
  go_ret
  exact ⟨rfl, kk⟩
theorem check_pred (w : World) : PredBelow Try.prog 33 #[] (fun x => .agg (encI x).toArray) (fun x => !fitsB x) w := by
  intro W x hW
  refine (check1_calls x W).mono ?_
  rintro e w' ⟨rfl, k⟩
  exact ⟨rfl, hW.trans (k.below hW.size (by simp))⟩
theorem cont_calls (w W : World) (A : Option Addr) (c : Nat) (l : List S40) (h : Kd.C k40 w A l.length l) (hn : 0 < l.length) (hb : l.length ≤ 4000) (hW : Kp [] w W) :
    Calls Try.prog 32 #[.slice A l.length c, .func (.func 33) #[] #[]] W fun e w' => e = .returned (.bool (l.any fun x => !fitsB x)) ∧ Kp [] W w' := by
  obtain ⟨b, o, rfl, hlt, hc⟩ := rowOpen h hn
  refine (AnyQ.slices_ContainsFunc Try.cfInst 5 (by intro w; kernel_rfl) (by intro w; kernel_rfl) encI (fun _ => rfl) (fun x => !fitsB x) 33 #[] (fun args w => by go_simp) b o l.length c l W (check_pred W) (Nat.le_refl _) (by omega) (Nat.lt_of_lt_of_le hlt hW.size) (fun j hj i v hv => kcell hW (hc j hj i v hv))).mono ?_
  rintro e w' ⟨rfl, k⟩
  rw [List.take_length]
  exact ⟨rfl, Kp.ofBelow k⟩
def checkB (l : List S40) (start slots : Int) : Int :=
  if (l.length : Int) < 1 then 130 else if (l.length : Int) > 4000 then 130 else if placeB start = false then 130 else if slots < 0 then 130 else if slots > 64 then 130
  else if (l.any fun x => !fitsB x) = true then 130 else 0
set_option maxRecDepth 100000 in
set_option maxHeartbeats 8000000 in
theorem check_calls (A : Option Addr) (c : Nat) (l : List S40) (start slots : Int) (w : World) (h : Kd.C k40 w A l.length l) :
    Calls Try.prog 15 #[.agg #[.slice A l.length c, .int .i64 start, .int .i64 slots]] w fun e w' => e = .returned (.int .i64 (checkB l start slots)) ∧ Kp [] w w' := by
  have kk := (Kp.refl [] w).alloc (.cells #[.slice A l.length c, .int .i64 start, .int .i64 slots] 24)
  have hh := heap_alloc_new w (.cells #[.slice A l.length c, .int .i64 start, .int .i64 slots] 24)
  have CP := Lib.hid place_calls
  by_cases p1 : (l.length : Int) < 1
  · have d1 := decide_eq_true p1
    have hv : checkB l start slots = 130 := by rw [checkB]; rw [if_pos p1]
    replace hv := Lib.hid hv
    go_enter Try.func15, Try.ntmps15
    go_wp2
    go_ret
    exact ⟨by rw [hv.out]; rfl, by first | exact kk | exact kk.drew⟩
  have d1 := decide_eq_false p1
  by_cases p2 : (l.length : Int) > 4000
  · have d2 := decide_eq_true (show 4000 < (l.length : Int) from p2)
    have hv : checkB l start slots = 130 := by rw [checkB, if_neg p1, if_pos p2]
    replace hv := Lib.hid hv
    go_enter Try.func15, Try.ntmps15
    go_wp2
    go_ret
    exact ⟨by rw [hv.out]; rfl, by first | exact kk | exact kk.drew⟩
  have d2 := decide_eq_false (show ¬ 4000 < (l.length : Int) from p2)
  have hc1 := Lib.hid (fun W => cont_calls w W A c l h (by omega) (by omega))
  cases pS : placeB start with
  | false =>
    have hv : checkB l start slots = 130 := by rw [checkB, if_neg p1, if_neg p2, pS, if_pos rfl]
    replace hv := Lib.hid hv
    go_enter Try.func15, Try.ntmps15
    go_wp2_with (go_at_call 31; refine (CP.out _ _).mono ?_; rintro e w2 ⟨he, k2⟩; rw [pS] at he; subst he; replace hh := kblk (b := w.heap.size) k2 hh; replace kk := kk.trans (show Kp [] _ _ from k2); have y0 := cellB hh 0; have y1 := cellB hh 1; have y2 := cellB hh 2; simp at y0 y1 y2)
    go_ret
    exact ⟨by rw [hv.out]; rfl, by first | exact kk | exact kk.drew⟩
  | true =>
    by_cases p3 : slots < 0
    · have d3 := decide_eq_true p3
      have hv : checkB l start slots = 130 := by rw [checkB, if_neg p1, if_neg p2, pS, if_neg (by simp), if_pos p3]
      replace hv := Lib.hid hv
      go_enter Try.func15, Try.ntmps15
      go_wp2_with (go_at_call 31; refine (CP.out _ _).mono ?_; rintro e w2 ⟨he, k2⟩; rw [pS] at he; subst he; replace hh := kblk (b := w.heap.size) k2 hh; replace kk := kk.trans (show Kp [] _ _ from k2); have y0 := cellB hh 0; have y1 := cellB hh 1; have y2 := cellB hh 2; simp at y0 y1 y2)
      go_ret
      exact ⟨by rw [hv.out]; rfl, by first | exact kk | exact kk.drew⟩
    have d3 := decide_eq_false p3
    by_cases p4 : slots > 64
    · have d4 := decide_eq_true (show 64 < slots from p4)
      have hv : checkB l start slots = 130 := by rw [checkB, if_neg p1, if_neg p2, pS, if_neg (by simp), if_neg p3, if_pos p4]
      replace hv := Lib.hid hv
      go_enter Try.func15, Try.ntmps15
      go_wp2_with (go_at_call 31; refine (CP.out _ _).mono ?_; rintro e w2 ⟨he, k2⟩; rw [pS] at he; subst he; replace hh := kblk (b := w.heap.size) k2 hh; replace kk := kk.trans (show Kp [] _ _ from k2); have y0 := cellB hh 0; have y1 := cellB hh 1; have y2 := cellB hh 2; simp at y0 y1 y2)
      go_ret
      exact ⟨by rw [hv.out]; rfl, by first | exact kk | exact kk.drew⟩
    have d4 := decide_eq_false (show ¬ 64 < slots from p4)
    cases hA : (l.any fun x => !fitsB x) with
    | _ =>
      all_goals
        have hv : checkB l start slots = if ((l.any fun x => !fitsB x) = true) then 130 else 0 := by rw [checkB, if_neg p1, if_neg p2, pS, if_neg (by simp), if_neg p3, if_neg p4]
        rw [hA] at hv
        replace hv := Lib.hid hv
        go_enter Try.func15, Try.ntmps15
        go_wp2_with (first
          | (go_at_call 31; refine (CP.out _ _).mono ?_; rintro e w2 ⟨he, k2⟩; rw [pS] at he; subst he; replace hh := kblk (b := w.heap.size) k2 hh; replace kk := kk.trans (show Kp [] _ _ from k2); have y0 := cellB hh 0; have y1 := cellB hh 1; have y2 := cellB hh 2; simp at y0 y1 y2)
          | (go_at_call 32; refine (hc1.out _ (by first | exact kk | exact kk.drew)).mono ?_; rintro e w2 ⟨he, k2⟩; rw [hA] at he; subst he; replace kk := kk.trans (show Kp [] _ _ from k2)))
        go_ret
        exact ⟨by rw [hv.out]; rfl, by first | exact kk | exact kk.drew⟩
end Go.Proofs.Ytkjkkebaafmheaa
