/- Package prog: the walks of Fits and Check. -/
import Derived.Test.YtkjkkebaafmheaaC
namespace Go.Proofs.Ytkjkkebaafmheaa
open Go.RowKit PWireCodes Go.Proofs.YtkjkkebaafmheaaW.PrintWords Go.Proofs.YtkjkkebaafmheaaW.PrintLast Go.Proofs.YtkjkkebaafmheaaW.PrintMore
open Go.Shelf
set_option linter.unusedVariables false
set_option linter.unusedSimpArgs false

def placeB (x : Int) : Bool := decide (0 ≤ x) && decide (x < 4000)
theorem Kp.ofBelow {w w' : World} (h : Below w.heap.size w w') : Kp [] w w' := ⟨h.os, h.tape, h.output, h.size, fun k hk _ => h.block k hk⟩
theorem Kp.drewN {S} {a w : World} (h : Kp S a w) (n : Nat) : Kp S a (w.drewN n) := ⟨h.os, h.tape, h.output, h.size, h.block⟩
theorem place_calls (x : Int) (w : World) : Calls Try.prog 31 #[.int .i64 x] w fun e w' => e = .returned (.bool (placeB x)) ∧ Kp [] w w' := by
  refine (prog_place.calls x (placeB x) w ?_).mono ?_
  · unfold prog_place.f placeB
    by_cases h : x ≥ 0
    · rw [if_pos h, decide_eq_true (show 0 ≤ x from h), Bool.true_and]
    · rw [if_neg h, decide_eq_false (show ¬ 0 ≤ x from h), Bool.false_and]
  · rintro e w' ⟨rfl, n, rfl⟩
    exact ⟨rfl, (Kp.refl [] w).drewN n⟩
def fbad (f : Int × Bool) : Bool := !f.2 && f.1 != 0
theorem fits1_calls (x : Int) (b : Bool) (w : World) : Calls Try.prog 44 #[.agg #[.int .i64 x, .bool b]] w fun e w' => e = .returned (.bool (fbad (x, b))) ∧ Kp [] w w' := by
  have ka := (Kp.refl [] w).alloc (.cells #[.int .i64 x, .bool b] 76)
  have hb := heap_alloc_new w (.cells #[.int .i64 x, .bool b] 76)
  cases b
  · go_enter Try.func44, Try.ntmps44
    go_wp2
    go_ret
    exact ⟨by simp [fbad], by first | exact ka | exact ka.drew⟩
  · go_enter Try.func44, Try.ntmps44
    go_wp2
    go_ret
    exact ⟨by simp [fbad], by first | exact ka | exact ka.drew⟩
def fieldsOf (x : S40) : List (Int × Bool) := match ownF x.f0 with | (a, b, c, d) => [(x.f1, a), (x.f2, b), (x.f3, c), (x.f4, d)]
def encF (f : Int × Bool) : List Value := [.int .i64 f.1, .bool f.2]
theorem fits_pred (w : World) : PredBelow Try.prog 44 #[] (fun x => .agg (encF x).toArray) fbad w := by
  intro W x hW
  refine (fits1_calls x.1 x.2 W).mono ?_
  rintro e w' ⟨rfl, k⟩
  exact ⟨rfl, hW.trans (k.below hW.size (by simp))⟩
theorem any_calls (x : S40) (a b c d : Bool) (g : Nat) (w : World) (h : w.heap[g]? = some (.cells #[.int .i64 x.f1, .bool a, .int .i64 x.f2, .bool b, .int .i64 x.f3, .bool c, .int .i64 x.f4, .bool d] 76 (0, 0))) :
    Calls Try.prog 42 #[.slice (some ⟨g, 0, none⟩) 4 4, .func (.func 44) #[] #[]] w fun e w' => e = .returned (.bool ([(x.f1, a), (x.f2, b), (x.f3, c), (x.f4, d)].any fbad)) ∧ Kp [] w w' := by
  refine (AnyQ.slices_ContainsFunc Try.cfField 2 (by intro w; kernel_rfl) (by intro w; kernel_rfl) encF (fun _ => rfl) fbad 44 #[] (fun args w => by go_simp) g 0 4 4 [(x.f1, a), (x.f2, b), (x.f3, c), (x.f4, d)] w (fits_pred w) (by simp) (by omega) (ltB h) ?_).mono ?_
  · intro j hj i v hv
    rw [cellB h]
    simp only [List.length_cons, List.length_nil] at hj
    have hi : i < 2 := by
      have := (List.getElem?_eq_some_iff.1 hv).1
      simpa [encF] using this
    obtain rfl | rfl : i = 0 ∨ i = 1 := by omega
    all_goals
      obtain rfl | rfl | rfl | rfl : j = 0 ∨ j = 1 ∨ j = 2 ∨ j = 3 := by omega
      all_goals exact hv
  · rintro e w' ⟨rfl, hb⟩
    exact ⟨rfl, Kp.ofBelow hb⟩
def fitsB (x : S40) : Bool :=
  if x.f0 < 1 then false else if x.f0 > 6 then false else if placeB x.f3 = false then false else if placeB x.f4 = false then false
  else if (fieldsOf x).any fbad = true then false
  else if x.f0 = 1 then decide (0 ≤ x.f1) && (decide (x.f1 ≤ x.f2) && decide (x.f2 ≤ 255))
  else if x.f0 = 3 then decide (0 ≤ x.f1) && decide (x.f1 < 64)
  else if x.f0 = 4 then decide (1 ≤ x.f1) && decide (x.f1 ≤ 6)
  else true
set_option maxRecDepth 100000 in
set_option maxHeartbeats 8000000 in
theorem fits_calls (x : S40) (w : World) : Calls Try.prog 34 #[.agg #[.int .i64 x.f0, .int .i64 x.f1, .int .i64 x.f2, .int .i64 x.f3, .int .i64 x.f4]] w fun e w' => e = .returned (.bool (fitsB x)) ∧ Kp [] w w' := by
  obtain ⟨op, lo, hi, X, Y⟩ := x
  dsimp only
  have kk := (Kp.refl [] w).alloc (.cells #[.int .i64 op, .int .i64 lo, .int .i64 hi, .int .i64 X, .int .i64 Y] 40)
  have hh := heap_alloc_new w (.cells #[.int .i64 op, .int .i64 lo, .int .i64 hi, .int .i64 X, .int .i64 Y] 40)
  have CP := Lib.hid place_calls
  by_cases p1 : op < 1
  · have d1 := decide_eq_true p1
    go_enter Try.func34, Try.ntmps34
    go_wp2
    go_ret
    exact ⟨by simp [fitsB, p1], by first | exact kk | exact kk.drew⟩
  have d1 := decide_eq_false p1
  by_cases p2 : op > 6
  · have d2 := decide_eq_true (show 6 < op from p2)
    go_enter Try.func34, Try.ntmps34
    go_wp2
    go_ret
    exact ⟨by simp [fitsB, p1, p2], by first | exact kk | exact kk.drew⟩
  have d2 := decide_eq_false (show ¬ 6 < op from p2)
  cases pX : placeB X with
  | false =>
    go_enter Try.func34, Try.ntmps34
    have pY := pX
    go_wp2_with (first
      | (go_at_call 31; refine (CP.out _ _).mono ?_; rintro e w2 ⟨he, k2⟩; (first | rw [pX] at he | rw [pY] at he); subst he; replace hh := kblk (b := w.heap.size) k2 hh; replace kk := kk.trans (show Kp [] _ _ from k2); have y0 := cellB hh 0; have y1 := cellB hh 1; have y2 := cellB hh 2; have y3 := cellB hh 3; have y4 := cellB hh 4; simp at y0 y1 y2 y3 y4)
      | (go_at_call 43; refine (CF.out _).mono ?_; rintro e w2 ⟨k2, g, rfl, hg⟩; replace hh := kblk (b := w.heap.size) k2 hh; replace kk := kk.trans (show Kp [] _ _ from k2))
      | (go_at_call 42; refine (any_calls ⟨op, lo, hi, X, Y⟩ _ _ _ _ g _ hg).mono ?_; rintro e w2 ⟨rfl, k2⟩; replace hh := kblk (b := w.heap.size) k2 hh; replace kk := kk.trans (show Kp [] _ _ from k2); have y0 := cellB hh 0; have y1 := cellB hh 1; have y2 := cellB hh 2; have y3 := cellB hh 3; have y4 := cellB hh 4; simp at y0 y1 y2 y3 y4))
    go_ret
    exact ⟨by simp [fitsB, p1, p2, pX], by first | exact kk | exact kk.drew⟩
  | true =>
    cases pY : placeB Y with
    | false =>
      go_enter Try.func34, Try.ntmps34
      go_wp2_with (first
      | (go_at_call 31; refine (CP.out _ _).mono ?_; rintro e w2 ⟨he, k2⟩; (first | rw [pX] at he | rw [pY] at he); subst he; replace hh := kblk (b := w.heap.size) k2 hh; replace kk := kk.trans (show Kp [] _ _ from k2); have y0 := cellB hh 0; have y1 := cellB hh 1; have y2 := cellB hh 2; have y3 := cellB hh 3; have y4 := cellB hh 4; simp at y0 y1 y2 y3 y4)
      | (go_at_call 43; refine (CF.out _).mono ?_; rintro e w2 ⟨k2, g, rfl, hg⟩; replace hh := kblk (b := w.heap.size) k2 hh; replace kk := kk.trans (show Kp [] _ _ from k2))
      | (go_at_call 42; refine (any_calls ⟨op, lo, hi, X, Y⟩ _ _ _ _ g _ hg).mono ?_; rintro e w2 ⟨rfl, k2⟩; replace hh := kblk (b := w.heap.size) k2 hh; replace kk := kk.trans (show Kp [] _ _ from k2); have y0 := cellB hh 0; have y1 := cellB hh 1; have y2 := cellB hh 2; have y3 := cellB hh 3; have y4 := cellB hh 4; simp at y0 y1 y2 y3 y4))
      go_ret
      exact ⟨by simp [fitsB, p1, p2, pX, pY], by first | exact kk | exact kk.drew⟩
    | true =>
      have CF0 := fun (a b c d : Bool) (nm : ByteArray) (w : World) (hix : _) => fields_gen w ⟨op, lo, hi, X, Y⟩ nm a b c d hix
      dsimp only at CF0
      by_cases q6 : op = 6
      · subst q6
        have CF := Lib.hid (fun w => CF0 false false false false _ w idx6)
        cases hA : [(lo, false), (hi, false), (X, false), (Y, false)].any fbad with
        | true =>
          have hA' : (fieldsOf ⟨6, lo, hi, X, Y⟩).any fbad = true := hA
          go_enter Try.func34, Try.ntmps34
          go_wp2_with (first
      | (go_at_call 31; refine (CP.out _ _).mono ?_; rintro e w2 ⟨he, k2⟩; (first | rw [pX] at he | rw [pY] at he); subst he; replace hh := kblk (b := w.heap.size) k2 hh; replace kk := kk.trans (show Kp [] _ _ from k2); have y0 := cellB hh 0; have y1 := cellB hh 1; have y2 := cellB hh 2; have y3 := cellB hh 3; have y4 := cellB hh 4; simp at y0 y1 y2 y3 y4)
      | (go_at_call 43; refine (CF.out _).mono ?_; rintro e w2 ⟨k2, g, rfl, hg⟩; replace hh := kblk (b := w.heap.size) k2 hh; replace kk := kk.trans (show Kp [] _ _ from k2))
      | (go_at_call 42; refine (any_calls ⟨0, lo, hi, X, Y⟩ _ _ _ _ g _ hg).mono ?_; rintro e w2 ⟨he, k2⟩; dsimp only at he; rw [hA] at he; subst he; replace hh := kblk (b := w.heap.size) k2 hh; replace kk := kk.trans (show Kp [] _ _ from k2); have y0 := cellB hh 0; have y1 := cellB hh 1; have y2 := cellB hh 2; have y3 := cellB hh 3; have y4 := cellB hh 4; simp at y0 y1 y2 y3 y4))
          go_ret
          exact ⟨by rw [fitsB, hA', pX, pY]; simp, by first | exact kk | exact kk.drew⟩
        | false =>
          have hA' : (fieldsOf ⟨6, lo, hi, X, Y⟩).any fbad = false := hA
          go_enter Try.func34, Try.ntmps34
          go_wp2_with (first
      | (go_at_call 31; refine (CP.out _ _).mono ?_; rintro e w2 ⟨he, k2⟩; (first | rw [pX] at he | rw [pY] at he); subst he; replace hh := kblk (b := w.heap.size) k2 hh; replace kk := kk.trans (show Kp [] _ _ from k2); have y0 := cellB hh 0; have y1 := cellB hh 1; have y2 := cellB hh 2; have y3 := cellB hh 3; have y4 := cellB hh 4; simp at y0 y1 y2 y3 y4)
      | (go_at_call 43; refine (CF.out _).mono ?_; rintro e w2 ⟨k2, g, rfl, hg⟩; replace hh := kblk (b := w.heap.size) k2 hh; replace kk := kk.trans (show Kp [] _ _ from k2))
      | (go_at_call 42; refine (any_calls ⟨0, lo, hi, X, Y⟩ _ _ _ _ g _ hg).mono ?_; rintro e w2 ⟨he, k2⟩; dsimp only at he; rw [hA] at he; subst he; replace hh := kblk (b := w.heap.size) k2 hh; replace kk := kk.trans (show Kp [] _ _ from k2); have y0 := cellB hh 0; have y1 := cellB hh 1; have y2 := cellB hh 2; have y3 := cellB hh 3; have y4 := cellB hh 4; simp at y0 y1 y2 y3 y4))
          go_ret
          exact ⟨by rw [fitsB, hA', pX, pY]; simp [] <;> omega, by first | exact kk | exact kk.drew⟩
      by_cases q5 : op = 5
      · subst q5
        have CF := Lib.hid (fun w => CF0 false false false false _ w idx5)
        cases hA : [(lo, false), (hi, false), (X, false), (Y, false)].any fbad with
        | true =>
          have hA' : (fieldsOf ⟨5, lo, hi, X, Y⟩).any fbad = true := hA
          go_enter Try.func34, Try.ntmps34
          go_wp2_with (first
      | (go_at_call 31; refine (CP.out _ _).mono ?_; rintro e w2 ⟨he, k2⟩; (first | rw [pX] at he | rw [pY] at he); subst he; replace hh := kblk (b := w.heap.size) k2 hh; replace kk := kk.trans (show Kp [] _ _ from k2); have y0 := cellB hh 0; have y1 := cellB hh 1; have y2 := cellB hh 2; have y3 := cellB hh 3; have y4 := cellB hh 4; simp at y0 y1 y2 y3 y4)
      | (go_at_call 43; refine (CF.out _).mono ?_; rintro e w2 ⟨k2, g, rfl, hg⟩; replace hh := kblk (b := w.heap.size) k2 hh; replace kk := kk.trans (show Kp [] _ _ from k2))
      | (go_at_call 42; refine (any_calls ⟨0, lo, hi, X, Y⟩ _ _ _ _ g _ hg).mono ?_; rintro e w2 ⟨he, k2⟩; dsimp only at he; rw [hA] at he; subst he; replace hh := kblk (b := w.heap.size) k2 hh; replace kk := kk.trans (show Kp [] _ _ from k2); have y0 := cellB hh 0; have y1 := cellB hh 1; have y2 := cellB hh 2; have y3 := cellB hh 3; have y4 := cellB hh 4; simp at y0 y1 y2 y3 y4))
          go_ret
          exact ⟨by rw [fitsB, hA', pX, pY]; simp, by first | exact kk | exact kk.drew⟩
        | false =>
          have hA' : (fieldsOf ⟨5, lo, hi, X, Y⟩).any fbad = false := hA
          go_enter Try.func34, Try.ntmps34
          go_wp2_with (first
      | (go_at_call 31; refine (CP.out _ _).mono ?_; rintro e w2 ⟨he, k2⟩; (first | rw [pX] at he | rw [pY] at he); subst he; replace hh := kblk (b := w.heap.size) k2 hh; replace kk := kk.trans (show Kp [] _ _ from k2); have y0 := cellB hh 0; have y1 := cellB hh 1; have y2 := cellB hh 2; have y3 := cellB hh 3; have y4 := cellB hh 4; simp at y0 y1 y2 y3 y4)
      | (go_at_call 43; refine (CF.out _).mono ?_; rintro e w2 ⟨k2, g, rfl, hg⟩; replace hh := kblk (b := w.heap.size) k2 hh; replace kk := kk.trans (show Kp [] _ _ from k2))
      | (go_at_call 42; refine (any_calls ⟨0, lo, hi, X, Y⟩ _ _ _ _ g _ hg).mono ?_; rintro e w2 ⟨he, k2⟩; dsimp only at he; rw [hA] at he; subst he; replace hh := kblk (b := w.heap.size) k2 hh; replace kk := kk.trans (show Kp [] _ _ from k2); have y0 := cellB hh 0; have y1 := cellB hh 1; have y2 := cellB hh 2; have y3 := cellB hh 3; have y4 := cellB hh 4; simp at y0 y1 y2 y3 y4))
          go_ret
          exact ⟨by rw [fitsB, hA', pX, pY]; simp [] <;> omega, by first | exact kk | exact kk.drew⟩
      by_cases q2 : op = 2
      · subst q2
        have CF := Lib.hid (fun w => CF0 false false true true _ w idx2)
        cases hA : [(lo, false), (hi, false), (X, true), (Y, true)].any fbad with
        | true =>
          have hA' : (fieldsOf ⟨2, lo, hi, X, Y⟩).any fbad = true := hA
          go_enter Try.func34, Try.ntmps34
          go_wp2_with (first
      | (go_at_call 31; refine (CP.out _ _).mono ?_; rintro e w2 ⟨he, k2⟩; (first | rw [pX] at he | rw [pY] at he); subst he; replace hh := kblk (b := w.heap.size) k2 hh; replace kk := kk.trans (show Kp [] _ _ from k2); have y0 := cellB hh 0; have y1 := cellB hh 1; have y2 := cellB hh 2; have y3 := cellB hh 3; have y4 := cellB hh 4; simp at y0 y1 y2 y3 y4)
      | (go_at_call 43; refine (CF.out _).mono ?_; rintro e w2 ⟨k2, g, rfl, hg⟩; replace hh := kblk (b := w.heap.size) k2 hh; replace kk := kk.trans (show Kp [] _ _ from k2))
      | (go_at_call 42; refine (any_calls ⟨0, lo, hi, X, Y⟩ _ _ _ _ g _ hg).mono ?_; rintro e w2 ⟨he, k2⟩; dsimp only at he; rw [hA] at he; subst he; replace hh := kblk (b := w.heap.size) k2 hh; replace kk := kk.trans (show Kp [] _ _ from k2); have y0 := cellB hh 0; have y1 := cellB hh 1; have y2 := cellB hh 2; have y3 := cellB hh 3; have y4 := cellB hh 4; simp at y0 y1 y2 y3 y4))
          go_ret
          exact ⟨by rw [fitsB, hA', pX, pY]; simp, by first | exact kk | exact kk.drew⟩
        | false =>
          have hA' : (fieldsOf ⟨2, lo, hi, X, Y⟩).any fbad = false := hA
          go_enter Try.func34, Try.ntmps34
          go_wp2_with (first
      | (go_at_call 31; refine (CP.out _ _).mono ?_; rintro e w2 ⟨he, k2⟩; (first | rw [pX] at he | rw [pY] at he); subst he; replace hh := kblk (b := w.heap.size) k2 hh; replace kk := kk.trans (show Kp [] _ _ from k2); have y0 := cellB hh 0; have y1 := cellB hh 1; have y2 := cellB hh 2; have y3 := cellB hh 3; have y4 := cellB hh 4; simp at y0 y1 y2 y3 y4)
      | (go_at_call 43; refine (CF.out _).mono ?_; rintro e w2 ⟨k2, g, rfl, hg⟩; replace hh := kblk (b := w.heap.size) k2 hh; replace kk := kk.trans (show Kp [] _ _ from k2))
      | (go_at_call 42; refine (any_calls ⟨0, lo, hi, X, Y⟩ _ _ _ _ g _ hg).mono ?_; rintro e w2 ⟨he, k2⟩; dsimp only at he; rw [hA] at he; subst he; replace hh := kblk (b := w.heap.size) k2 hh; replace kk := kk.trans (show Kp [] _ _ from k2); have y0 := cellB hh 0; have y1 := cellB hh 1; have y2 := cellB hh 2; have y3 := cellB hh 3; have y4 := cellB hh 4; simp at y0 y1 y2 y3 y4))
          go_ret
          exact ⟨by rw [fitsB, hA', pX, pY]; simp [] <;> omega, by first | exact kk | exact kk.drew⟩
      by_cases q3 : op = 3
      · subst q3
        have CF := Lib.hid (fun w => CF0 true false true false _ w idx3)
        cases hA : [(lo, true), (hi, false), (X, true), (Y, false)].any fbad with
        | true =>
          have hA' : (fieldsOf ⟨3, lo, hi, X, Y⟩).any fbad = true := hA
          go_enter Try.func34, Try.ntmps34
          go_wp2_with (first
      | (go_at_call 31; refine (CP.out _ _).mono ?_; rintro e w2 ⟨he, k2⟩; (first | rw [pX] at he | rw [pY] at he); subst he; replace hh := kblk (b := w.heap.size) k2 hh; replace kk := kk.trans (show Kp [] _ _ from k2); have y0 := cellB hh 0; have y1 := cellB hh 1; have y2 := cellB hh 2; have y3 := cellB hh 3; have y4 := cellB hh 4; simp at y0 y1 y2 y3 y4)
      | (go_at_call 43; refine (CF.out _).mono ?_; rintro e w2 ⟨k2, g, rfl, hg⟩; replace hh := kblk (b := w.heap.size) k2 hh; replace kk := kk.trans (show Kp [] _ _ from k2))
      | (go_at_call 42; refine (any_calls ⟨0, lo, hi, X, Y⟩ _ _ _ _ g _ hg).mono ?_; rintro e w2 ⟨he, k2⟩; dsimp only at he; rw [hA] at he; subst he; replace hh := kblk (b := w.heap.size) k2 hh; replace kk := kk.trans (show Kp [] _ _ from k2); have y0 := cellB hh 0; have y1 := cellB hh 1; have y2 := cellB hh 2; have y3 := cellB hh 3; have y4 := cellB hh 4; simp at y0 y1 y2 y3 y4))
          go_ret
          exact ⟨by rw [fitsB, hA', pX, pY]; simp, by first | exact kk | exact kk.drew⟩
        | false =>
          have hA' : (fieldsOf ⟨3, lo, hi, X, Y⟩).any fbad = false := hA
          by_cases e1 : 0 ≤ lo
          · have g1 := decide_eq_true e1
            by_cases e2 : lo < 64
            · have g2 := decide_eq_true e2
              go_enter Try.func34, Try.ntmps34
              go_wp2_with (first
      | (go_at_call 31; refine (CP.out _ _).mono ?_; rintro e w2 ⟨he, k2⟩; (first | rw [pX] at he | rw [pY] at he); subst he; replace hh := kblk (b := w.heap.size) k2 hh; replace kk := kk.trans (show Kp [] _ _ from k2); have y0 := cellB hh 0; have y1 := cellB hh 1; have y2 := cellB hh 2; have y3 := cellB hh 3; have y4 := cellB hh 4; simp at y0 y1 y2 y3 y4)
      | (go_at_call 43; refine (CF.out _).mono ?_; rintro e w2 ⟨k2, g, rfl, hg⟩; replace hh := kblk (b := w.heap.size) k2 hh; replace kk := kk.trans (show Kp [] _ _ from k2))
      | (go_at_call 42; refine (any_calls ⟨0, lo, hi, X, Y⟩ _ _ _ _ g _ hg).mono ?_; rintro e w2 ⟨he, k2⟩; dsimp only at he; rw [hA] at he; subst he; replace hh := kblk (b := w.heap.size) k2 hh; replace kk := kk.trans (show Kp [] _ _ from k2); have y0 := cellB hh 0; have y1 := cellB hh 1; have y2 := cellB hh 2; have y3 := cellB hh 3; have y4 := cellB hh 4; simp at y0 y1 y2 y3 y4))
              go_ret
              exact ⟨by rw [fitsB, hA', pX, pY]; simp [e1, e2] <;> omega, by first | exact kk | exact kk.drew⟩
            · have g2 := decide_eq_false e2
              go_enter Try.func34, Try.ntmps34
              go_wp2_with (first
      | (go_at_call 31; refine (CP.out _ _).mono ?_; rintro e w2 ⟨he, k2⟩; (first | rw [pX] at he | rw [pY] at he); subst he; replace hh := kblk (b := w.heap.size) k2 hh; replace kk := kk.trans (show Kp [] _ _ from k2); have y0 := cellB hh 0; have y1 := cellB hh 1; have y2 := cellB hh 2; have y3 := cellB hh 3; have y4 := cellB hh 4; simp at y0 y1 y2 y3 y4)
      | (go_at_call 43; refine (CF.out _).mono ?_; rintro e w2 ⟨k2, g, rfl, hg⟩; replace hh := kblk (b := w.heap.size) k2 hh; replace kk := kk.trans (show Kp [] _ _ from k2))
      | (go_at_call 42; refine (any_calls ⟨0, lo, hi, X, Y⟩ _ _ _ _ g _ hg).mono ?_; rintro e w2 ⟨he, k2⟩; dsimp only at he; rw [hA] at he; subst he; replace hh := kblk (b := w.heap.size) k2 hh; replace kk := kk.trans (show Kp [] _ _ from k2); have y0 := cellB hh 0; have y1 := cellB hh 1; have y2 := cellB hh 2; have y3 := cellB hh 3; have y4 := cellB hh 4; simp at y0 y1 y2 y3 y4))
              go_ret
              exact ⟨by rw [fitsB, hA', pX, pY]; simp [e1, e2] <;> omega, by first | exact kk | exact kk.drew⟩
          · have g1 := decide_eq_false e1
            go_enter Try.func34, Try.ntmps34
            go_wp2_with (first
      | (go_at_call 31; refine (CP.out _ _).mono ?_; rintro e w2 ⟨he, k2⟩; (first | rw [pX] at he | rw [pY] at he); subst he; replace hh := kblk (b := w.heap.size) k2 hh; replace kk := kk.trans (show Kp [] _ _ from k2); have y0 := cellB hh 0; have y1 := cellB hh 1; have y2 := cellB hh 2; have y3 := cellB hh 3; have y4 := cellB hh 4; simp at y0 y1 y2 y3 y4)
      | (go_at_call 43; refine (CF.out _).mono ?_; rintro e w2 ⟨k2, g, rfl, hg⟩; replace hh := kblk (b := w.heap.size) k2 hh; replace kk := kk.trans (show Kp [] _ _ from k2))
      | (go_at_call 42; refine (any_calls ⟨0, lo, hi, X, Y⟩ _ _ _ _ g _ hg).mono ?_; rintro e w2 ⟨he, k2⟩; dsimp only at he; rw [hA] at he; subst he; replace hh := kblk (b := w.heap.size) k2 hh; replace kk := kk.trans (show Kp [] _ _ from k2); have y0 := cellB hh 0; have y1 := cellB hh 1; have y2 := cellB hh 2; have y3 := cellB hh 3; have y4 := cellB hh 4; simp at y0 y1 y2 y3 y4))
            go_ret
            exact ⟨by rw [fitsB, hA', pX, pY]; simp [e1] <;> omega, by first | exact kk | exact kk.drew⟩
      by_cases q4 : op = 4
      · subst q4
        have CF := Lib.hid (fun w => CF0 true false true false _ w idx4)
        cases hA : [(lo, true), (hi, false), (X, true), (Y, false)].any fbad with
        | true =>
          have hA' : (fieldsOf ⟨4, lo, hi, X, Y⟩).any fbad = true := hA
          go_enter Try.func34, Try.ntmps34
          go_wp2_with (first
      | (go_at_call 31; refine (CP.out _ _).mono ?_; rintro e w2 ⟨he, k2⟩; (first | rw [pX] at he | rw [pY] at he); subst he; replace hh := kblk (b := w.heap.size) k2 hh; replace kk := kk.trans (show Kp [] _ _ from k2); have y0 := cellB hh 0; have y1 := cellB hh 1; have y2 := cellB hh 2; have y3 := cellB hh 3; have y4 := cellB hh 4; simp at y0 y1 y2 y3 y4)
      | (go_at_call 43; refine (CF.out _).mono ?_; rintro e w2 ⟨k2, g, rfl, hg⟩; replace hh := kblk (b := w.heap.size) k2 hh; replace kk := kk.trans (show Kp [] _ _ from k2))
      | (go_at_call 42; refine (any_calls ⟨0, lo, hi, X, Y⟩ _ _ _ _ g _ hg).mono ?_; rintro e w2 ⟨he, k2⟩; dsimp only at he; rw [hA] at he; subst he; replace hh := kblk (b := w.heap.size) k2 hh; replace kk := kk.trans (show Kp [] _ _ from k2); have y0 := cellB hh 0; have y1 := cellB hh 1; have y2 := cellB hh 2; have y3 := cellB hh 3; have y4 := cellB hh 4; simp at y0 y1 y2 y3 y4))
          go_ret
          exact ⟨by rw [fitsB, hA', pX, pY]; simp, by first | exact kk | exact kk.drew⟩
        | false =>
          have hA' : (fieldsOf ⟨4, lo, hi, X, Y⟩).any fbad = false := hA
          by_cases e1 : 1 ≤ lo
          · have g1 := decide_eq_true e1
            by_cases e2 : lo ≤ 6
            · have g2 := decide_eq_true e2
              go_enter Try.func34, Try.ntmps34
              go_wp2_with (first
      | (go_at_call 31; refine (CP.out _ _).mono ?_; rintro e w2 ⟨he, k2⟩; (first | rw [pX] at he | rw [pY] at he); subst he; replace hh := kblk (b := w.heap.size) k2 hh; replace kk := kk.trans (show Kp [] _ _ from k2); have y0 := cellB hh 0; have y1 := cellB hh 1; have y2 := cellB hh 2; have y3 := cellB hh 3; have y4 := cellB hh 4; simp at y0 y1 y2 y3 y4)
      | (go_at_call 43; refine (CF.out _).mono ?_; rintro e w2 ⟨k2, g, rfl, hg⟩; replace hh := kblk (b := w.heap.size) k2 hh; replace kk := kk.trans (show Kp [] _ _ from k2))
      | (go_at_call 42; refine (any_calls ⟨0, lo, hi, X, Y⟩ _ _ _ _ g _ hg).mono ?_; rintro e w2 ⟨he, k2⟩; dsimp only at he; rw [hA] at he; subst he; replace hh := kblk (b := w.heap.size) k2 hh; replace kk := kk.trans (show Kp [] _ _ from k2); have y0 := cellB hh 0; have y1 := cellB hh 1; have y2 := cellB hh 2; have y3 := cellB hh 3; have y4 := cellB hh 4; simp at y0 y1 y2 y3 y4))
              go_ret
              exact ⟨by rw [fitsB, hA', pX, pY]; simp [e1, e2] <;> omega, by first | exact kk | exact kk.drew⟩
            · have g2 := decide_eq_false e2
              go_enter Try.func34, Try.ntmps34
              go_wp2_with (first
      | (go_at_call 31; refine (CP.out _ _).mono ?_; rintro e w2 ⟨he, k2⟩; (first | rw [pX] at he | rw [pY] at he); subst he; replace hh := kblk (b := w.heap.size) k2 hh; replace kk := kk.trans (show Kp [] _ _ from k2); have y0 := cellB hh 0; have y1 := cellB hh 1; have y2 := cellB hh 2; have y3 := cellB hh 3; have y4 := cellB hh 4; simp at y0 y1 y2 y3 y4)
      | (go_at_call 43; refine (CF.out _).mono ?_; rintro e w2 ⟨k2, g, rfl, hg⟩; replace hh := kblk (b := w.heap.size) k2 hh; replace kk := kk.trans (show Kp [] _ _ from k2))
      | (go_at_call 42; refine (any_calls ⟨0, lo, hi, X, Y⟩ _ _ _ _ g _ hg).mono ?_; rintro e w2 ⟨he, k2⟩; dsimp only at he; rw [hA] at he; subst he; replace hh := kblk (b := w.heap.size) k2 hh; replace kk := kk.trans (show Kp [] _ _ from k2); have y0 := cellB hh 0; have y1 := cellB hh 1; have y2 := cellB hh 2; have y3 := cellB hh 3; have y4 := cellB hh 4; simp at y0 y1 y2 y3 y4))
              go_ret
              exact ⟨by rw [fitsB, hA', pX, pY]; simp [e1, e2] <;> omega, by first | exact kk | exact kk.drew⟩
          · have g1 := decide_eq_false e1
            go_enter Try.func34, Try.ntmps34
            go_wp2_with (first
      | (go_at_call 31; refine (CP.out _ _).mono ?_; rintro e w2 ⟨he, k2⟩; (first | rw [pX] at he | rw [pY] at he); subst he; replace hh := kblk (b := w.heap.size) k2 hh; replace kk := kk.trans (show Kp [] _ _ from k2); have y0 := cellB hh 0; have y1 := cellB hh 1; have y2 := cellB hh 2; have y3 := cellB hh 3; have y4 := cellB hh 4; simp at y0 y1 y2 y3 y4)
      | (go_at_call 43; refine (CF.out _).mono ?_; rintro e w2 ⟨k2, g, rfl, hg⟩; replace hh := kblk (b := w.heap.size) k2 hh; replace kk := kk.trans (show Kp [] _ _ from k2))
      | (go_at_call 42; refine (any_calls ⟨0, lo, hi, X, Y⟩ _ _ _ _ g _ hg).mono ?_; rintro e w2 ⟨he, k2⟩; dsimp only at he; rw [hA] at he; subst he; replace hh := kblk (b := w.heap.size) k2 hh; replace kk := kk.trans (show Kp [] _ _ from k2); have y0 := cellB hh 0; have y1 := cellB hh 1; have y2 := cellB hh 2; have y3 := cellB hh 3; have y4 := cellB hh 4; simp at y0 y1 y2 y3 y4))
            go_ret
            exact ⟨by rw [fitsB, hA', pX, pY]; simp [e1] <;> omega, by first | exact kk | exact kk.drew⟩
      by_cases q1 : op = 1
      · subst q1
        have CF := Lib.hid (fun w => CF0 true true true false _ w idx1)
        cases hA : [(lo, true), (hi, true), (X, true), (Y, false)].any fbad with
        | true =>
          have hA' : (fieldsOf ⟨1, lo, hi, X, Y⟩).any fbad = true := hA
          go_enter Try.func34, Try.ntmps34
          go_wp2_with (first
      | (go_at_call 31; refine (CP.out _ _).mono ?_; rintro e w2 ⟨he, k2⟩; (first | rw [pX] at he | rw [pY] at he); subst he; replace hh := kblk (b := w.heap.size) k2 hh; replace kk := kk.trans (show Kp [] _ _ from k2); have y0 := cellB hh 0; have y1 := cellB hh 1; have y2 := cellB hh 2; have y3 := cellB hh 3; have y4 := cellB hh 4; simp at y0 y1 y2 y3 y4)
      | (go_at_call 43; refine (CF.out _).mono ?_; rintro e w2 ⟨k2, g, rfl, hg⟩; replace hh := kblk (b := w.heap.size) k2 hh; replace kk := kk.trans (show Kp [] _ _ from k2))
      | (go_at_call 42; refine (any_calls ⟨0, lo, hi, X, Y⟩ _ _ _ _ g _ hg).mono ?_; rintro e w2 ⟨he, k2⟩; dsimp only at he; rw [hA] at he; subst he; replace hh := kblk (b := w.heap.size) k2 hh; replace kk := kk.trans (show Kp [] _ _ from k2); have y0 := cellB hh 0; have y1 := cellB hh 1; have y2 := cellB hh 2; have y3 := cellB hh 3; have y4 := cellB hh 4; simp at y0 y1 y2 y3 y4))
          go_ret
          exact ⟨by rw [fitsB, hA', pX, pY]; simp, by first | exact kk | exact kk.drew⟩
        | false =>
          have hA' : (fieldsOf ⟨1, lo, hi, X, Y⟩).any fbad = false := hA
          by_cases e1 : 0 ≤ lo
          · have g1 := decide_eq_true e1
            by_cases e2 : lo ≤ hi
            · have g2 := decide_eq_true e2
              by_cases e3 : hi ≤ 255
              · have g3 := decide_eq_true e3
                go_enter Try.func34, Try.ntmps34
                go_wp2_with (first
      | (go_at_call 31; refine (CP.out _ _).mono ?_; rintro e w2 ⟨he, k2⟩; (first | rw [pX] at he | rw [pY] at he); subst he; replace hh := kblk (b := w.heap.size) k2 hh; replace kk := kk.trans (show Kp [] _ _ from k2); have y0 := cellB hh 0; have y1 := cellB hh 1; have y2 := cellB hh 2; have y3 := cellB hh 3; have y4 := cellB hh 4; simp at y0 y1 y2 y3 y4)
      | (go_at_call 43; refine (CF.out _).mono ?_; rintro e w2 ⟨k2, g, rfl, hg⟩; replace hh := kblk (b := w.heap.size) k2 hh; replace kk := kk.trans (show Kp [] _ _ from k2))
      | (go_at_call 42; refine (any_calls ⟨0, lo, hi, X, Y⟩ _ _ _ _ g _ hg).mono ?_; rintro e w2 ⟨he, k2⟩; dsimp only at he; rw [hA] at he; subst he; replace hh := kblk (b := w.heap.size) k2 hh; replace kk := kk.trans (show Kp [] _ _ from k2); have y0 := cellB hh 0; have y1 := cellB hh 1; have y2 := cellB hh 2; have y3 := cellB hh 3; have y4 := cellB hh 4; simp at y0 y1 y2 y3 y4))
                go_ret
                exact ⟨by rw [fitsB, hA', pX, pY]; simp [e1, e2, e3] <;> omega, by first | exact kk | exact kk.drew⟩
              · have g3 := decide_eq_false e3
                go_enter Try.func34, Try.ntmps34
                go_wp2_with (first
      | (go_at_call 31; refine (CP.out _ _).mono ?_; rintro e w2 ⟨he, k2⟩; (first | rw [pX] at he | rw [pY] at he); subst he; replace hh := kblk (b := w.heap.size) k2 hh; replace kk := kk.trans (show Kp [] _ _ from k2); have y0 := cellB hh 0; have y1 := cellB hh 1; have y2 := cellB hh 2; have y3 := cellB hh 3; have y4 := cellB hh 4; simp at y0 y1 y2 y3 y4)
      | (go_at_call 43; refine (CF.out _).mono ?_; rintro e w2 ⟨k2, g, rfl, hg⟩; replace hh := kblk (b := w.heap.size) k2 hh; replace kk := kk.trans (show Kp [] _ _ from k2))
      | (go_at_call 42; refine (any_calls ⟨0, lo, hi, X, Y⟩ _ _ _ _ g _ hg).mono ?_; rintro e w2 ⟨he, k2⟩; dsimp only at he; rw [hA] at he; subst he; replace hh := kblk (b := w.heap.size) k2 hh; replace kk := kk.trans (show Kp [] _ _ from k2); have y0 := cellB hh 0; have y1 := cellB hh 1; have y2 := cellB hh 2; have y3 := cellB hh 3; have y4 := cellB hh 4; simp at y0 y1 y2 y3 y4))
                go_ret
                exact ⟨by rw [fitsB, hA', pX, pY]; simp [e1, e2, e3] <;> omega, by first | exact kk | exact kk.drew⟩
            · have g2 := decide_eq_false e2
              go_enter Try.func34, Try.ntmps34
              go_wp2_with (first
      | (go_at_call 31; refine (CP.out _ _).mono ?_; rintro e w2 ⟨he, k2⟩; (first | rw [pX] at he | rw [pY] at he); subst he; replace hh := kblk (b := w.heap.size) k2 hh; replace kk := kk.trans (show Kp [] _ _ from k2); have y0 := cellB hh 0; have y1 := cellB hh 1; have y2 := cellB hh 2; have y3 := cellB hh 3; have y4 := cellB hh 4; simp at y0 y1 y2 y3 y4)
      | (go_at_call 43; refine (CF.out _).mono ?_; rintro e w2 ⟨k2, g, rfl, hg⟩; replace hh := kblk (b := w.heap.size) k2 hh; replace kk := kk.trans (show Kp [] _ _ from k2))
      | (go_at_call 42; refine (any_calls ⟨0, lo, hi, X, Y⟩ _ _ _ _ g _ hg).mono ?_; rintro e w2 ⟨he, k2⟩; dsimp only at he; rw [hA] at he; subst he; replace hh := kblk (b := w.heap.size) k2 hh; replace kk := kk.trans (show Kp [] _ _ from k2); have y0 := cellB hh 0; have y1 := cellB hh 1; have y2 := cellB hh 2; have y3 := cellB hh 3; have y4 := cellB hh 4; simp at y0 y1 y2 y3 y4))
              go_ret
              exact ⟨by rw [fitsB, hA', pX, pY]; simp [e1, e2] <;> omega, by first | exact kk | exact kk.drew⟩
          · have g1 := decide_eq_false e1
            go_enter Try.func34, Try.ntmps34
            go_wp2_with (first
      | (go_at_call 31; refine (CP.out _ _).mono ?_; rintro e w2 ⟨he, k2⟩; (first | rw [pX] at he | rw [pY] at he); subst he; replace hh := kblk (b := w.heap.size) k2 hh; replace kk := kk.trans (show Kp [] _ _ from k2); have y0 := cellB hh 0; have y1 := cellB hh 1; have y2 := cellB hh 2; have y3 := cellB hh 3; have y4 := cellB hh 4; simp at y0 y1 y2 y3 y4)
      | (go_at_call 43; refine (CF.out _).mono ?_; rintro e w2 ⟨k2, g, rfl, hg⟩; replace hh := kblk (b := w.heap.size) k2 hh; replace kk := kk.trans (show Kp [] _ _ from k2))
      | (go_at_call 42; refine (any_calls ⟨0, lo, hi, X, Y⟩ _ _ _ _ g _ hg).mono ?_; rintro e w2 ⟨he, k2⟩; dsimp only at he; rw [hA] at he; subst he; replace hh := kblk (b := w.heap.size) k2 hh; replace kk := kk.trans (show Kp [] _ _ from k2); have y0 := cellB hh 0; have y1 := cellB hh 1; have y2 := cellB hh 2; have y3 := cellB hh 3; have y4 := cellB hh 4; simp at y0 y1 y2 y3 y4))
            go_ret
            exact ⟨by rw [fitsB, hA', pX, pY]; simp [e1] <;> omega, by first | exact kk | exact kk.drew⟩
      omega
end Go.Proofs.Ytkjkkebaafmheaa
