/- burinlaw32.GaugeOrders: it answers true, for all bit patterns and all counts (the walk). -/
import Derived.Test.YtlahjieodcoecaaBL
import Derived.Deep.RegionHeld3
import Derived.Deep.RegionWith
namespace Go.Proofs.Ytlahjieodcoecaa
open Go.RowKit
set_option linter.unusedVariables false

theorem sx_step {W w w' : World} {bx : Nat} {n m : Int} (h : Kp [] W w ∧ w.cell? ⟨bx, 0, none⟩ = some (.int .i64 n) ∧ w.cell? ⟨bx, 1, none⟩ = some (.int .i64 m)) (k : Kp [] w w') :
    Kp [] W w' ∧ w'.cell? ⟨bx, 0, none⟩ = some (.int .i64 n) ∧ w'.cell? ⟨bx, 1, none⟩ = some (.int .i64 m) := by
  have hb := World.block_lt_of_cell? w _ h.2.1
  have e := k.block bx hb (by simp)
  refine ⟨h.1.trans k, ?_, ?_⟩
  · rw [← h.2.1]; unfold World.cell?; simp only [e]
  · rw [← h.2.2]; unfold World.cell?; simp only [e]

set_option maxHeartbeats 8000000 in
theorem law_orders (W : World) (a b : Nat) (n m : Int) (ha : a < 18446744073709551616) (hb : b < 18446744073709551616) :
    Calls Try.prog 7 #[.float .f64 a, .float .f64 b, .agg #[.int .i64 n, .int .i64 m]] W fun e w' => e = .returned (.bool true) ∧ Below W.heap.size W w' := by
  obtain ⟨x, hx⟩ : ∃ x, ord a b = x := ⟨_, rfl⟩
  have D16 := fun w => order_any a b ha hb w
  have D20 := fun w => refOrder_any a b ha hb w
  rw [hx] at D16 D20
  have D21 := fun w => blend_any a b ha hb w
  have D22 := fun w => refBlend_any a b ha hb w
  have D23 := fun w => rate_any n m w
  have D24 := fun w => refRate_any n m w
  generalize blend a b = v at D21 D22
  generalize rate n m = u at D23 D24
  obtain ⟨bx, hbx⟩ : ∃ bx, bx = W.heap.size := ⟨_, rfl⟩
  obtain ⟨w0, hw0⟩ : ∃ w0, w0 = W.alloc (.cells #[.int .i64 n, .int .i64 m] 41) := ⟨_, rfl⟩
  have C16 : Hid (∀ w', (Kp [] W w' ∧ w'.cell? ⟨bx, 0, none⟩ = some (.int .i64 n) ∧ w'.cell? ⟨bx, 1, none⟩ = some (.int .i64 m)) → Calls Try.prog 16 #[.float .f64 a, .float .f64 b] w' fun e w'' => e = .returned (.int .i64 x) ∧ (Kp [] W w'' ∧ w''.cell? ⟨bx, 0, none⟩ = some (.int .i64 n) ∧ w''.cell? ⟨bx, 1, none⟩ = some (.int .i64 m))) := fun w' k => (D16 w').mono fun e w'' ⟨h1, h2⟩ => ⟨h1, h2 ▸ k⟩
  have C20 : Hid (∀ w', (Kp [] W w' ∧ w'.cell? ⟨bx, 0, none⟩ = some (.int .i64 n) ∧ w'.cell? ⟨bx, 1, none⟩ = some (.int .i64 m)) → Calls Try.prog 20 #[.float .f64 a, .float .f64 b] w' fun e w'' => e = .returned (.int .i64 x) ∧ (Kp [] W w'' ∧ w''.cell? ⟨bx, 0, none⟩ = some (.int .i64 n) ∧ w''.cell? ⟨bx, 1, none⟩ = some (.int .i64 m))) := fun w' k => (D20 w').mono fun e w'' ⟨h1, h2⟩ => ⟨h1, h2 ▸ k⟩
  have C21 : Hid (∀ w', (Kp [] W w' ∧ w'.cell? ⟨bx, 0, none⟩ = some (.int .i64 n) ∧ w'.cell? ⟨bx, 1, none⟩ = some (.int .i64 m)) → Calls Try.prog 21 #[.float .f64 a, .float .f64 b] w' fun e w'' => (∃ r, e = .returned (.float .f64 r) ∧ ResOk v r) ∧ (Kp [] W w'' ∧ w''.cell? ⟨bx, 0, none⟩ = some (.int .i64 n) ∧ w''.cell? ⟨bx, 1, none⟩ = some (.int .i64 m))) := fun w' k => (D21 w').mono fun e w'' ⟨h1, h2⟩ => ⟨h1, sx_step k h2⟩
  have C22 : Hid (∀ w', (Kp [] W w' ∧ w'.cell? ⟨bx, 0, none⟩ = some (.int .i64 n) ∧ w'.cell? ⟨bx, 1, none⟩ = some (.int .i64 m)) → Calls Try.prog 22 #[.float .f64 a, .float .f64 b] w' fun e w'' => (∃ r, e = .returned (.float .f64 r) ∧ ResOk v r) ∧ (Kp [] W w'' ∧ w''.cell? ⟨bx, 0, none⟩ = some (.int .i64 n) ∧ w''.cell? ⟨bx, 1, none⟩ = some (.int .i64 m))) := fun w' k => (D22 w').mono fun e w'' ⟨h1, h2⟩ => ⟨h1, sx_step k h2⟩
  have C23 : Hid (∀ w', (Kp [] W w' ∧ w'.cell? ⟨bx, 0, none⟩ = some (.int .i64 n) ∧ w'.cell? ⟨bx, 1, none⟩ = some (.int .i64 m)) → Calls Try.prog 23 #[.int .i64 n, .int .i64 m] w' fun e w'' => (∃ r, e = .returned (.float .f64 r) ∧ ResOk u r) ∧ (Kp [] W w'' ∧ w''.cell? ⟨bx, 0, none⟩ = some (.int .i64 n) ∧ w''.cell? ⟨bx, 1, none⟩ = some (.int .i64 m))) := fun w' k => (D23 w').mono fun e w'' ⟨h1, h2⟩ => ⟨h1, sx_step k h2⟩
  have C24 : Hid (∀ w', (Kp [] W w' ∧ w'.cell? ⟨bx, 0, none⟩ = some (.int .i64 n) ∧ w'.cell? ⟨bx, 1, none⟩ = some (.int .i64 m)) → Calls Try.prog 24 #[.int .i64 n, .int .i64 m] w' fun e w'' => (∃ r, e = .returned (.float .f64 r) ∧ ResOk u r) ∧ (Kp [] W w'' ∧ w''.cell? ⟨bx, 0, none⟩ = some (.int .i64 n) ∧ w''.cell? ⟨bx, 1, none⟩ = some (.int .i64 m))) := fun w' k => (D24 w').mono fun e w'' ⟨h1, h2⟩ => ⟨h1, sx_step k h2⟩
  have C12 : Hid (∀ o r q w', ResOk o r → ResOk o q → (Kp [] W w' ∧ w'.cell? ⟨bx, 0, none⟩ = some (.int .i64 n) ∧ w'.cell? ⟨bx, 1, none⟩ = some (.int .i64 m)) → Calls Try.prog 12 #[.float .f64 r, .float .f64 q] w' fun e w'' => e = .returned (.bool true) ∧ (Kp [] W w'' ∧ w''.cell? ⟨bx, 0, none⟩ = some (.int .i64 n) ∧ w''.cell? ⟨bx, 1, none⟩ = some (.int .i64 m))) := fun o r q w' h1 h2 k => (same_any r q h1.wf h2.wf w').mono fun e w'' ⟨h3, h4⟩ => ⟨by rw [h3, same_ok h1 h2]; rfl, h4 ▸ k⟩
  have C9 : Hid (∀ w', (Kp [] W w' ∧ w'.cell? ⟨bx, 0, none⟩ = some (.int .i64 n) ∧ w'.cell? ⟨bx, 1, none⟩ = some (.int .i64 m)) → Calls Try.prog 9 #[] w' fun e w'' => e = .returned (.bool true) ∧ (Kp [] W w'' ∧ w''.cell? ⟨bx, 0, none⟩ = some (.int .i64 n) ∧ w''.cell? ⟨bx, 1, none⟩ = some (.int .i64 m))) := fun w' k => (works_any w').mono fun e w'' ⟨h1, h2⟩ => ⟨h1, sx_step k h2⟩
  have k0 : Kp [] W w0 := by rw [hw0]; exact (Kp.refl _ _).alloc _
  have hbb : w0.heap[bx]? = some (.cells #[.int .i64 n, .int .i64 m] 41 (0, 0)) := by rw [hw0, hbx]; exact heap_alloc_new W _
  have d0 := cellB hbb 0
  have d1 := cellB hbb 1
  simp at d0 d1
  have S0 : Kp [] W w0 ∧ w0.cell? ⟨bx, 0, none⟩ = some (.int .i64 n) ∧ w0.cell? ⟨bx, 1, none⟩ = some (.int .i64 m) := ⟨k0, d0, d1⟩
  clear D16 D20 D21 D22 D23 D24 hx k0 hbb d0 d1
  have hw0' := Lib.hid hw0
  have hbx' := Lib.hid hbx
  clear hw0 hbx
  go_enter Try.func7, Try.ntmps7
  go_wp2_with fail
  rw [← hw0'.out, ← hbx'.out]
  go_region_held3 (fun w' => Kp [] W w' ∧ w'.cell? ⟨bx, 0, none⟩ = some (.int .i64 n) ∧ w'.cell? ⟨bx, 1, none⟩ = some (.int .i64 m)) (first | assumption | exact ⟨Kp.drew (And.left (by assumption)), And.right (by assumption)⟩)
    (first
     | (go_at_call 16; refine (C16.out _ (by assumption)).mono ?_; rintro e w' ⟨rfl, k2⟩)
     | (go_at_call 20; refine (C20.out _ (by assumption)).mono ?_; rintro e w' ⟨rfl, k2⟩)
     | (go_at_call 21; refine (C21.out _ (by assumption)).mono ?_; rintro e w' ⟨⟨r, rfl, hr⟩, k2⟩)
     | (go_at_call 22; refine (C22.out _ (by assumption)).mono ?_; rintro e w' ⟨⟨r, rfl, hr⟩, k2⟩)
     | (go_at_call 23; refine (C23.out _ (by assumption)).mono ?_; rintro e w' ⟨⟨r, rfl, hr⟩, k2⟩)
     | (go_at_call 24; refine (C24.out _ (by assumption)).mono ?_; rintro e w' ⟨⟨r, rfl, hr⟩, k2⟩)
     | (go_at_call 12; refine (C12.out _ _ _ _ (by assumption) (by assumption) (by assumption)).mono ?_; rintro e w' ⟨rfl, k2⟩)
     | (go_at_call 9; refine (C9.out _ (by assumption)).mono ?_; rintro e w' ⟨rfl, k2⟩))
  all_goals
    go_wp2_with fail
    go_ret
    exact ⟨rfl, k2.1.below (Nat.le_refl _) (by simp)⟩

section
open Go.ChangeShapes Go.WideShapes Go.Deep
variable {H : Type} {enc : TypeId × Value → H} {w : World} {base b0 : Nat} {spare : Nat → Bool} {held : Bool}
theorem cell_i64 {n : Nat} {v : Value} {x : DataW H × List MemPlace} (h : DataW.trod enc Try.prog w base spare held n 3 [v] = some x) : ∃ b, v = .int .i64 b := by
  cases n with
  | zero => simp [DataW.trod] at h
  | succ n =>
    simp only [DataW.trod, Try.underlying3] at h
    cases v with
    | int k b =>
      by_cases hw : k = .i64 ∧ (Lit.int .i64 b).wf = true
      · exact ⟨b, by rw [hw.1]⟩
      · simp [hw] at h
    | _ => simp at h

theorem trod_array2 {t e : TypeId} {fuel : Nat} {c0 c1 : Value} {x : DataW H × List MemPlace} (ht : Try.prog.underlying t = some (.array 2 e)) (hce : Try.prog.cellsOf e = 1)
    (h : DataW.trod enc Try.prog w base spare held fuel t [c0, c1] = some x) :
    ∃ y0 y1 n, DataW.trod enc Try.prog w base spare held n e [c0] = some y0 ∧ DataW.trod enc Try.prog w base spare held n e [c1] = some y1 := by
  cases fuel with
  | zero => simp [DataW.trod] at h
  | succ n =>
    unfold DataW.trod at h
    rw [ht] at h
    have r2 : List.range 2 = [0, 1] := rfl
    simp [r2, hce] at h
    obtain ⟨_, h⟩ := h
    cases h0 : DataW.trod enc Try.prog w base spare held n e [c0] with
    | none => simp [h0] at h
    | some y0 =>
      cases h1 : DataW.trod enc Try.prog w base spare held n e [c1] with
      | none => simp [h0, h1] at h
      | some y1 => exact ⟨y0, y1, n, h0, h1⟩

theorem open_two {v : Value} {d : DataW H} {ps : List MemPlace} (hval : Value.okWide Try.prog w .any b0 41 v) (h : DataW.Trod enc Try.prog w base spare held 41 v d ps) :
    ∃ (n m : Int), v = .agg #[.int .i64 n, .int .i64 m] ∧ True := by
  obtain ⟨cs, rfl, hsz⟩ : ∃ cs, v = .agg cs ∧ cs.size = 2 := by
    simp only [Value.okWide, Try.underlying41] at hval
    obtain ⟨cs, h1, h2, _⟩ := hval
    exact ⟨cs, h1, h2.trans (by kernel_rfl)⟩
  obtain ⟨fuel, hf⟩ := h
  obtain ⟨a, b, hcs⟩ : ∃ a b, cs = #[a, b] := by
    match cs, hsz with
    | ⟨[a, b]⟩, _ => exact ⟨a, b, rfl⟩
  subst hcs
  obtain ⟨y0, y1, n, h0, h1⟩ := trod_array2 Try.underlying41 (by kernel_rfl) hf
  obtain ⟨i, rfl⟩ := cell_i64 h0
  obtain ⟨m, rfl⟩ := cell_i64 h1
  exact ⟨i, m, rfl, trivial⟩
end

theorem law_orders' (W : World) (a b : Nat) (n m : Int) (ha : (Lit.float .f64 a).wf = true) (hb : (Lit.float .f64 b).wf = true) (_ : True) :
    Calls Try.prog 7 #[.float .f64 a, .float .f64 b, .agg #[.int .i64 n, .int .i64 m]] W fun e w' => e = .returned (.bool true) ∧ Below W.heap.size W w' :=
  law_orders W a b n m (by simpa [Lit.wf] using ha) (by simpa [Lit.wf] using hb)
end Go.Proofs.Ytlahjieodcoecaa
