/- Package edge: what each of its functions computes, for every input, in every world (the walks). -/
import Derived.Test.YtkfkdinpmfldaaaB
import Derived.Test.YtkfkdinpmfldaaaShelf
import Derived.LoopN
namespace Go.Proofs.Ytkfkdinpmfldaaa
open Go.RowKit
set_option linter.unusedVariables false

/-- A byte, or -1. -/
def bO (c : Int) : Int := if c < 0 then -1 else if 255 < c then -1 else c
/-- Is it a word's byte? -/
def wB (c : Int) : Bool := (decide (48 ≤ c) && decide (c ≤ 57)) || (decide (65 ≤ c) && decide (c ≤ 90)) || decide (c = 95) || (decide (97 ≤ c) && decide (c ≤ 122))

theorem byteOf_any (c : Int) (w : World) : Calls Try.prog 17 #[.int .i64 c] w fun e w' => e = .returned (.int .i64 (bO c)) ∧ w = w' := by
  unfold bO
  by_cases h0 : c < 0
  · rw [if_pos h0]
    go_enter Try.func17, Try.ntmps17
    go_wp2
    go_ret
    exact ⟨rfl, rfl⟩
  · by_cases h1 : 255 < c
    · rw [if_neg h0, if_pos h1]
      go_enter Try.func17, Try.ntmps17
      go_wp2
      go_ret
      exact ⟨rfl, rfl⟩
    · rw [if_neg h0, if_neg h1]
      go_enter Try.func17, Try.ntmps17
      go_wp2
      go_ret
      exact ⟨rfl, rfl⟩

def wordsB : List UInt8 := [48, 49, 50, 51, 52, 53, 54, 55, 56, 57, 65, 66, 67, 68, 69, 70, 71, 72, 73, 74, 75, 76, 77, 78, 79, 80, 81, 82, 83, 84, 85, 86, 87, 88, 89, 90, 95, 97, 98, 99, 100, 101, 102, 103, 104, 105, 106, 107, 108, 109, 110, 111, 112, 113, 114, 115, 116, 117, 118, 119, 120, 121, 122]
theorem words_tab : ∀ n : Fin 128, decide (0 ≤ Lib.indexByte wordsB (n.val.toUInt8)) = wB n.val := by decide +kernel
theorem words_any (c : Int) (h0 : 0 < c) (h1 : c < 128) : decide (0 ≤ Lib.indexByte wordsB c.toNat.toUInt8) = wB c := by
  have := words_tab ⟨c.toNat, by omega⟩
  simp only [] at this
  rw [this]
  congr 1
  omega

theorem word_any (c : Int) (w : World) : Calls Try.prog 9 #[.int .i64 c] w fun e w' => e = .returned (.bool (wB c)) ∧ w = w' := by
  by_cases h0 : 0 < c
  · by_cases h1 : c < 128
    · obtain ⟨x, hx⟩ : ∃ x, x = Lib.indexByte wordsB c.toNat.toUInt8 := ⟨_, rfl⟩
      have hw := words_any c h0 h1
      rw [← hx] at hw
      rw [← hw]
      have hc : IntKind.u8.wrap c = c := by rw [IntKind.wrap_u8]; omega
      have H : Calls Try.prog 19 #[.string ⟨wordsB.toArray⟩, .int .u8 c] w fun e w' => e = .returned (.int .i64 x) ∧ w = w' := (Try.strings_IndexByte ⟨wordsB.toArray⟩ c w).mono fun e w' ⟨h1, h2⟩ => ⟨by rw [h1, hx], h2.symm⟩
      unfold wordsB at H
      clear hx hw
      go_enter Try.func9, Try.ntmps9
      go_wp2_with fail
      refine H.mono ?_
      rintro e w' ⟨rfl, rfl⟩
      go_wp2
      go_ret
      exact ⟨rfl, rfl⟩
    · have hw : wB c = false := by simp [wB]; omega
      rw [hw]
      clear hw
      go_enter Try.func9, Try.ntmps9
      go_wp2
      go_ret
      exact ⟨rfl, rfl⟩
  · have hw : wB c = false := by simp [wB]; omega
    rw [hw]
    clear hw
    go_enter Try.func9, Try.ntmps9
    go_wp2
    go_ret
    exact ⟨rfl, rfl⟩

theorem asked_any (w : World) : Calls Try.prog 18 #[] w fun e w' => e = .returned (.agg #[.int .i64 10, .int .i64 20, .int .i64 8, .int .i64 16]) ∧ Kp [] w w' := by
  go_enter Try.func18, Try.ntmps18
  go_wp2
  exact bodyPost_ret (v := .agg #[.int .i64 10, .int .i64 20, .int .i64 8, .int .i64 16]) (by simp [results, Try.results18, go_sem]) rfl ⟨rfl, (Kp.refl _ _).alloc _⟩

/-- What Between answers, for bytes or -1. -/
def btw (a b : Int) : Int := (if wB a = wB b then 64 else 32) + (if a = -1 then 10 else if a = 10 then 8 else 0) + (if b = -1 then 20 else if b = 10 then 16 else 0)

/-- What has been gathered behind so many rounds. -/
def accStep (a1 a2 b1 b2 : Bool) : Nat → Int → Int
  | 0, x => if a1 then bits .or .i64 x 10 else x
  | 1, x => if a2 then bits .or .i64 x 20 else x
  | 2, x => if b1 then bits .or .i64 x 8 else x
  | _, x => if b2 then bits .or .i64 x 16 else x
def acc (base : Int) (a1 a2 b1 b2 : Bool) : Nat → Int
  | 0 => base
  | k + 1 => accStep a1 a2 b1 b2 k (acc base a1 a2 b1 b2 k)

theorem acc_tab : ∀ (p q a1 a2 b1 b2 : Bool), (a1 && b1) = false → (a2 && b2) = false → acc (if p = q then 64 else 32) a1 a2 b1 b2 4 = (if p = q then 64 else 32) + (if a1 then 10 else if b1 then 8 else 0) + (if a2 then 20 else if b2 then 16 else 0) := by decide +kernel

theorem acc_eq (p q : Bool) (A B : Int) : acc (if p = q then 64 else 32) (A == -1) (B == -1) (A == 10) (B == 10) 4 = ((if p = q then 64 else 32) + if A = -1 then 10 else if A = 10 then 8 else 0) + if B = -1 then 20 else if B = 10 then 16 else 0 := by
  rw [acc_tab]
  · simp only [beq_iff_eq]
  · by_cases h : A = -1 <;> simp [h]
  · by_cases h : B = -1 <;> simp [h]

set_option maxRecDepth 100000 in
set_option maxHeartbeats 400000 in
theorem between_one (a b : Int) (A B : Int) (hA : A = bO a) (hB : B = bO b) (w : World) (a1 a2 b1 b2 : Bool) (h1 : (A == -1) = a1) (h2 : (B == -1) = a2) (h3 : (A == 10) = b1) (h4 : (B == 10) = b2) :
    Calls Try.prog 7 #[.int .i64 a, .int .i64 b] w fun e w' => e = .returned (.int .i64 (btw A B)) ∧ Kp [] w w' := by
  have HA := byteOf_any a w
  have HB := byteOf_any b w
  rw [← hA] at HA
  rw [← hB] at HB
  have WA := word_any A w
  have WB := word_any B w
  obtain ⟨x, hx⟩ : ∃ x, x = btw A B := ⟨_, rfl⟩
  rw [← hx]
  unfold btw at hx
  obtain ⟨p, hp⟩ : ∃ p, p = wB A := ⟨_, rfl⟩
  obtain ⟨q, hq⟩ : ∃ q, q = wB B := ⟨_, rfl⟩
  rw [← hp] at WA
  rw [← hq] at WB
  have HX := Lib.hid hx
  have HP := Lib.hid hp
  have HQ := Lib.hid hq
  have H1 := Lib.hid h1
  have H2 := Lib.hid h2
  have H3 := Lib.hid h3
  have H4 := Lib.hid h4
  have hd : decide ((0 : Int) < 4) = true := rfl
  clear hA hB hx hp hq
  have HS : ∀ w', Kp [] w w' → Calls Try.prog 18 #[] w' fun e w'' => e = .returned (.agg #[.int .i64 10, .int .i64 20, .int .i64 8, .int .i64 16]) ∧ Kp [] w w'' := fun w' k => (asked_any w').mono fun e w'' ⟨h1, h2⟩ => ⟨h1, k.trans h2⟩
  have K0 := Kp.refl [] w
  have i0 : ∀ (x0 x1 x2 x3 : Value) w, (Instr.index 33 (.agg #[x0, x1, x2, x3]) (.int .i64 0)).run Try.prog w = .ok x0 w := fun _ _ _ _ _ => by kernel_rfl
  have i1 : ∀ (x0 x1 x2 x3 : Value) w, (Instr.index 33 (.agg #[x0, x1, x2, x3]) (.int .i64 1)).run Try.prog w = .ok x1 w := fun _ _ _ _ _ => by kernel_rfl
  have i2 : ∀ (x0 x1 x2 x3 : Value) w, (Instr.index 33 (.agg #[x0, x1, x2, x3]) (.int .i64 2)).run Try.prog w = .ok x2 w := fun _ _ _ _ _ => by kernel_rfl
  have i3 : ∀ (x0 x1 x2 x3 : Value) w, (Instr.index 33 (.agg #[x0, x1, x2, x3]) (.int .i64 3)).run Try.prog w = .ok x3 w := fun _ _ _ _ _ => by kernel_rfl
  have j0 : ∀ (x0 x1 x2 x3 : Value) w, (Instr.index 35 (.agg #[x0, x1, x2, x3]) (.int .i64 0)).run Try.prog w = .ok x0 w := fun _ _ _ _ _ => by kernel_rfl
  have j1 : ∀ (x0 x1 x2 x3 : Value) w, (Instr.index 35 (.agg #[x0, x1, x2, x3]) (.int .i64 1)).run Try.prog w = .ok x1 w := fun _ _ _ _ _ => by kernel_rfl
  have j2 : ∀ (x0 x1 x2 x3 : Value) w, (Instr.index 35 (.agg #[x0, x1, x2, x3]) (.int .i64 2)).run Try.prog w = .ok x2 w := fun _ _ _ _ _ => by kernel_rfl
  have j3 : ∀ (x0 x1 x2 x3 : Value) w, (Instr.index 35 (.agg #[x0, x1, x2, x3]) (.int .i64 3)).run Try.prog w = .ok x3 w := fun _ _ _ _ _ => by kernel_rfl
  go_enter Try.func7, Try.ntmps7
  go_wp2_with fail
  refine HA.mono ?_
  rintro e w' ⟨rfl, rfl⟩
  go_wp2_with fail
  refine HB.mono ?_
  rintro e w' ⟨rfl, rfl⟩
  go_wp2_with fail
  refine WA.mono ?_
  rintro e w' ⟨rfl, rfl⟩
  go_wp2_with fail
  refine WB.mono ?_
  rintro e w' ⟨rfl, rfl⟩
  obtain ⟨base, hb⟩ : ∃ base : Int, base = if p = q then 64 else 32 := ⟨_, rfl⟩
  have HB2 := Lib.hid hb
  have hfin : Hid (acc base a1 a2 b1 b2 4 = x) := by
    show _ = _
    have e := HX.out
    rw [← HP.out, ← HQ.out] at e
    rw [e, hb]
    rw [← H1.out, ← H2.out, ← H3.out, ← H4.out]
    exact acc_eq p q A B
  clear hb
  have HPQ : (p = q ∧ base = 64) ∨ (¬ p = q ∧ base = 32) := by have := HB2.out; by_cases h : p = q <;> simp_all
  rcases HPQ with ⟨hpq, rfl⟩ | ⟨hpq, rfl⟩
  all_goals
    first | subst hpq | (have hpq' : (p == q) = false := by simpa using hpq)
    go_wp2_with fail
    clear h1 h2 h3 h4
    go_loopw [5, 26] (fun s i wr => ∃ k : Nat, k ≤ 4 ∧ i = .int .i64 k ∧ s = .int .i64 (acc _ a1 a2 b1 b2 k) ∧ Kp [] w wr) (fun _ i _ => 4 - (intOf i).toNat)
    case atStart => exact ⟨0, by omega, rfl, rfl, K0⟩
    case round =>
      obtain ⟨k, hk, rfl, rfl, hK⟩ := hrel
      rcases (show k = 0 ∨ k = 1 ∨ k = 2 ∨ k = 3 ∨ k = 4 from by omega) with rfl | rfl | rfl | rfl | rfl
      · cases a1
        all_goals
          go_wp2_with (go_at_call 18; refine (HS _ (by assumption)).mono ?_; rintro e w1 ⟨rfl, k1⟩)
          go_roundw
          case rel => exact ⟨1, by omega, rfl, rfl, by assumption⟩
          case measure => simp [intOf]
      · cases a2
        all_goals
          go_wp2_with (go_at_call 18; refine (HS _ (by assumption)).mono ?_; rintro e w1 ⟨rfl, k1⟩)
          go_roundw
          case rel => exact ⟨2, by omega, rfl, rfl, by assumption⟩
          case measure => simp [intOf]
      · cases b1
        all_goals
          go_wp2_with (go_at_call 18; refine (HS _ (by assumption)).mono ?_; rintro e w1 ⟨rfl, k1⟩)
          go_roundw
          case rel => exact ⟨3, by omega, rfl, rfl, by assumption⟩
          case measure => simp [intOf]
      · cases b2
        all_goals
          go_wp2_with (go_at_call 18; refine (HS _ (by assumption)).mono ?_; rintro e w1 ⟨rfl, k1⟩)
          go_roundw
          case rel => exact ⟨4, by omega, rfl, rfl, by assumption⟩
          case measure => simp [intOf]
      · go_wp2_with fail
        go_ret
        exact ⟨congrArg (fun z => Ending.returned (.int .i64 z)) hfin.out, by assumption⟩
end Go.Proofs.Ytkfkdinpmfldaaa
