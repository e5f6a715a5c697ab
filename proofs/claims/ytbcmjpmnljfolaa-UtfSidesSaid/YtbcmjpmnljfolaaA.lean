/- Package utf: Width, lead, long and Encode: what they compute, for every input, in every world. -/
import Derived.Test.YtbcmjpmnljfolaaPUtfPiecesx3
import Derived.Test.YtbcmjpmnljfolaaB
import Derived.Laws.BitsLemmas
namespace Go.Proofs.Ytbcmjpmnljfolaa
open Go.RowKit PUtfPieces Go.Proofs.YtbcmjpmnljfolaaW.PrintWords Go.Proofs.YtbcmjpmnljfolaaW.PrintLast Go.Proofs.YtbcmjpmnljfolaaW.PrintMore
set_option linter.unusedVariables false

def wid (r : Int) : Int := if r < 0 ∨ 1114111 < r ∨ (55296 ≤ r ∧ r ≤ 57343) then 0 else if r ≤ 127 then 1 else if r ≤ 2047 then 2 else if r ≤ 65535 then 3 else 4

theorem Kp.ofBelow {w w' : World} (b : Below w.heap.size w w') : Kp [] w w' := ⟨b.os, b.tape, b.output, b.size, fun i hi _ => b.block i hi⟩
theorem width_any (r : Int) (w : World) : Calls Try.prog 13 #[.int .i64 r] w fun e w' => e = .returned (.int .i64 (wid r)) ∧ w = w' := by
  unfold wid
  by_cases h0 : r < 0
  · rw [if_pos (.inl h0)]
    have d0 : decide (r < 0) = true := decide_eq_true h0
    go_enter Try.func13, Try.ntmps13
    go_wp2
    go_ret
    exact ⟨rfl, rfl⟩
  have d0 : decide (r < 0) = false := decide_eq_false h0
  by_cases h1 : 1114111 < r
  · rw [if_pos (.inr (.inl h1))]
    have d1 : decide (1114111 < r) = true := decide_eq_true h1
    go_enter Try.func13, Try.ntmps13
    go_wp2
    go_ret
    exact ⟨rfl, rfl⟩
  have d1 : decide (1114111 < r) = false := decide_eq_false h1
  by_cases h2 : 55296 ≤ r
  · have d2 : decide (55296 ≤ r) = true := decide_eq_true h2
    by_cases h3 : r ≤ 57343
    · rw [if_pos (.inr (.inr ⟨h2, h3⟩))]
      have d3 : decide (r ≤ 57343) = true := decide_eq_true h3
      go_enter Try.func13, Try.ntmps13
      go_wp2
      go_ret
      exact ⟨rfl, rfl⟩
    · have d3 : decide (r ≤ 57343) = false := decide_eq_false h3
      rw [if_neg (by omega), if_neg (by omega), if_neg (by omega)]
      by_cases h4 : r ≤ 65535
      · rw [if_pos h4]
        go_enter Try.func13, Try.ntmps13
        go_wp2
        go_ret
        exact ⟨rfl, rfl⟩
      · rw [if_neg h4]
        go_enter Try.func13, Try.ntmps13
        go_wp2
        go_ret
        exact ⟨rfl, rfl⟩
  · have d2 : decide (55296 ≤ r) = false := decide_eq_false h2
    rw [if_neg (by omega)]
    by_cases h4 : r ≤ 127
    · rw [if_pos h4]
      go_enter Try.func13, Try.ntmps13
      go_wp2
      go_ret
      exact ⟨rfl, rfl⟩
    · rw [if_neg h4]
      by_cases h5 : r ≤ 2047
      · rw [if_pos h5]
        go_enter Try.func13, Try.ntmps13
        go_wp2
        go_ret
        exact ⟨rfl, rfl⟩
      · rw [if_neg h5, if_pos (by omega)]
        go_enter Try.func13, Try.ntmps13
        go_wp2
        go_ret
        exact ⟨rfl, rfl⟩

def ld (n : Nat) : Int := if n = 2 then 192 else if n = 3 then 224 else if n = 4 then 240 else 0
theorem lead_any (n : Nat) (hn : n ≤ 4) (w : World) : Calls Try.prog 24 #[.int .i64 n] w fun e w' => e = .returned (.int .u8 (ld n)) ∧ Kp [] w w' := by
  match n, hn with
  | 0, _ | 1, _ | 2, _ | 3, _ | 4, _ =>
    go_enter Try.func24, Try.ntmps24
    go_wp2
    go_ret
    exact ⟨rfl, (Kp.refl [] w).alloc _⟩

theorem u8_zero_or : ∀ k : Fin 256, bits .or .u8 0 (k.val : Int) = (k.val : Int) := by decide +kernel
theorem wraps_i64 (n : Int) (h₀ : 0 ≤ n) (h₁ : n < 2 ^ 31) : IntKind.i64.wrap n = n := by rw [IntKind.wrap_i64]; omega
theorem i64_and63 (x : Int) (h₀ : 0 ≤ x) (h₁ : x < 2147483648) : bits .and .i64 x 63 = x % 64 := bits_mask .i64 31 (by decide) wraps_i64 6 (by decide) x h₀ h₁
theorem i64_or128 (y : Int) (h₀ : 0 ≤ y) (h₁ : y < 64) : bits .or .i64 128 y = 128 + y :=
  bits_join .i64 31 (by decide) wraps_i64 6 128 y (by decide) (by decide) (by decide) h₀ h₁ (by omega)
theorem i64_or6 (x y : Int) (hx₀ : 0 ≤ x) (hx : x % 64 = 0) (hx₁ : x < 2147483648) (h₀ : 0 ≤ y) (h₁ : y < 64) : bits .or .i64 x y = x + y :=
  bits_join .i64 31 (by decide) wraps_i64 6 x y hx₀ hx hx₁ h₀ h₁ (by omega)
theorem cont_byte (r : Int) (h0 : 0 ≤ r) (h1 : r < 2147483648) : bits .or .i64 128 (bits .and .i64 r 63) % 256 = 128 + r % 64 := by
  rw [i64_and63 r h0 h1, i64_or128 _ (by omega) (by omega)]
  omega
theorem wid_range (r : Int) : (wid r = 0 ∧ (r < 0 ∨ 1114111 < r ∨ (55296 ≤ r ∧ r ≤ 57343))) ∨ (wid r = 1 ∧ 0 ≤ r ∧ r < 128) ∨ (wid r = 2 ∧ 128 ≤ r ∧ r < 2048) ∨ (wid r = 3 ∧ 2048 ≤ r ∧ r < 65536 ∧ ¬ (55296 ≤ r ∧ r ≤ 57343)) ∨ (wid r = 4 ∧ 65536 ≤ r ∧ r ≤ 1114111) := by
  unfold wid
  split
  · exact .inl ⟨rfl, by assumption⟩
  · split
    · exact .inr (.inl ⟨rfl, by omega, by omega⟩)
    · split
      · exact .inr (.inr (.inl ⟨rfl, by omega, by omega⟩))
      · split
        · exact .inr (.inr (.inr (.inl ⟨rfl, by omega, by omega, by omega⟩)))
        · exact .inr (.inr (.inr (.inr ⟨rfl, by omega, by omega⟩)))
/-- A block of four bytes read as a text. -/
theorem conv4 (w : World) (B n : Nat) (xs : List Int) (cs : Array Value) (h : w.heap[B]? = some (.cells cs 41 (0, 0))) (hl : xs.length = n) (hn : n ≤ 4) (hc : ∀ j, j < n → cs[j]? = some (.int .u8 (xs.getD j 0))) :
    (convert 44 9 (.slice (some ⟨B, 0, none⟩) n 4)).run Try.prog w = .ok (.string (strOfNums xs)) w := by
  refine string_of_reads (e := 5) Try.underlying44 Try.underlying5 Try.underlying9 ⟨hl, by omega, fun h0 => ⟨_, rfl, fun j hj => ?_⟩⟩
  rw [Go.WideShapes.add_plain, Nat.zero_add, cellB h]
  exact hc j hj

theorem encode1 (r : Int) (h : wid r = 1) (w : World) : Calls Try.prog 9 #[.int .i64 r] w fun e w' => e = .returned (.tuple #[.string (strOfNums [r]), .int .i64 0]) ∧ Kp [] w w' := by
  have HW := Lib.hid (fun w => width_any r w)
  rw [h] at HW
  have hr : 0 ≤ r ∧ r < 128 := by have := wid_range r; omega
  clear h
  have hO2 : r % 256 = r := by omega
  have hO : bits .or .u8 0 (r % 256) = r := by
    rw [hO2]
    obtain ⟨k, rfl⟩ : ∃ k : Nat, r = k := ⟨r.toNat, by omega⟩
    have := u8_zero_or ⟨k, by omega⟩
    simpa using this
  have hO' := Lib.hid hO
  go_enter Try.func9, Try.ntmps9
  go_wp2_with fail
  refine (HW.out _).mono ?_
  rintro e w1 ⟨rfl, rfl⟩
  go_wp2_with fail
  go_loopw [0, 6] (fun rr i wr => (rr = .int .i64 r ∧ i = .int .i64 0 ∧ wr.heap[w.heap.size]? = some (.cells #[.int .u8 0, .int .u8 0, .int .u8 0, .int .u8 0] 41 (0, 0)) ∧ Kp [] w wr)) (fun rr i _ => (intOf i).toNat)
  case atStart => exact ⟨rfl, rfl, heap_alloc_new w _, (Kp.refl _ w).alloc _⟩
  case round =>
    rcases hrel with ⟨rfl, rfl, hb, hk⟩
    · have HL := Lib.hid (lead_any 1 (by omega) wr)
      go_wp2_with fail
      refine HL.out.mono ?_
      rintro e w5 ⟨rfl, k5⟩
      have hb5 := (k5.block _ (ltB hb) (by simp)).trans hb
      have c0 := cellB hb5 0
      have f0 := frozB hb5 0
      have hL : ld 1 = 0 := rfl
      have e3 := setB hb5 0 (.int .u8 (bits .or .u8 0 r))
      have hO3 := hO
      rw [hO2] at hO3
      have e4 := e3
      rw [hO3] at e4
      have hcv := conv4 _ w.heap.size 1 [r] _ e4 rfl (by omega) (by intro j hj; match j, hj with | 0, _ => rfl)
      rw [← hO3] at hcv
      simp at c0
      replace hO3 := Lib.hid hO3
      clear e3 e4 hb hb5 hO
      go_wp2_with fail
      go_ret2
      exact ⟨congrArg (fun z => Ending.returned (Value.tuple #[.string (strOfNums [z]), .int .i64 0])) hO3.out, hk.trans k5 |>.setNew (Nat.le_refl _) _⟩

theorem encode2 (r : Int) (h : wid r = 2) (w : World) : Calls Try.prog 9 #[.int .i64 r] w fun e w' => e = .returned (.tuple #[.string (strOfNums [192 + (r / 64), 128 + r % 64]), .int .i64 0]) ∧ Kp [] w w' := by
  have HW := Lib.hid (fun w => width_any r w)
  rw [h] at HW
  have hr : 128 ≤ r ∧ r < 2048 := by have := wid_range r; omega
  clear h
  have hO : bits .or .u8 192 ((r / 64) % 256) = 192 + (r / 64) := by rw [show (r / 64) % 256 = (r / 64) from by omega]; exact u8_or192 _ (by omega) (by omega)
  have hO2 : (r / 64) % 256 = (r / 64) := by omega
  have hO' := Lib.hid hO
  go_enter Try.func9, Try.ntmps9
  go_wp2_with fail
  refine (HW.out _).mono ?_
  rintro e w1 ⟨rfl, rfl⟩
  go_wp2_with fail
  go_loopw [0, 6] (fun rr i wr => (rr = .int .i64 r ∧ i = .int .i64 1 ∧ wr.heap[w.heap.size]? = some (.cells #[.int .u8 0, .int .u8 0, .int .u8 0, .int .u8 0] 41 (0, 0)) ∧ Kp [] w wr) ∨ (rr = .int .i64 (r / 64) ∧ i = .int .i64 0 ∧ wr.heap[w.heap.size]? = some (.cells #[.int .u8 0, .int .u8 (128 + r % 64), .int .u8 0, .int .u8 0] 41 (0, 0)) ∧ Kp [] w wr)) (fun rr i _ => (intOf i).toNat)
  case atStart => exact .inl ⟨rfl, rfl, heap_alloc_new w _, (Kp.refl _ w).alloc _⟩
  case round =>
    rcases hrel with ⟨rfl, rfl, hb, hk⟩ | ⟨rfl, rfl, hb, hk⟩
    · have c1 := cellB hb 1
      have f1 := frozB hb 1
      simp at c1
      have hB := Lib.hid (cont_byte r (by omega) (by omega))
      have e2 := setB hb 1 (.int .u8 (bits .or .i64 128 (bits .and .i64 r 63) % 256))
      rw [hB.out] at e2
      simp at e2
      go_wp2_with fail
      go_round
      case rel =>
        rw [hB.out]
        exact .inr (⟨rfl, rfl, e2, hk.setNew (Nat.le_refl _) _⟩)
      case measure => decide
    · have HL := Lib.hid (lead_any 2 (by omega) wr)
      go_wp2_with fail
      refine HL.out.mono ?_
      rintro e w5 ⟨rfl, k5⟩
      have hb5 := (k5.block _ (ltB hb) (by simp)).trans hb
      have c0 := cellB hb5 0
      have f0 := frozB hb5 0
      have hL : ld 2 = 192 := rfl
      have e3 := setB hb5 0 (.int .u8 (bits .or .u8 192 (r / 64)))
      have hO3 := hO
      rw [hO2] at hO3
      have e4 := e3
      rw [hO3] at e4
      have hcv := conv4 _ w.heap.size 2 [192 + (r / 64), 128 + r % 64] _ e4 rfl (by omega) (by intro j hj; match j, hj with | 0, _ | 1, _ => rfl)
      simp at c0
      clear e3 e4 hb hb5 hO hO3
      go_wp2_with fail
      go_ret2
      exact ⟨rfl, hk.trans k5 |>.setNew (Nat.le_refl _) _⟩

theorem encode3 (r : Int) (h : wid r = 3) (w : World) : Calls Try.prog 9 #[.int .i64 r] w fun e w' => e = .returned (.tuple #[.string (strOfNums [224 + (r / 64 / 64), 128 + (r / 64) % 64, 128 + r % 64]), .int .i64 0]) ∧ Kp [] w w' := by
  have HW := Lib.hid (fun w => width_any r w)
  rw [h] at HW
  have hr : 2048 ≤ r ∧ r < 65536 := by have := wid_range r; omega
  clear h
  have hO : bits .or .u8 224 ((r / 64 / 64) % 256) = 224 + (r / 64 / 64) := by rw [show (r / 64 / 64) % 256 = (r / 64 / 64) from by omega]; exact u8_or224 _ (by omega) (by omega)
  have hO2 : (r / 64 / 64) % 256 = (r / 64 / 64) := by omega
  have hO' := Lib.hid hO
  go_enter Try.func9, Try.ntmps9
  go_wp2_with fail
  refine (HW.out _).mono ?_
  rintro e w1 ⟨rfl, rfl⟩
  go_wp2_with fail
  go_loopw [0, 6] (fun rr i wr => (rr = .int .i64 r ∧ i = .int .i64 2 ∧ wr.heap[w.heap.size]? = some (.cells #[.int .u8 0, .int .u8 0, .int .u8 0, .int .u8 0] 41 (0, 0)) ∧ Kp [] w wr) ∨ (rr = .int .i64 (r / 64) ∧ i = .int .i64 1 ∧ wr.heap[w.heap.size]? = some (.cells #[.int .u8 0, .int .u8 0, .int .u8 (128 + r % 64), .int .u8 0] 41 (0, 0)) ∧ Kp [] w wr) ∨ (rr = .int .i64 (r / 64 / 64) ∧ i = .int .i64 0 ∧ wr.heap[w.heap.size]? = some (.cells #[.int .u8 0, .int .u8 (128 + (r / 64) % 64), .int .u8 (128 + r % 64), .int .u8 0] 41 (0, 0)) ∧ Kp [] w wr)) (fun rr i _ => (intOf i).toNat)
  case atStart => exact .inl ⟨rfl, rfl, heap_alloc_new w _, (Kp.refl _ w).alloc _⟩
  case round =>
    rcases hrel with ⟨rfl, rfl, hb, hk⟩ | ⟨rfl, rfl, hb, hk⟩ | ⟨rfl, rfl, hb, hk⟩
    · have c1 := cellB hb 2
      have f1 := frozB hb 2
      simp at c1
      have hB := Lib.hid (cont_byte r (by omega) (by omega))
      have e2 := setB hb 2 (.int .u8 (bits .or .i64 128 (bits .and .i64 r 63) % 256))
      rw [hB.out] at e2
      simp at e2
      go_wp2_with fail
      go_round
      case rel =>
        rw [hB.out]
        exact .inr (.inl ⟨rfl, rfl, e2, hk.setNew (Nat.le_refl _) _⟩)
      case measure => decide
    · have c1 := cellB hb 1
      have f1 := frozB hb 1
      simp at c1
      have hB := Lib.hid (cont_byte (r / 64) (by omega) (by omega))
      have e2 := setB hb 1 (.int .u8 (bits .or .i64 128 (bits .and .i64 (r / 64) 63) % 256))
      rw [hB.out] at e2
      simp at e2
      go_wp2_with fail
      go_round
      case rel =>
        rw [hB.out]
        exact .inr (.inr (⟨rfl, rfl, e2, hk.setNew (Nat.le_refl _) _⟩))
      case measure => decide
    · have HL := Lib.hid (lead_any 3 (by omega) wr)
      go_wp2_with fail
      refine HL.out.mono ?_
      rintro e w5 ⟨rfl, k5⟩
      have hb5 := (k5.block _ (ltB hb) (by simp)).trans hb
      have c0 := cellB hb5 0
      have f0 := frozB hb5 0
      have hL : ld 3 = 224 := rfl
      have e3 := setB hb5 0 (.int .u8 (bits .or .u8 224 (r / 64 / 64)))
      have hO3 := hO
      rw [hO2] at hO3
      have e4 := e3
      rw [hO3] at e4
      have hcv := conv4 _ w.heap.size 3 [224 + (r / 64 / 64), 128 + (r / 64) % 64, 128 + r % 64] _ e4 rfl (by omega) (by intro j hj; match j, hj with | 0, _ | 1, _ | 2, _ => rfl)
      simp at c0
      clear e3 e4 hb hb5 hO hO3
      go_wp2_with fail
      go_ret2
      exact ⟨rfl, hk.trans k5 |>.setNew (Nat.le_refl _) _⟩

theorem encode4 (r : Int) (h : wid r = 4) (w : World) : Calls Try.prog 9 #[.int .i64 r] w fun e w' => e = .returned (.tuple #[.string (strOfNums [240 + (r / 64 / 64 / 64), 128 + (r / 64 / 64) % 64, 128 + (r / 64) % 64, 128 + r % 64]), .int .i64 0]) ∧ Kp [] w w' := by
  have HW := Lib.hid (fun w => width_any r w)
  rw [h] at HW
  have hr : 65536 ≤ r ∧ r < 1114112 := by have := wid_range r; omega
  clear h
  have hO : bits .or .u8 240 ((r / 64 / 64 / 64) % 256) = 240 + (r / 64 / 64 / 64) := by rw [show (r / 64 / 64 / 64) % 256 = (r / 64 / 64 / 64) from by omega]; exact u8_or240 _ (by omega) (by omega)
  have hO2 : (r / 64 / 64 / 64) % 256 = (r / 64 / 64 / 64) := by omega
  have hO' := Lib.hid hO
  go_enter Try.func9, Try.ntmps9
  go_wp2_with fail
  refine (HW.out _).mono ?_
  rintro e w1 ⟨rfl, rfl⟩
  go_wp2_with fail
  go_loopw [0, 6] (fun rr i wr => (rr = .int .i64 r ∧ i = .int .i64 3 ∧ wr.heap[w.heap.size]? = some (.cells #[.int .u8 0, .int .u8 0, .int .u8 0, .int .u8 0] 41 (0, 0)) ∧ Kp [] w wr) ∨ (rr = .int .i64 (r / 64) ∧ i = .int .i64 2 ∧ wr.heap[w.heap.size]? = some (.cells #[.int .u8 0, .int .u8 0, .int .u8 0, .int .u8 (128 + r % 64)] 41 (0, 0)) ∧ Kp [] w wr) ∨ (rr = .int .i64 (r / 64 / 64) ∧ i = .int .i64 1 ∧ wr.heap[w.heap.size]? = some (.cells #[.int .u8 0, .int .u8 0, .int .u8 (128 + (r / 64) % 64), .int .u8 (128 + r % 64)] 41 (0, 0)) ∧ Kp [] w wr) ∨ (rr = .int .i64 (r / 64 / 64 / 64) ∧ i = .int .i64 0 ∧ wr.heap[w.heap.size]? = some (.cells #[.int .u8 0, .int .u8 (128 + (r / 64 / 64) % 64), .int .u8 (128 + (r / 64) % 64), .int .u8 (128 + r % 64)] 41 (0, 0)) ∧ Kp [] w wr)) (fun rr i _ => (intOf i).toNat)
  case atStart => exact .inl ⟨rfl, rfl, heap_alloc_new w _, (Kp.refl _ w).alloc _⟩
  case round =>
    rcases hrel with ⟨rfl, rfl, hb, hk⟩ | ⟨rfl, rfl, hb, hk⟩ | ⟨rfl, rfl, hb, hk⟩ | ⟨rfl, rfl, hb, hk⟩
    · have c1 := cellB hb 3
      have f1 := frozB hb 3
      simp at c1
      have hB := Lib.hid (cont_byte r (by omega) (by omega))
      have e2 := setB hb 3 (.int .u8 (bits .or .i64 128 (bits .and .i64 r 63) % 256))
      rw [hB.out] at e2
      simp at e2
      go_wp2_with fail
      go_round
      case rel =>
        rw [hB.out]
        exact .inr (.inl ⟨rfl, rfl, e2, hk.setNew (Nat.le_refl _) _⟩)
      case measure => decide
    · have c1 := cellB hb 2
      have f1 := frozB hb 2
      simp at c1
      have hB := Lib.hid (cont_byte (r / 64) (by omega) (by omega))
      have e2 := setB hb 2 (.int .u8 (bits .or .i64 128 (bits .and .i64 (r / 64) 63) % 256))
      rw [hB.out] at e2
      simp at e2
      go_wp2_with fail
      go_round
      case rel =>
        rw [hB.out]
        exact .inr (.inr (.inl ⟨rfl, rfl, e2, hk.setNew (Nat.le_refl _) _⟩))
      case measure => decide
    · have c1 := cellB hb 1
      have f1 := frozB hb 1
      simp at c1
      have hB := Lib.hid (cont_byte (r / 64 / 64) (by omega) (by omega))
      have e2 := setB hb 1 (.int .u8 (bits .or .i64 128 (bits .and .i64 (r / 64 / 64) 63) % 256))
      rw [hB.out] at e2
      simp at e2
      go_wp2_with fail
      go_round
      case rel =>
        rw [hB.out]
        exact .inr (.inr (.inr (⟨rfl, rfl, e2, hk.setNew (Nat.le_refl _) _⟩)))
      case measure => decide
    · have HL := Lib.hid (lead_any 4 (by omega) wr)
      go_wp2_with fail
      refine HL.out.mono ?_
      rintro e w5 ⟨rfl, k5⟩
      have hb5 := (k5.block _ (ltB hb) (by simp)).trans hb
      have c0 := cellB hb5 0
      have f0 := frozB hb5 0
      have hL : ld 4 = 240 := rfl
      have e3 := setB hb5 0 (.int .u8 (bits .or .u8 240 (r / 64 / 64 / 64)))
      have hO3 := hO
      rw [hO2] at hO3
      have e4 := e3
      rw [hO3] at e4
      have hcv := conv4 _ w.heap.size 4 [240 + (r / 64 / 64 / 64), 128 + (r / 64 / 64) % 64, 128 + (r / 64) % 64, 128 + r % 64] _ e4 rfl (by omega) (by intro j hj; match j, hj with | 0, _ | 1, _ | 2, _ | 3, _ => rfl)
      simp at c0
      clear e3 e4 hb hb5 hO hO3
      go_wp2_with fail
      go_ret2
      exact ⟨rfl, hk.trans k5 |>.setNew (Nat.le_refl _) _⟩

theorem encode0 (r : Int) (h : wid r = 0) (w : World) : Calls Try.prog 9 #[.int .i64 r] w fun e w' => e = .returned (.tuple #[.string ⟨#[]⟩, .int .i64 1]) ∧ Kp [] w w' := by
  have HW := Lib.hid (fun w => width_any r w)
  rw [h] at HW
  clear h
  go_enter Try.func9, Try.ntmps9
  go_wp2_with fail
  refine (HW.out _).mono ?_
  rintro e w1 ⟨rfl, rfl⟩
  go_wp2_with fail
  go_ret2
  exact ⟨rfl, Kp.refl _ _⟩
end Go.Proofs.Ytbcmjpmnljfolaa
