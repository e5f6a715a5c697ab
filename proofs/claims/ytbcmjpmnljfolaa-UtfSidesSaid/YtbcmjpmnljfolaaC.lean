/- Package utf: long and Decode: what they compute, for every text, in every world. -/
import Derived.Test.YtbcmjpmnljfolaaA
import Derived.Deep.RegionHeld3
namespace Go.Proofs.Ytbcmjpmnljfolaa
open Go.RowKit PUtfPieces Go.Proofs.YtbcmjpmnljfolaaW.PrintWords Go.Proofs.YtbcmjpmnljfolaaW.PrintLast Go.Proofs.YtbcmjpmnljfolaaW.PrintMore
set_option linter.unusedVariables false

def lng (b : Int) : Int := if b ≤ 127 then 1 else if b < 194 then 0 else if b < 224 then 2 else if b < 240 then 3 else if b < 245 then 4 else 0
theorem long_any (b : Int) (h0 : 0 ≤ b) (h1 : b < 256) (w : World) : Calls Try.prog 25 #[.int .u8 b] w fun e w' => e = .returned (.int .i64 (lng b)) ∧ w = w' := by
  unfold lng
  by_cases c1 : b ≤ 127
  · rw [if_pos c1]
    have d1 : decide (b ≤ 127) = true := decide_eq_true c1
    go_enter Try.func25, Try.ntmps25
    go_wp2
    go_ret
    exact ⟨rfl, rfl⟩
  have d1 : decide (b ≤ 127) = false := decide_eq_false c1
  rw [if_neg c1]
  by_cases c2 : b < 194
  · rw [if_pos c2]
    have d2 : decide (194 ≤ b) = false := decide_eq_false (by omega)
    have d3 : decide (224 ≤ b) = false := decide_eq_false (by omega)
    have d4 : decide (240 ≤ b) = false := decide_eq_false (by omega)
    go_enter Try.func25, Try.ntmps25
    go_wp2
    go_ret
    exact ⟨rfl, rfl⟩
  have d2 : decide (194 ≤ b) = true := decide_eq_true (by omega)
  rw [if_neg c2]
  by_cases c3 : b < 224
  · rw [if_pos c3]
    have d3 : decide (b < 224) = true := decide_eq_true c3
    go_enter Try.func25, Try.ntmps25
    go_wp2
    go_ret
    exact ⟨rfl, rfl⟩
  have d3 : decide (b < 224) = false := decide_eq_false c3
  have d4 : decide (224 ≤ b) = true := decide_eq_true (by omega)
  rw [if_neg c3]
  by_cases c4 : b < 240
  · rw [if_pos c4]
    have d5 : decide (b < 240) = true := decide_eq_true c4
    go_enter Try.func25, Try.ntmps25
    go_wp2
    go_ret
    exact ⟨rfl, rfl⟩
  have d5 : decide (b < 240) = false := decide_eq_false c4
  have d6 : decide (240 ≤ b) = true := decide_eq_true (by omega)
  rw [if_neg c4]
  by_cases c5 : b < 245
  · rw [if_pos c5]
    have d7 : decide (b < 245) = true := decide_eq_true c5
    go_enter Try.func25, Try.ntmps25
    go_wp2
    go_ret
    exact ⟨rfl, rfl⟩
  · rw [if_neg c5]
    have d7 : decide (b < 245) = false := decide_eq_false c5
    go_enter Try.func25, Try.ntmps25
    go_wp2
    go_ret
    exact ⟨rfl, rfl⟩

theorem isEmpty_no (s : ByteArray) (h : 0 < s.size) : s.toList.isEmpty = false := by
  cases hh : s.toList with
  | nil =>
    rw [ByteArray.toList_eq] at hh
    have := data_length s
    rw [hh] at this
    simp at this
    omega
  | cons a t => rfl
theorem u8_cont : ∀ k : Fin 256, (bits .and .u8 (k.val : Int) 192 = 128) = (128 ≤ k.val ∧ k.val < 192) := by decide +kernel
theorem u8_xor192 : ∀ k : Fin 256, 192 ≤ k.val → k.val < 224 → bits .xor .u8 (k.val : Int) 192 = (k.val : Int) - 192 := by decide +kernel
theorem u8_xor224 : ∀ k : Fin 256, 224 ≤ k.val → k.val < 240 → bits .xor .u8 (k.val : Int) 224 = (k.val : Int) - 224 := by decide +kernel
theorem u8_xor240 : ∀ k : Fin 256, 240 ≤ k.val → k.val < 256 → bits .xor .u8 (k.val : Int) 240 = (k.val : Int) - 240 := by decide +kernel
theorem u8_xor0 : ∀ k : Fin 256, bits .xor .u8 (k.val : Int) 0 = (k.val : Int) := by decide +kernel
theorem cont_yes (b : Int) (h : 128 ≤ b ∧ b < 192) : bits .and .u8 b 192 = 128 := by
  obtain ⟨k, rfl⟩ : ∃ k : Nat, b = k := ⟨b.toNat, by omega⟩
  have := u8_cont ⟨k, by omega⟩
  simp only [] at this
  rw [this]
  omega
theorem cont_no (b : Int) (h0 : 0 ≤ b) (h1 : b < 256) (h : ¬ (128 ≤ b ∧ b < 192)) : (bits .and .u8 b 192 != 128) = true := by
  obtain ⟨k, rfl⟩ : ∃ k : Nat, b = k := ⟨b.toNat, by omega⟩
  have := u8_cont ⟨k, by omega⟩
  simp only [] at this
  rw [bne_iff_ne]
  intro he
  rw [this] at he
  omega

theorem dec0_any (s : ByteArray) (h1 : 1 ≤ s.size) (b0 : Int) (e0 : bt s 0 = b0) (hz : 0 ≤ b0 ∧ b0 < 256) (h0 : (128 ≤ b0 ∧ b0 < 194) ∨ 245 ≤ b0) (w : World) :
    Calls Try.prog 11 #[.string s] w fun e w' => e = .returned (.tuple #[.int .i64 (-1), .int .i64 1]) ∧ Kp [] w w' := by
  have hE := isEmpty_no s (by omega)
  have HL := Lib.hid (fun w => long_any b0 (by omega) (by omega) w)
  rw [show lng b0 = 0 from by unfold lng; rcases h0 with h0 | h0 <;> repeat (first | rw [if_neg (by omega)] | rw [if_pos (by omega)])] at HL
  have q0 : ((s[0]'(by omega)).toNat : Int) = b0 := (bt_at s 0 (by show 0 < s.size; omega)).trans e0
  clear e0
  go_enter Try.func11, Try.ntmps11
  go_wp2_with fail
  refine (HL.out _).mono ?_
  rintro e w1 ⟨rfl, rfl⟩
  go_wp2_with fail
  go_ret2
  exact ⟨rfl, Kp.refl _ _⟩
theorem decE_any (w : World) : Calls Try.prog 11 #[.string ⟨#[]⟩] w fun e w' => e = .returned (.tuple #[.int .i64 (-1), .int .i64 0]) ∧ Kp [] w w' := by
  go_enter Try.func11, Try.ntmps11
  go_wp2_with fail
  go_ret2
  exact ⟨rfl, Kp.refl _ _⟩

theorem dec1_good (s : ByteArray) (hs : 1 ≤ s.size) (b0 : Int) (e0 : bt s 0 = b0) (h0 : 0 ≤ b0 ∧ b0 < 128) (hw : wid b0 = 1) (w : World) :
    Calls Try.prog 11 #[.string s] w fun e w' => e = .returned (.tuple #[.int .i64 b0, .int .i64 1]) ∧ Kp [] w w' := by
  have hE := isEmpty_no s (by omega)
  have HL := Lib.hid (fun w => long_any b0 (by omega) (by omega) w)
  rw [show lng b0 = 1 from by unfold lng; repeat (first | rw [if_neg (by omega)] | rw [if_pos (by omega)])] at HL
  have HD := Lib.hid (fun w => lead_any 1 (by omega) w)
  have HW := Lib.hid (fun w => width_any b0 w)
  rw [hw] at HW
  have q0 : ((s[0]'(by omega)).toNat : Int) = b0 := (bt_at s 0 (by show 0 < s.size; omega)).trans e0
  have hX : bits .xor .u8 b0 0 = b0 := by
    obtain ⟨k, rfl⟩ : ∃ k : Nat, b0 = k := ⟨b0.toNat, by omega⟩
    exact u8_xor0 ⟨k, by omega⟩
  have hsz : ¬ ((s.size : Int) < 1) := by omega
  have hS : Hid (IntKind.i64.wrap (bits .xor .u8 b0 (ld 1)) = b0) := by
    show IntKind.i64.wrap (bits .xor .u8 b0 0) = b0
    rw [hX, IntKind.wrap_i64]; omega
  clear e0 hX hw
  go_enter Try.func11, Try.ntmps11
  go_wp2_with fail
  refine (HL.out _).mono ?_
  rintro e w1 ⟨rfl, rfl⟩
  go_wp2_with fail
  have K0 : Kp [] w w ∧ True := ⟨Kp.refl _ _, trivial⟩
  go_region_held3 (fun w' => (Kp [] w w' ∧ True)) (first | assumption | exact ⟨Kp.drew (And.left (by assumption)), trivial⟩)
    (first | (go_at_call 24; refine (HD.out _).mono ?_; rintro e w' ⟨rfl, k2⟩; have k3 : Kp [] w w' ∧ True := ⟨Kp.trans (And.left (by assumption)) k2, trivial⟩))
  all_goals
    obtain ⟨hk, _⟩ := k3
    obtain ⟨wA, rfl⟩ : ∃ wA, wA = w' := ⟨_, rfl⟩
    clear K0
    go_wp2_with fail
    go_loopw [2, 3, 4] (fun rr nn i wr => ((rr = .int .i64 b0 ∧ i = .int .i64 1)) ∧ nn = .int .i64 1 ∧ wr = wA) (fun rr nn i _ => 4 - (intOf i).toNat)
    case atStart => exact ⟨⟨congrArg (Value.int .i64) hS.out, rfl⟩, rfl, rfl⟩
    case round =>
      obtain ⟨⟨rfl, rfl⟩, rfl, rfl⟩ := hrel
      · go_wp2_with fail
        refine (HW.out _).mono ?_
        rintro e w1 ⟨rfl, rfl⟩
        go_wp2_with fail
        go_ret2
        exact ⟨rfl, hk⟩

theorem dec2_short (s : ByteArray) (h1 : 1 ≤ s.size) (hs : s.size < 2) (b0 : Int) (e0 : bt s 0 = b0) (h0 : 194 ≤ b0 ∧ b0 < 224) (w : World) :
    Calls Try.prog 11 #[.string s] w fun e w' => e = .returned (.tuple #[.int .i64 (-1), .int .i64 1]) ∧ Kp [] w w' := by
  have hE := isEmpty_no s (by omega)
  have HL := Lib.hid (fun w => long_any b0 (by omega) (by omega) w)
  rw [show lng b0 = 2 from by unfold lng; repeat (first | rw [if_neg (by omega)] | rw [if_pos (by omega)])] at HL
  have q0 : ((s[0]'(by omega)).toNat : Int) = b0 := (bt_at s 0 (by show 0 < s.size; omega)).trans e0
  have hsz : decide ((s.size : Int) < 2) = true := decide_eq_true (by omega)
  clear e0
  go_enter Try.func11, Try.ntmps11
  go_wp2_with fail
  refine (HL.out _).mono ?_
  rintro e w1 ⟨rfl, rfl⟩
  go_wp2_with fail
  go_ret2
  exact ⟨rfl, Kp.refl _ _⟩

theorem dec2_bad0 (s : ByteArray) (hs : 2 ≤ s.size) (b0 b1 : Int) (e0 : bt s 0 = b0) (e1 : bt s 1 = b1) (h0 : 194 ≤ b0 ∧ b0 < 224) (hz : 0 ≤ b1 ∧ b1 < 256) (hb : ¬ (128 ≤ b1 ∧ b1 < 192)) (w : World) :
    Calls Try.prog 11 #[.string s] w fun e w' => e = .returned (.tuple #[.int .i64 (-1), .int .i64 1]) ∧ Kp [] w w' := by
  have hE := isEmpty_no s (by omega)
  have HL := Lib.hid (fun w => long_any b0 (by omega) (by omega) w)
  rw [show lng b0 = 2 from by unfold lng; repeat (first | rw [if_neg (by omega)] | rw [if_pos (by omega)])] at HL
  have HD := Lib.hid (fun w => lead_any 2 (by omega) w)
  have q0 : ((s[0]'(by omega)).toNat : Int) = b0 := (bt_at s 0 (by show 0 < s.size; omega)).trans e0
  have q1 : ((s[1]'(by omega)).toNat : Int) = b1 := (bt_at s 1 (by show 1 < s.size; omega)).trans e1
  have hX : bits .xor .u8 b0 192 = b0 - 192 := by
    obtain ⟨k, rfl⟩ : ∃ k : Nat, b0 = k := ⟨b0.toNat, by omega⟩
    exact u8_xor192 ⟨k, by omega⟩ (by show 192 ≤ k; omega) (by show k < 224; omega)
  have hB := cont_no b1 hz.1 hz.2 hb
  have hsz : ¬ ((s.size : Int) < 2) := by omega
  have hS : Hid (IntKind.i64.wrap (bits .xor .u8 b0 (ld 2)) = (b0 - 192)) := by
    show IntKind.i64.wrap (bits .xor .u8 b0 192) = (b0 - 192)
    rw [hX, IntKind.wrap_i64]; omega
  clear e0 e1 hX hb
  go_enter Try.func11, Try.ntmps11
  go_wp2_with fail
  refine (HL.out _).mono ?_
  rintro e w1 ⟨rfl, rfl⟩
  go_wp2_with fail
  have K0 : Kp [] w w ∧ True := ⟨Kp.refl _ _, trivial⟩
  go_region_held3 (fun w' => (Kp [] w w' ∧ True)) (first | assumption | exact ⟨Kp.drew (And.left (by assumption)), trivial⟩)
    (first | (go_at_call 24; refine (HD.out _).mono ?_; rintro e w' ⟨rfl, k2⟩; have k3 : Kp [] w w' ∧ True := ⟨Kp.trans (And.left (by assumption)) k2, trivial⟩))
  all_goals
    obtain ⟨hk, _⟩ := k3
    obtain ⟨wA, rfl⟩ : ∃ wA, wA = w' := ⟨_, rfl⟩
    clear K0
    go_wp2_with fail
    go_loopw [2, 3, 4] (fun rr nn i wr => ((rr = .int .i64 (b0 - 192) ∧ i = .int .i64 1)) ∧ nn = .int .i64 2 ∧ wr = wA) (fun rr nn i _ => 4 - (intOf i).toNat)
    case atStart => exact ⟨⟨congrArg (Value.int .i64) hS.out, rfl⟩, rfl, rfl⟩
    case round =>
      obtain ⟨⟨rfl, rfl⟩, rfl, rfl⟩ := hrel
      · go_wp2_with fail
        go_ret2
        exact ⟨rfl, hk⟩

theorem dec2_good (s : ByteArray) (hs : 2 ≤ s.size) (b0 b1 : Int) (e0 : bt s 0 = b0) (e1 : bt s 1 = b1) (h0 : 194 ≤ b0 ∧ b0 < 224) (h1 : 128 ≤ b1 ∧ b1 < 192) (hw : wid ((b0 - 192) * 64 + b1 % 64) = 2) (w : World) :
    Calls Try.prog 11 #[.string s] w fun e w' => e = .returned (.tuple #[.int .i64 ((b0 - 192) * 64 + b1 % 64), .int .i64 2]) ∧ Kp [] w w' := by
  have hE := isEmpty_no s (by omega)
  have HL := Lib.hid (fun w => long_any b0 (by omega) (by omega) w)
  rw [show lng b0 = 2 from by unfold lng; repeat (first | rw [if_neg (by omega)] | rw [if_pos (by omega)])] at HL
  have HD := Lib.hid (fun w => lead_any 2 (by omega) w)
  have HW := Lib.hid (fun w => width_any ((b0 - 192) * 64 + b1 % 64) w)
  rw [hw] at HW
  have q0 : ((s[0]'(by omega)).toNat : Int) = b0 := (bt_at s 0 (by show 0 < s.size; omega)).trans e0
  have q1 : ((s[1]'(by omega)).toNat : Int) = b1 := (bt_at s 1 (by show 1 < s.size; omega)).trans e1
  have hX : bits .xor .u8 b0 192 = b0 - 192 := by
    obtain ⟨k, rfl⟩ : ∃ k : Nat, b0 = k := ⟨b0.toNat, by omega⟩
    exact u8_xor192 ⟨k, by omega⟩ (by show 192 ≤ k; omega) (by show k < 224; omega)
  have hA1 := cont_yes b1 h1
  have hM1 := u8_and63 (x := b1) (by omega) (by omega)
  have hJ1 := i64_or6 ((b0 - 192) * 64) (b1 % 64) (by omega) (by omega) (by omega) (by omega) (by omega)
  have hsz : ¬ ((s.size : Int) < 2) := by omega
  have hS : Hid (IntKind.i64.wrap (bits .xor .u8 b0 (ld 2)) = (b0 - 192)) := by
    show IntKind.i64.wrap (bits .xor .u8 b0 192) = (b0 - 192)
    rw [hX, IntKind.wrap_i64]; omega
  clear e0 e1 hX hw
  go_enter Try.func11, Try.ntmps11
  go_wp2_with fail
  refine (HL.out _).mono ?_
  rintro e w1 ⟨rfl, rfl⟩
  go_wp2_with fail
  have K0 : Kp [] w w ∧ True := ⟨Kp.refl _ _, trivial⟩
  go_region_held3 (fun w' => (Kp [] w w' ∧ True)) (first | assumption | exact ⟨Kp.drew (And.left (by assumption)), trivial⟩)
    (first | (go_at_call 24; refine (HD.out _).mono ?_; rintro e w' ⟨rfl, k2⟩; have k3 : Kp [] w w' ∧ True := ⟨Kp.trans (And.left (by assumption)) k2, trivial⟩))
  all_goals
    obtain ⟨hk, _⟩ := k3
    obtain ⟨wA, rfl⟩ : ∃ wA, wA = w' := ⟨_, rfl⟩
    clear K0
    go_wp2_with fail
    go_loopw [2, 3, 4] (fun rr nn i wr => ((rr = .int .i64 (b0 - 192) ∧ i = .int .i64 1) ∨ (rr = .int .i64 ((b0 - 192) * 64 + b1 % 64) ∧ i = .int .i64 2)) ∧ nn = .int .i64 2 ∧ wr = wA) (fun rr nn i _ => 4 - (intOf i).toNat)
    case atStart => exact ⟨.inl ⟨congrArg (Value.int .i64) hS.out, rfl⟩, rfl, rfl⟩
    case round =>
      obtain ⟨⟨rfl, rfl⟩ | ⟨rfl, rfl⟩, rfl, rfl⟩ := hrel
      · go_wp2_with fail
        go_round
        case rel => exact ⟨.inr (⟨rfl, rfl⟩), rfl, trivial⟩
        case measure => decide
      · go_wp2_with fail
        refine (HW.out _).mono ?_
        rintro e w1 ⟨rfl, rfl⟩
        go_wp2_with fail
        go_ret2
        exact ⟨rfl, hk⟩

theorem dec3_short (s : ByteArray) (h1 : 1 ≤ s.size) (hs : s.size < 3) (b0 : Int) (e0 : bt s 0 = b0) (h0 : 224 ≤ b0 ∧ b0 < 240) (w : World) :
    Calls Try.prog 11 #[.string s] w fun e w' => e = .returned (.tuple #[.int .i64 (-1), .int .i64 1]) ∧ Kp [] w w' := by
  have hE := isEmpty_no s (by omega)
  have HL := Lib.hid (fun w => long_any b0 (by omega) (by omega) w)
  rw [show lng b0 = 3 from by unfold lng; repeat (first | rw [if_neg (by omega)] | rw [if_pos (by omega)])] at HL
  have q0 : ((s[0]'(by omega)).toNat : Int) = b0 := (bt_at s 0 (by show 0 < s.size; omega)).trans e0
  have hsz : decide ((s.size : Int) < 3) = true := decide_eq_true (by omega)
  clear e0
  go_enter Try.func11, Try.ntmps11
  go_wp2_with fail
  refine (HL.out _).mono ?_
  rintro e w1 ⟨rfl, rfl⟩
  go_wp2_with fail
  go_ret2
  exact ⟨rfl, Kp.refl _ _⟩

theorem dec3_bad0 (s : ByteArray) (hs : 3 ≤ s.size) (b0 b1 : Int) (e0 : bt s 0 = b0) (e1 : bt s 1 = b1) (h0 : 224 ≤ b0 ∧ b0 < 240) (hz : 0 ≤ b1 ∧ b1 < 256) (hb : ¬ (128 ≤ b1 ∧ b1 < 192)) (w : World) :
    Calls Try.prog 11 #[.string s] w fun e w' => e = .returned (.tuple #[.int .i64 (-1), .int .i64 1]) ∧ Kp [] w w' := by
  have hE := isEmpty_no s (by omega)
  have HL := Lib.hid (fun w => long_any b0 (by omega) (by omega) w)
  rw [show lng b0 = 3 from by unfold lng; repeat (first | rw [if_neg (by omega)] | rw [if_pos (by omega)])] at HL
  have HD := Lib.hid (fun w => lead_any 3 (by omega) w)
  have q0 : ((s[0]'(by omega)).toNat : Int) = b0 := (bt_at s 0 (by show 0 < s.size; omega)).trans e0
  have q1 : ((s[1]'(by omega)).toNat : Int) = b1 := (bt_at s 1 (by show 1 < s.size; omega)).trans e1
  have hX : bits .xor .u8 b0 224 = b0 - 224 := by
    obtain ⟨k, rfl⟩ : ∃ k : Nat, b0 = k := ⟨b0.toNat, by omega⟩
    exact u8_xor224 ⟨k, by omega⟩ (by show 224 ≤ k; omega) (by show k < 240; omega)
  have hB := cont_no b1 hz.1 hz.2 hb
  have hsz : ¬ ((s.size : Int) < 3) := by omega
  have hS : Hid (IntKind.i64.wrap (bits .xor .u8 b0 (ld 3)) = (b0 - 224)) := by
    show IntKind.i64.wrap (bits .xor .u8 b0 224) = (b0 - 224)
    rw [hX, IntKind.wrap_i64]; omega
  clear e0 e1 hX hb
  go_enter Try.func11, Try.ntmps11
  go_wp2_with fail
  refine (HL.out _).mono ?_
  rintro e w1 ⟨rfl, rfl⟩
  go_wp2_with fail
  have K0 : Kp [] w w ∧ True := ⟨Kp.refl _ _, trivial⟩
  go_region_held3 (fun w' => (Kp [] w w' ∧ True)) (first | assumption | exact ⟨Kp.drew (And.left (by assumption)), trivial⟩)
    (first | (go_at_call 24; refine (HD.out _).mono ?_; rintro e w' ⟨rfl, k2⟩; have k3 : Kp [] w w' ∧ True := ⟨Kp.trans (And.left (by assumption)) k2, trivial⟩))
  all_goals
    obtain ⟨hk, _⟩ := k3
    obtain ⟨wA, rfl⟩ : ∃ wA, wA = w' := ⟨_, rfl⟩
    clear K0
    go_wp2_with fail
    go_loopw [2, 3, 4] (fun rr nn i wr => ((rr = .int .i64 (b0 - 224) ∧ i = .int .i64 1)) ∧ nn = .int .i64 3 ∧ wr = wA) (fun rr nn i _ => 4 - (intOf i).toNat)
    case atStart => exact ⟨⟨congrArg (Value.int .i64) hS.out, rfl⟩, rfl, rfl⟩
    case round =>
      obtain ⟨⟨rfl, rfl⟩, rfl, rfl⟩ := hrel
      · go_wp2_with fail
        go_ret2
        exact ⟨rfl, hk⟩

theorem dec3_bad1 (s : ByteArray) (hs : 3 ≤ s.size) (b0 b1 b2 : Int) (e0 : bt s 0 = b0) (e1 : bt s 1 = b1) (e2 : bt s 2 = b2) (h0 : 224 ≤ b0 ∧ b0 < 240) (h1 : 128 ≤ b1 ∧ b1 < 192) (hz : 0 ≤ b2 ∧ b2 < 256) (hb : ¬ (128 ≤ b2 ∧ b2 < 192)) (w : World) :
    Calls Try.prog 11 #[.string s] w fun e w' => e = .returned (.tuple #[.int .i64 (-1), .int .i64 1]) ∧ Kp [] w w' := by
  have hE := isEmpty_no s (by omega)
  have HL := Lib.hid (fun w => long_any b0 (by omega) (by omega) w)
  rw [show lng b0 = 3 from by unfold lng; repeat (first | rw [if_neg (by omega)] | rw [if_pos (by omega)])] at HL
  have HD := Lib.hid (fun w => lead_any 3 (by omega) w)
  have q0 : ((s[0]'(by omega)).toNat : Int) = b0 := (bt_at s 0 (by show 0 < s.size; omega)).trans e0
  have q1 : ((s[1]'(by omega)).toNat : Int) = b1 := (bt_at s 1 (by show 1 < s.size; omega)).trans e1
  have q2 : ((s[2]'(by omega)).toNat : Int) = b2 := (bt_at s 2 (by show 2 < s.size; omega)).trans e2
  have hX : bits .xor .u8 b0 224 = b0 - 224 := by
    obtain ⟨k, rfl⟩ : ∃ k : Nat, b0 = k := ⟨b0.toNat, by omega⟩
    exact u8_xor224 ⟨k, by omega⟩ (by show 224 ≤ k; omega) (by show k < 240; omega)
  have hA1 := cont_yes b1 h1
  have hM1 := u8_and63 (x := b1) (by omega) (by omega)
  have hJ1 := i64_or6 ((b0 - 224) * 64) (b1 % 64) (by omega) (by omega) (by omega) (by omega) (by omega)
  have hB := cont_no b2 hz.1 hz.2 hb
  have hsz : ¬ ((s.size : Int) < 3) := by omega
  have hS : Hid (IntKind.i64.wrap (bits .xor .u8 b0 (ld 3)) = (b0 - 224)) := by
    show IntKind.i64.wrap (bits .xor .u8 b0 224) = (b0 - 224)
    rw [hX, IntKind.wrap_i64]; omega
  clear e0 e1 e2 hX hb
  go_enter Try.func11, Try.ntmps11
  go_wp2_with fail
  refine (HL.out _).mono ?_
  rintro e w1 ⟨rfl, rfl⟩
  go_wp2_with fail
  have K0 : Kp [] w w ∧ True := ⟨Kp.refl _ _, trivial⟩
  go_region_held3 (fun w' => (Kp [] w w' ∧ True)) (first | assumption | exact ⟨Kp.drew (And.left (by assumption)), trivial⟩)
    (first | (go_at_call 24; refine (HD.out _).mono ?_; rintro e w' ⟨rfl, k2⟩; have k3 : Kp [] w w' ∧ True := ⟨Kp.trans (And.left (by assumption)) k2, trivial⟩))
  all_goals
    obtain ⟨hk, _⟩ := k3
    obtain ⟨wA, rfl⟩ : ∃ wA, wA = w' := ⟨_, rfl⟩
    clear K0
    go_wp2_with fail
    go_loopw [2, 3, 4] (fun rr nn i wr => ((rr = .int .i64 (b0 - 224) ∧ i = .int .i64 1) ∨ (rr = .int .i64 ((b0 - 224) * 64 + b1 % 64) ∧ i = .int .i64 2)) ∧ nn = .int .i64 3 ∧ wr = wA) (fun rr nn i _ => 4 - (intOf i).toNat)
    case atStart => exact ⟨.inl ⟨congrArg (Value.int .i64) hS.out, rfl⟩, rfl, rfl⟩
    case round =>
      obtain ⟨⟨rfl, rfl⟩ | ⟨rfl, rfl⟩, rfl, rfl⟩ := hrel
      · go_wp2_with fail
        go_round
        case rel => exact ⟨.inr (⟨rfl, rfl⟩), rfl, trivial⟩
        case measure => decide
      · go_wp2_with fail
        go_ret2
        exact ⟨rfl, hk⟩

theorem dec3_good (s : ByteArray) (hs : 3 ≤ s.size) (b0 b1 b2 : Int) (e0 : bt s 0 = b0) (e1 : bt s 1 = b1) (e2 : bt s 2 = b2) (h0 : 224 ≤ b0 ∧ b0 < 240) (h1 : 128 ≤ b1 ∧ b1 < 192) (h2 : 128 ≤ b2 ∧ b2 < 192) (hw : wid (((b0 - 224) * 64 + b1 % 64) * 64 + b2 % 64) = 3) (w : World) :
    Calls Try.prog 11 #[.string s] w fun e w' => e = .returned (.tuple #[.int .i64 (((b0 - 224) * 64 + b1 % 64) * 64 + b2 % 64), .int .i64 3]) ∧ Kp [] w w' := by
  have hE := isEmpty_no s (by omega)
  have HL := Lib.hid (fun w => long_any b0 (by omega) (by omega) w)
  rw [show lng b0 = 3 from by unfold lng; repeat (first | rw [if_neg (by omega)] | rw [if_pos (by omega)])] at HL
  have HD := Lib.hid (fun w => lead_any 3 (by omega) w)
  have HW := Lib.hid (fun w => width_any (((b0 - 224) * 64 + b1 % 64) * 64 + b2 % 64) w)
  rw [hw] at HW
  have q0 : ((s[0]'(by omega)).toNat : Int) = b0 := (bt_at s 0 (by show 0 < s.size; omega)).trans e0
  have q1 : ((s[1]'(by omega)).toNat : Int) = b1 := (bt_at s 1 (by show 1 < s.size; omega)).trans e1
  have q2 : ((s[2]'(by omega)).toNat : Int) = b2 := (bt_at s 2 (by show 2 < s.size; omega)).trans e2
  have hX : bits .xor .u8 b0 224 = b0 - 224 := by
    obtain ⟨k, rfl⟩ : ∃ k : Nat, b0 = k := ⟨b0.toNat, by omega⟩
    exact u8_xor224 ⟨k, by omega⟩ (by show 224 ≤ k; omega) (by show k < 240; omega)
  have hA1 := cont_yes b1 h1
  have hM1 := u8_and63 (x := b1) (by omega) (by omega)
  have hJ1 := i64_or6 ((b0 - 224) * 64) (b1 % 64) (by omega) (by omega) (by omega) (by omega) (by omega)
  have hA2 := cont_yes b2 h2
  have hM2 := u8_and63 (x := b2) (by omega) (by omega)
  have hJ2 := i64_or6 (((b0 - 224) * 64 + b1 % 64) * 64) (b2 % 64) (by omega) (by omega) (by omega) (by omega) (by omega)
  have hsz : ¬ ((s.size : Int) < 3) := by omega
  have hS : Hid (IntKind.i64.wrap (bits .xor .u8 b0 (ld 3)) = (b0 - 224)) := by
    show IntKind.i64.wrap (bits .xor .u8 b0 224) = (b0 - 224)
    rw [hX, IntKind.wrap_i64]; omega
  clear e0 e1 e2 hX hw
  go_enter Try.func11, Try.ntmps11
  go_wp2_with fail
  refine (HL.out _).mono ?_
  rintro e w1 ⟨rfl, rfl⟩
  go_wp2_with fail
  have K0 : Kp [] w w ∧ True := ⟨Kp.refl _ _, trivial⟩
  go_region_held3 (fun w' => (Kp [] w w' ∧ True)) (first | assumption | exact ⟨Kp.drew (And.left (by assumption)), trivial⟩)
    (first | (go_at_call 24; refine (HD.out _).mono ?_; rintro e w' ⟨rfl, k2⟩; have k3 : Kp [] w w' ∧ True := ⟨Kp.trans (And.left (by assumption)) k2, trivial⟩))
  all_goals
    obtain ⟨hk, _⟩ := k3
    obtain ⟨wA, rfl⟩ : ∃ wA, wA = w' := ⟨_, rfl⟩
    clear K0
    go_wp2_with fail
    go_loopw [2, 3, 4] (fun rr nn i wr => ((rr = .int .i64 (b0 - 224) ∧ i = .int .i64 1) ∨ (rr = .int .i64 ((b0 - 224) * 64 + b1 % 64) ∧ i = .int .i64 2) ∨ (rr = .int .i64 (((b0 - 224) * 64 + b1 % 64) * 64 + b2 % 64) ∧ i = .int .i64 3)) ∧ nn = .int .i64 3 ∧ wr = wA) (fun rr nn i _ => 4 - (intOf i).toNat)
    case atStart => exact ⟨.inl ⟨congrArg (Value.int .i64) hS.out, rfl⟩, rfl, rfl⟩
    case round =>
      obtain ⟨⟨rfl, rfl⟩ | ⟨rfl, rfl⟩ | ⟨rfl, rfl⟩, rfl, rfl⟩ := hrel
      · go_wp2_with fail
        go_round
        case rel => exact ⟨.inr (.inl ⟨rfl, rfl⟩), rfl, trivial⟩
        case measure => decide
      · go_wp2_with fail
        go_round
        case rel => exact ⟨.inr (.inr (⟨rfl, rfl⟩)), rfl, trivial⟩
        case measure => decide
      · go_wp2_with fail
        refine (HW.out _).mono ?_
        rintro e w1 ⟨rfl, rfl⟩
        go_wp2_with fail
        go_ret2
        exact ⟨rfl, hk⟩

theorem dec3_wid (s : ByteArray) (hs : 3 ≤ s.size) (b0 b1 b2 : Int) (e0 : bt s 0 = b0) (e1 : bt s 1 = b1) (e2 : bt s 2 = b2) (h0 : 224 ≤ b0 ∧ b0 < 240) (h1 : 128 ≤ b1 ∧ b1 < 192) (h2 : 128 ≤ b2 ∧ b2 < 192) (hw : wid (((b0 - 224) * 64 + b1 % 64) * 64 + b2 % 64) ≠ 3) (w : World) :
    Calls Try.prog 11 #[.string s] w fun e w' => e = .returned (.tuple #[.int .i64 (-1), .int .i64 1]) ∧ Kp [] w w' := by
  have hE := isEmpty_no s (by omega)
  have HL := Lib.hid (fun w => long_any b0 (by omega) (by omega) w)
  rw [show lng b0 = 3 from by unfold lng; repeat (first | rw [if_neg (by omega)] | rw [if_pos (by omega)])] at HL
  have HD := Lib.hid (fun w => lead_any 3 (by omega) w)
  have HW := Lib.hid (fun w => width_any (((b0 - 224) * 64 + b1 % 64) * 64 + b2 % 64) w)
  have hwb : (wid (((b0 - 224) * 64 + b1 % 64) * 64 + b2 % 64) != 3) = true := by rw [bne_iff_ne]; exact hw
  have q0 : ((s[0]'(by omega)).toNat : Int) = b0 := (bt_at s 0 (by show 0 < s.size; omega)).trans e0
  have q1 : ((s[1]'(by omega)).toNat : Int) = b1 := (bt_at s 1 (by show 1 < s.size; omega)).trans e1
  have q2 : ((s[2]'(by omega)).toNat : Int) = b2 := (bt_at s 2 (by show 2 < s.size; omega)).trans e2
  have hX : bits .xor .u8 b0 224 = b0 - 224 := by
    obtain ⟨k, rfl⟩ : ∃ k : Nat, b0 = k := ⟨b0.toNat, by omega⟩
    exact u8_xor224 ⟨k, by omega⟩ (by show 224 ≤ k; omega) (by show k < 240; omega)
  have hA1 := cont_yes b1 h1
  have hM1 := u8_and63 (x := b1) (by omega) (by omega)
  have hJ1 := i64_or6 ((b0 - 224) * 64) (b1 % 64) (by omega) (by omega) (by omega) (by omega) (by omega)
  have hA2 := cont_yes b2 h2
  have hM2 := u8_and63 (x := b2) (by omega) (by omega)
  have hJ2 := i64_or6 (((b0 - 224) * 64 + b1 % 64) * 64) (b2 % 64) (by omega) (by omega) (by omega) (by omega) (by omega)
  have hsz : ¬ ((s.size : Int) < 3) := by omega
  have hS : Hid (IntKind.i64.wrap (bits .xor .u8 b0 (ld 3)) = (b0 - 224)) := by
    show IntKind.i64.wrap (bits .xor .u8 b0 224) = (b0 - 224)
    rw [hX, IntKind.wrap_i64]; omega
  clear e0 e1 e2 hX hw
  go_enter Try.func11, Try.ntmps11
  go_wp2_with fail
  refine (HL.out _).mono ?_
  rintro e w1 ⟨rfl, rfl⟩
  go_wp2_with fail
  have K0 : Kp [] w w ∧ True := ⟨Kp.refl _ _, trivial⟩
  go_region_held3 (fun w' => (Kp [] w w' ∧ True)) (first | assumption | exact ⟨Kp.drew (And.left (by assumption)), trivial⟩)
    (first | (go_at_call 24; refine (HD.out _).mono ?_; rintro e w' ⟨rfl, k2⟩; have k3 : Kp [] w w' ∧ True := ⟨Kp.trans (And.left (by assumption)) k2, trivial⟩))
  all_goals
    obtain ⟨hk, _⟩ := k3
    obtain ⟨wA, rfl⟩ : ∃ wA, wA = w' := ⟨_, rfl⟩
    clear K0
    go_wp2_with fail
    go_loopw [2, 3, 4] (fun rr nn i wr => ((rr = .int .i64 (b0 - 224) ∧ i = .int .i64 1) ∨ (rr = .int .i64 ((b0 - 224) * 64 + b1 % 64) ∧ i = .int .i64 2) ∨ (rr = .int .i64 (((b0 - 224) * 64 + b1 % 64) * 64 + b2 % 64) ∧ i = .int .i64 3)) ∧ nn = .int .i64 3 ∧ wr = wA) (fun rr nn i _ => 4 - (intOf i).toNat)
    case atStart => exact ⟨.inl ⟨congrArg (Value.int .i64) hS.out, rfl⟩, rfl, rfl⟩
    case round =>
      obtain ⟨⟨rfl, rfl⟩ | ⟨rfl, rfl⟩ | ⟨rfl, rfl⟩, rfl, rfl⟩ := hrel
      · go_wp2_with fail
        go_round
        case rel => exact ⟨.inr (.inl ⟨rfl, rfl⟩), rfl, trivial⟩
        case measure => decide
      · go_wp2_with fail
        go_round
        case rel => exact ⟨.inr (.inr (⟨rfl, rfl⟩)), rfl, trivial⟩
        case measure => decide
      · go_wp2_with fail
        refine (HW.out _).mono ?_
        rintro e w1 ⟨rfl, rfl⟩
        go_wp2_with fail
        go_ret2
        exact ⟨rfl, hk⟩

theorem dec4_short (s : ByteArray) (h1 : 1 ≤ s.size) (hs : s.size < 4) (b0 : Int) (e0 : bt s 0 = b0) (h0 : 240 ≤ b0 ∧ b0 < 245) (w : World) :
    Calls Try.prog 11 #[.string s] w fun e w' => e = .returned (.tuple #[.int .i64 (-1), .int .i64 1]) ∧ Kp [] w w' := by
  have hE := isEmpty_no s (by omega)
  have HL := Lib.hid (fun w => long_any b0 (by omega) (by omega) w)
  rw [show lng b0 = 4 from by unfold lng; repeat (first | rw [if_neg (by omega)] | rw [if_pos (by omega)])] at HL
  have q0 : ((s[0]'(by omega)).toNat : Int) = b0 := (bt_at s 0 (by show 0 < s.size; omega)).trans e0
  have hsz : decide ((s.size : Int) < 4) = true := decide_eq_true (by omega)
  clear e0
  go_enter Try.func11, Try.ntmps11
  go_wp2_with fail
  refine (HL.out _).mono ?_
  rintro e w1 ⟨rfl, rfl⟩
  go_wp2_with fail
  go_ret2
  exact ⟨rfl, Kp.refl _ _⟩

theorem dec4_bad0 (s : ByteArray) (hs : 4 ≤ s.size) (b0 b1 : Int) (e0 : bt s 0 = b0) (e1 : bt s 1 = b1) (h0 : 240 ≤ b0 ∧ b0 < 245) (hz : 0 ≤ b1 ∧ b1 < 256) (hb : ¬ (128 ≤ b1 ∧ b1 < 192)) (w : World) :
    Calls Try.prog 11 #[.string s] w fun e w' => e = .returned (.tuple #[.int .i64 (-1), .int .i64 1]) ∧ Kp [] w w' := by
  have hE := isEmpty_no s (by omega)
  have HL := Lib.hid (fun w => long_any b0 (by omega) (by omega) w)
  rw [show lng b0 = 4 from by unfold lng; repeat (first | rw [if_neg (by omega)] | rw [if_pos (by omega)])] at HL
  have HD := Lib.hid (fun w => lead_any 4 (by omega) w)
  have q0 : ((s[0]'(by omega)).toNat : Int) = b0 := (bt_at s 0 (by show 0 < s.size; omega)).trans e0
  have q1 : ((s[1]'(by omega)).toNat : Int) = b1 := (bt_at s 1 (by show 1 < s.size; omega)).trans e1
  have hX : bits .xor .u8 b0 240 = b0 - 240 := by
    obtain ⟨k, rfl⟩ : ∃ k : Nat, b0 = k := ⟨b0.toNat, by omega⟩
    exact u8_xor240 ⟨k, by omega⟩ (by show 240 ≤ k; omega) (by show k < 256; omega)
  have hB := cont_no b1 hz.1 hz.2 hb
  have hsz : ¬ ((s.size : Int) < 4) := by omega
  have hS : Hid (IntKind.i64.wrap (bits .xor .u8 b0 (ld 4)) = (b0 - 240)) := by
    show IntKind.i64.wrap (bits .xor .u8 b0 240) = (b0 - 240)
    rw [hX, IntKind.wrap_i64]; omega
  clear e0 e1 hX hb
  go_enter Try.func11, Try.ntmps11
  go_wp2_with fail
  refine (HL.out _).mono ?_
  rintro e w1 ⟨rfl, rfl⟩
  go_wp2_with fail
  have K0 : Kp [] w w ∧ True := ⟨Kp.refl _ _, trivial⟩
  go_region_held3 (fun w' => (Kp [] w w' ∧ True)) (first | assumption | exact ⟨Kp.drew (And.left (by assumption)), trivial⟩)
    (first | (go_at_call 24; refine (HD.out _).mono ?_; rintro e w' ⟨rfl, k2⟩; have k3 : Kp [] w w' ∧ True := ⟨Kp.trans (And.left (by assumption)) k2, trivial⟩))
  all_goals
    obtain ⟨hk, _⟩ := k3
    obtain ⟨wA, rfl⟩ : ∃ wA, wA = w' := ⟨_, rfl⟩
    clear K0
    go_wp2_with fail
    go_loopw [2, 3, 4] (fun rr nn i wr => ((rr = .int .i64 (b0 - 240) ∧ i = .int .i64 1)) ∧ nn = .int .i64 4 ∧ wr = wA) (fun rr nn i _ => 4 - (intOf i).toNat)
    case atStart => exact ⟨⟨congrArg (Value.int .i64) hS.out, rfl⟩, rfl, rfl⟩
    case round =>
      obtain ⟨⟨rfl, rfl⟩, rfl, rfl⟩ := hrel
      · go_wp2_with fail
        go_ret2
        exact ⟨rfl, hk⟩

theorem dec4_bad1 (s : ByteArray) (hs : 4 ≤ s.size) (b0 b1 b2 : Int) (e0 : bt s 0 = b0) (e1 : bt s 1 = b1) (e2 : bt s 2 = b2) (h0 : 240 ≤ b0 ∧ b0 < 245) (h1 : 128 ≤ b1 ∧ b1 < 192) (hz : 0 ≤ b2 ∧ b2 < 256) (hb : ¬ (128 ≤ b2 ∧ b2 < 192)) (w : World) :
    Calls Try.prog 11 #[.string s] w fun e w' => e = .returned (.tuple #[.int .i64 (-1), .int .i64 1]) ∧ Kp [] w w' := by
  have hE := isEmpty_no s (by omega)
  have HL := Lib.hid (fun w => long_any b0 (by omega) (by omega) w)
  rw [show lng b0 = 4 from by unfold lng; repeat (first | rw [if_neg (by omega)] | rw [if_pos (by omega)])] at HL
  have HD := Lib.hid (fun w => lead_any 4 (by omega) w)
  have q0 : ((s[0]'(by omega)).toNat : Int) = b0 := (bt_at s 0 (by show 0 < s.size; omega)).trans e0
  have q1 : ((s[1]'(by omega)).toNat : Int) = b1 := (bt_at s 1 (by show 1 < s.size; omega)).trans e1
  have q2 : ((s[2]'(by omega)).toNat : Int) = b2 := (bt_at s 2 (by show 2 < s.size; omega)).trans e2
  have hX : bits .xor .u8 b0 240 = b0 - 240 := by
    obtain ⟨k, rfl⟩ : ∃ k : Nat, b0 = k := ⟨b0.toNat, by omega⟩
    exact u8_xor240 ⟨k, by omega⟩ (by show 240 ≤ k; omega) (by show k < 256; omega)
  have hA1 := cont_yes b1 h1
  have hM1 := u8_and63 (x := b1) (by omega) (by omega)
  have hJ1 := i64_or6 ((b0 - 240) * 64) (b1 % 64) (by omega) (by omega) (by omega) (by omega) (by omega)
  have hB := cont_no b2 hz.1 hz.2 hb
  have hsz : ¬ ((s.size : Int) < 4) := by omega
  have hS : Hid (IntKind.i64.wrap (bits .xor .u8 b0 (ld 4)) = (b0 - 240)) := by
    show IntKind.i64.wrap (bits .xor .u8 b0 240) = (b0 - 240)
    rw [hX, IntKind.wrap_i64]; omega
  clear e0 e1 e2 hX hb
  go_enter Try.func11, Try.ntmps11
  go_wp2_with fail
  refine (HL.out _).mono ?_
  rintro e w1 ⟨rfl, rfl⟩
  go_wp2_with fail
  have K0 : Kp [] w w ∧ True := ⟨Kp.refl _ _, trivial⟩
  go_region_held3 (fun w' => (Kp [] w w' ∧ True)) (first | assumption | exact ⟨Kp.drew (And.left (by assumption)), trivial⟩)
    (first | (go_at_call 24; refine (HD.out _).mono ?_; rintro e w' ⟨rfl, k2⟩; have k3 : Kp [] w w' ∧ True := ⟨Kp.trans (And.left (by assumption)) k2, trivial⟩))
  all_goals
    obtain ⟨hk, _⟩ := k3
    obtain ⟨wA, rfl⟩ : ∃ wA, wA = w' := ⟨_, rfl⟩
    clear K0
    go_wp2_with fail
    go_loopw [2, 3, 4] (fun rr nn i wr => ((rr = .int .i64 (b0 - 240) ∧ i = .int .i64 1) ∨ (rr = .int .i64 ((b0 - 240) * 64 + b1 % 64) ∧ i = .int .i64 2)) ∧ nn = .int .i64 4 ∧ wr = wA) (fun rr nn i _ => 4 - (intOf i).toNat)
    case atStart => exact ⟨.inl ⟨congrArg (Value.int .i64) hS.out, rfl⟩, rfl, rfl⟩
    case round =>
      obtain ⟨⟨rfl, rfl⟩ | ⟨rfl, rfl⟩, rfl, rfl⟩ := hrel
      · go_wp2_with fail
        go_round
        case rel => exact ⟨.inr (⟨rfl, rfl⟩), rfl, trivial⟩
        case measure => decide
      · go_wp2_with fail
        go_ret2
        exact ⟨rfl, hk⟩

theorem dec4_bad2 (s : ByteArray) (hs : 4 ≤ s.size) (b0 b1 b2 b3 : Int) (e0 : bt s 0 = b0) (e1 : bt s 1 = b1) (e2 : bt s 2 = b2) (e3 : bt s 3 = b3) (h0 : 240 ≤ b0 ∧ b0 < 245) (h1 : 128 ≤ b1 ∧ b1 < 192) (h2 : 128 ≤ b2 ∧ b2 < 192) (hz : 0 ≤ b3 ∧ b3 < 256) (hb : ¬ (128 ≤ b3 ∧ b3 < 192)) (w : World) :
    Calls Try.prog 11 #[.string s] w fun e w' => e = .returned (.tuple #[.int .i64 (-1), .int .i64 1]) ∧ Kp [] w w' := by
  have hE := isEmpty_no s (by omega)
  have HL := Lib.hid (fun w => long_any b0 (by omega) (by omega) w)
  rw [show lng b0 = 4 from by unfold lng; repeat (first | rw [if_neg (by omega)] | rw [if_pos (by omega)])] at HL
  have HD := Lib.hid (fun w => lead_any 4 (by omega) w)
  have q0 : ((s[0]'(by omega)).toNat : Int) = b0 := (bt_at s 0 (by show 0 < s.size; omega)).trans e0
  have q1 : ((s[1]'(by omega)).toNat : Int) = b1 := (bt_at s 1 (by show 1 < s.size; omega)).trans e1
  have q2 : ((s[2]'(by omega)).toNat : Int) = b2 := (bt_at s 2 (by show 2 < s.size; omega)).trans e2
  have q3 : ((s[3]'(by omega)).toNat : Int) = b3 := (bt_at s 3 (by show 3 < s.size; omega)).trans e3
  have hX : bits .xor .u8 b0 240 = b0 - 240 := by
    obtain ⟨k, rfl⟩ : ∃ k : Nat, b0 = k := ⟨b0.toNat, by omega⟩
    exact u8_xor240 ⟨k, by omega⟩ (by show 240 ≤ k; omega) (by show k < 256; omega)
  have hA1 := cont_yes b1 h1
  have hM1 := u8_and63 (x := b1) (by omega) (by omega)
  have hJ1 := i64_or6 ((b0 - 240) * 64) (b1 % 64) (by omega) (by omega) (by omega) (by omega) (by omega)
  have hA2 := cont_yes b2 h2
  have hM2 := u8_and63 (x := b2) (by omega) (by omega)
  have hJ2 := i64_or6 (((b0 - 240) * 64 + b1 % 64) * 64) (b2 % 64) (by omega) (by omega) (by omega) (by omega) (by omega)
  have hB := cont_no b3 hz.1 hz.2 hb
  have hsz : ¬ ((s.size : Int) < 4) := by omega
  have hS : Hid (IntKind.i64.wrap (bits .xor .u8 b0 (ld 4)) = (b0 - 240)) := by
    show IntKind.i64.wrap (bits .xor .u8 b0 240) = (b0 - 240)
    rw [hX, IntKind.wrap_i64]; omega
  clear e0 e1 e2 e3 hX hb
  go_enter Try.func11, Try.ntmps11
  go_wp2_with fail
  refine (HL.out _).mono ?_
  rintro e w1 ⟨rfl, rfl⟩
  go_wp2_with fail
  have K0 : Kp [] w w ∧ True := ⟨Kp.refl _ _, trivial⟩
  go_region_held3 (fun w' => (Kp [] w w' ∧ True)) (first | assumption | exact ⟨Kp.drew (And.left (by assumption)), trivial⟩)
    (first | (go_at_call 24; refine (HD.out _).mono ?_; rintro e w' ⟨rfl, k2⟩; have k3 : Kp [] w w' ∧ True := ⟨Kp.trans (And.left (by assumption)) k2, trivial⟩))
  all_goals
    obtain ⟨hk, _⟩ := k3
    obtain ⟨wA, rfl⟩ : ∃ wA, wA = w' := ⟨_, rfl⟩
    clear K0
    go_wp2_with fail
    go_loopw [2, 3, 4] (fun rr nn i wr => ((rr = .int .i64 (b0 - 240) ∧ i = .int .i64 1) ∨ (rr = .int .i64 ((b0 - 240) * 64 + b1 % 64) ∧ i = .int .i64 2) ∨ (rr = .int .i64 (((b0 - 240) * 64 + b1 % 64) * 64 + b2 % 64) ∧ i = .int .i64 3)) ∧ nn = .int .i64 4 ∧ wr = wA) (fun rr nn i _ => 4 - (intOf i).toNat)
    case atStart => exact ⟨.inl ⟨congrArg (Value.int .i64) hS.out, rfl⟩, rfl, rfl⟩
    case round =>
      obtain ⟨⟨rfl, rfl⟩ | ⟨rfl, rfl⟩ | ⟨rfl, rfl⟩, rfl, rfl⟩ := hrel
      · go_wp2_with fail
        go_round
        case rel => exact ⟨.inr (.inl ⟨rfl, rfl⟩), rfl, trivial⟩
        case measure => decide
      · go_wp2_with fail
        go_round
        case rel => exact ⟨.inr (.inr (⟨rfl, rfl⟩)), rfl, trivial⟩
        case measure => decide
      · go_wp2_with fail
        go_ret2
        exact ⟨rfl, hk⟩

theorem dec4_good (s : ByteArray) (hs : 4 ≤ s.size) (b0 b1 b2 b3 : Int) (e0 : bt s 0 = b0) (e1 : bt s 1 = b1) (e2 : bt s 2 = b2) (e3 : bt s 3 = b3) (h0 : 240 ≤ b0 ∧ b0 < 245) (h1 : 128 ≤ b1 ∧ b1 < 192) (h2 : 128 ≤ b2 ∧ b2 < 192) (h3 : 128 ≤ b3 ∧ b3 < 192) (hw : wid ((((b0 - 240) * 64 + b1 % 64) * 64 + b2 % 64) * 64 + b3 % 64) = 4) (w : World) :
    Calls Try.prog 11 #[.string s] w fun e w' => e = .returned (.tuple #[.int .i64 ((((b0 - 240) * 64 + b1 % 64) * 64 + b2 % 64) * 64 + b3 % 64), .int .i64 4]) ∧ Kp [] w w' := by
  have hE := isEmpty_no s (by omega)
  have HL := Lib.hid (fun w => long_any b0 (by omega) (by omega) w)
  rw [show lng b0 = 4 from by unfold lng; repeat (first | rw [if_neg (by omega)] | rw [if_pos (by omega)])] at HL
  have HD := Lib.hid (fun w => lead_any 4 (by omega) w)
  have HW := Lib.hid (fun w => width_any ((((b0 - 240) * 64 + b1 % 64) * 64 + b2 % 64) * 64 + b3 % 64) w)
  rw [hw] at HW
  have q0 : ((s[0]'(by omega)).toNat : Int) = b0 := (bt_at s 0 (by show 0 < s.size; omega)).trans e0
  have q1 : ((s[1]'(by omega)).toNat : Int) = b1 := (bt_at s 1 (by show 1 < s.size; omega)).trans e1
  have q2 : ((s[2]'(by omega)).toNat : Int) = b2 := (bt_at s 2 (by show 2 < s.size; omega)).trans e2
  have q3 : ((s[3]'(by omega)).toNat : Int) = b3 := (bt_at s 3 (by show 3 < s.size; omega)).trans e3
  have hX : bits .xor .u8 b0 240 = b0 - 240 := by
    obtain ⟨k, rfl⟩ : ∃ k : Nat, b0 = k := ⟨b0.toNat, by omega⟩
    exact u8_xor240 ⟨k, by omega⟩ (by show 240 ≤ k; omega) (by show k < 256; omega)
  have hA1 := cont_yes b1 h1
  have hM1 := u8_and63 (x := b1) (by omega) (by omega)
  have hJ1 := i64_or6 ((b0 - 240) * 64) (b1 % 64) (by omega) (by omega) (by omega) (by omega) (by omega)
  have hA2 := cont_yes b2 h2
  have hM2 := u8_and63 (x := b2) (by omega) (by omega)
  have hJ2 := i64_or6 (((b0 - 240) * 64 + b1 % 64) * 64) (b2 % 64) (by omega) (by omega) (by omega) (by omega) (by omega)
  have hA3 := cont_yes b3 h3
  have hM3 := u8_and63 (x := b3) (by omega) (by omega)
  have hJ3 := i64_or6 ((((b0 - 240) * 64 + b1 % 64) * 64 + b2 % 64) * 64) (b3 % 64) (by omega) (by omega) (by omega) (by omega) (by omega)
  have hsz : ¬ ((s.size : Int) < 4) := by omega
  have hS : Hid (IntKind.i64.wrap (bits .xor .u8 b0 (ld 4)) = (b0 - 240)) := by
    show IntKind.i64.wrap (bits .xor .u8 b0 240) = (b0 - 240)
    rw [hX, IntKind.wrap_i64]; omega
  clear e0 e1 e2 e3 hX hw
  go_enter Try.func11, Try.ntmps11
  go_wp2_with fail
  refine (HL.out _).mono ?_
  rintro e w1 ⟨rfl, rfl⟩
  go_wp2_with fail
  have K0 : Kp [] w w ∧ True := ⟨Kp.refl _ _, trivial⟩
  go_region_held3 (fun w' => (Kp [] w w' ∧ True)) (first | assumption | exact ⟨Kp.drew (And.left (by assumption)), trivial⟩)
    (first | (go_at_call 24; refine (HD.out _).mono ?_; rintro e w' ⟨rfl, k2⟩; have k3 : Kp [] w w' ∧ True := ⟨Kp.trans (And.left (by assumption)) k2, trivial⟩))
  all_goals
    obtain ⟨hk, _⟩ := k3
    obtain ⟨wA, rfl⟩ : ∃ wA, wA = w' := ⟨_, rfl⟩
    clear K0
    go_wp2_with fail
    go_loopw [2, 3, 4] (fun rr nn i wr => ((rr = .int .i64 (b0 - 240) ∧ i = .int .i64 1) ∨ (rr = .int .i64 ((b0 - 240) * 64 + b1 % 64) ∧ i = .int .i64 2) ∨ (rr = .int .i64 (((b0 - 240) * 64 + b1 % 64) * 64 + b2 % 64) ∧ i = .int .i64 3) ∨ (rr = .int .i64 ((((b0 - 240) * 64 + b1 % 64) * 64 + b2 % 64) * 64 + b3 % 64) ∧ i = .int .i64 4)) ∧ nn = .int .i64 4 ∧ wr = wA) (fun rr nn i _ => 4 - (intOf i).toNat)
    case atStart => exact ⟨.inl ⟨congrArg (Value.int .i64) hS.out, rfl⟩, rfl, rfl⟩
    case round =>
      obtain ⟨⟨rfl, rfl⟩ | ⟨rfl, rfl⟩ | ⟨rfl, rfl⟩ | ⟨rfl, rfl⟩, rfl, rfl⟩ := hrel
      · go_wp2_with fail
        go_round
        case rel => exact ⟨.inr (.inl ⟨rfl, rfl⟩), rfl, trivial⟩
        case measure => decide
      · go_wp2_with fail
        go_round
        case rel => exact ⟨.inr (.inr (.inl ⟨rfl, rfl⟩)), rfl, trivial⟩
        case measure => decide
      · go_wp2_with fail
        go_round
        case rel => exact ⟨.inr (.inr (.inr (⟨rfl, rfl⟩))), rfl, trivial⟩
        case measure => decide
      · go_wp2_with fail
        refine (HW.out _).mono ?_
        rintro e w1 ⟨rfl, rfl⟩
        go_wp2_with fail
        go_ret2
        exact ⟨rfl, hk⟩

theorem dec4_wid (s : ByteArray) (hs : 4 ≤ s.size) (b0 b1 b2 b3 : Int) (e0 : bt s 0 = b0) (e1 : bt s 1 = b1) (e2 : bt s 2 = b2) (e3 : bt s 3 = b3) (h0 : 240 ≤ b0 ∧ b0 < 245) (h1 : 128 ≤ b1 ∧ b1 < 192) (h2 : 128 ≤ b2 ∧ b2 < 192) (h3 : 128 ≤ b3 ∧ b3 < 192) (hw : wid ((((b0 - 240) * 64 + b1 % 64) * 64 + b2 % 64) * 64 + b3 % 64) ≠ 4) (w : World) :
    Calls Try.prog 11 #[.string s] w fun e w' => e = .returned (.tuple #[.int .i64 (-1), .int .i64 1]) ∧ Kp [] w w' := by
  have hE := isEmpty_no s (by omega)
  have HL := Lib.hid (fun w => long_any b0 (by omega) (by omega) w)
  rw [show lng b0 = 4 from by unfold lng; repeat (first | rw [if_neg (by omega)] | rw [if_pos (by omega)])] at HL
  have HD := Lib.hid (fun w => lead_any 4 (by omega) w)
  have HW := Lib.hid (fun w => width_any ((((b0 - 240) * 64 + b1 % 64) * 64 + b2 % 64) * 64 + b3 % 64) w)
  have hwb : (wid ((((b0 - 240) * 64 + b1 % 64) * 64 + b2 % 64) * 64 + b3 % 64) != 4) = true := by rw [bne_iff_ne]; exact hw
  have q0 : ((s[0]'(by omega)).toNat : Int) = b0 := (bt_at s 0 (by show 0 < s.size; omega)).trans e0
  have q1 : ((s[1]'(by omega)).toNat : Int) = b1 := (bt_at s 1 (by show 1 < s.size; omega)).trans e1
  have q2 : ((s[2]'(by omega)).toNat : Int) = b2 := (bt_at s 2 (by show 2 < s.size; omega)).trans e2
  have q3 : ((s[3]'(by omega)).toNat : Int) = b3 := (bt_at s 3 (by show 3 < s.size; omega)).trans e3
  have hX : bits .xor .u8 b0 240 = b0 - 240 := by
    obtain ⟨k, rfl⟩ : ∃ k : Nat, b0 = k := ⟨b0.toNat, by omega⟩
    exact u8_xor240 ⟨k, by omega⟩ (by show 240 ≤ k; omega) (by show k < 256; omega)
  have hA1 := cont_yes b1 h1
  have hM1 := u8_and63 (x := b1) (by omega) (by omega)
  have hJ1 := i64_or6 ((b0 - 240) * 64) (b1 % 64) (by omega) (by omega) (by omega) (by omega) (by omega)
  have hA2 := cont_yes b2 h2
  have hM2 := u8_and63 (x := b2) (by omega) (by omega)
  have hJ2 := i64_or6 (((b0 - 240) * 64 + b1 % 64) * 64) (b2 % 64) (by omega) (by omega) (by omega) (by omega) (by omega)
  have hA3 := cont_yes b3 h3
  have hM3 := u8_and63 (x := b3) (by omega) (by omega)
  have hJ3 := i64_or6 ((((b0 - 240) * 64 + b1 % 64) * 64 + b2 % 64) * 64) (b3 % 64) (by omega) (by omega) (by omega) (by omega) (by omega)
  have hsz : ¬ ((s.size : Int) < 4) := by omega
  have hS : Hid (IntKind.i64.wrap (bits .xor .u8 b0 (ld 4)) = (b0 - 240)) := by
    show IntKind.i64.wrap (bits .xor .u8 b0 240) = (b0 - 240)
    rw [hX, IntKind.wrap_i64]; omega
  clear e0 e1 e2 e3 hX hw
  go_enter Try.func11, Try.ntmps11
  go_wp2_with fail
  refine (HL.out _).mono ?_
  rintro e w1 ⟨rfl, rfl⟩
  go_wp2_with fail
  have K0 : Kp [] w w ∧ True := ⟨Kp.refl _ _, trivial⟩
  go_region_held3 (fun w' => (Kp [] w w' ∧ True)) (first | assumption | exact ⟨Kp.drew (And.left (by assumption)), trivial⟩)
    (first | (go_at_call 24; refine (HD.out _).mono ?_; rintro e w' ⟨rfl, k2⟩; have k3 : Kp [] w w' ∧ True := ⟨Kp.trans (And.left (by assumption)) k2, trivial⟩))
  all_goals
    obtain ⟨hk, _⟩ := k3
    obtain ⟨wA, rfl⟩ : ∃ wA, wA = w' := ⟨_, rfl⟩
    clear K0
    go_wp2_with fail
    go_loopw [2, 3, 4] (fun rr nn i wr => ((rr = .int .i64 (b0 - 240) ∧ i = .int .i64 1) ∨ (rr = .int .i64 ((b0 - 240) * 64 + b1 % 64) ∧ i = .int .i64 2) ∨ (rr = .int .i64 (((b0 - 240) * 64 + b1 % 64) * 64 + b2 % 64) ∧ i = .int .i64 3) ∨ (rr = .int .i64 ((((b0 - 240) * 64 + b1 % 64) * 64 + b2 % 64) * 64 + b3 % 64) ∧ i = .int .i64 4)) ∧ nn = .int .i64 4 ∧ wr = wA) (fun rr nn i _ => 4 - (intOf i).toNat)
    case atStart => exact ⟨.inl ⟨congrArg (Value.int .i64) hS.out, rfl⟩, rfl, rfl⟩
    case round =>
      obtain ⟨⟨rfl, rfl⟩ | ⟨rfl, rfl⟩ | ⟨rfl, rfl⟩ | ⟨rfl, rfl⟩, rfl, rfl⟩ := hrel
      · go_wp2_with fail
        go_round
        case rel => exact ⟨.inr (.inl ⟨rfl, rfl⟩), rfl, trivial⟩
        case measure => decide
      · go_wp2_with fail
        go_round
        case rel => exact ⟨.inr (.inr (.inl ⟨rfl, rfl⟩)), rfl, trivial⟩
        case measure => decide
      · go_wp2_with fail
        go_round
        case rel => exact ⟨.inr (.inr (.inr (⟨rfl, rfl⟩))), rfl, trivial⟩
        case measure => decide
      · go_wp2_with fail
        refine (HW.out _).mono ?_
        rintro e w1 ⟨rfl, rfl⟩
        go_wp2_with fail
        go_ret2
        exact ⟨rfl, hk⟩

end Go.Proofs.Ytbcmjpmnljfolaa
