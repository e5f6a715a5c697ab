/- Package gauge: what each of its functions computes, for every bit pattern, in every world (the walks). -/
import Derived.Test.YtlahjieodcoecaaB
import Derived.Laws.FloatArith
import Derived.LoopN
import Derived.Laws.Externs
import Derived.Laws.LoneSync
import Derived.Laws.BitsAllLaws
namespace Go.Proofs.Ytlahjieodcoecaa
open Go.RowKit
set_option linter.unusedVariables false

/-- Is a bit pattern no number? -/
def fN (b : Nat) : Bool := (FloatKind.f64.format.order b b != some .eq)
def sB (b : Nat) : Bool := decide (9223372036854775808 ≤ b)
def key (b : Nat) : Int := if fN b then 18446744073709551615 else if sB b then 18446744073709551615 - b else b + 9223372036854775808
def ord (a b : Nat) : Int := if key a < key b then -1 else if key b < key a then 1 else 0

theorem isNaN_any (b : Nat) (w : World) : Calls Try.prog 18 #[.float .f64 b] w fun e w' => e = .returned (.bool (fN b)) ∧ w = w' := by
  unfold fN
  go_enter Try.func18, Try.ntmps18
  go_wp2
  go_ret
  exact ⟨rfl, rfl⟩

theorem run_bits (b : Nat) (w : World) : (callFunc 30 #[.float .f64 b]).run Try.prog w = .ok (.value (.int .u64 b)) w := by
  rw [run_callFunc_extern (e := Extern.MathFloatBits.float64bits) Try.func30 (by kernel_rfl) (by kernel_rfl) (by kernel_rfl) (by kernel_rfl)]
  rfl
theorem run_from (n : Int) (w : World) : (callFunc 33 #[.int .u64 n]).run Try.prog w = .ok (.value (.float .f64 n.toNat)) w := by
  rw [run_callFunc_extern (e := Extern.MathFloatBits.float64frombits) Try.func33 (by kernel_rfl) (by kernel_rfl) (by kernel_rfl) (by kernel_rfl)]
  rfl
attribute [local go_sem] run_bits run_from

theorem or63 (b : Nat) (hb : b < 9223372036854775808) : bits .or .u64 (b : Int) 9223372036854775808 = ((b + 9223372036854775808 : Nat) : Int) := by
  have h := u64_or_nat b 9223372036854775808 (by omega) (by omega)
  rw [show (((9223372036854775808 : Nat)) : Int) = 9223372036854775808 from rfl] at h
  rw [h, Nat.or_comm]
  have := Nat.two_pow_add_eq_or_of_lt (i := 63) (b := b) (by omega) 1
  rw [show 2 ^ 63 * 1 = 9223372036854775808 from rfl] at this
  rw [← this, Nat.add_comm]
theorem not64 (b : Nat) (hb : b < 18446744073709551616) : bits .xor .u64 18446744073709551615 (b : Int) = ((18446744073709551615 - b : Nat) : Int) := by
  have h := u64_xor_nat 18446744073709551615 b (by omega) hb
  rw [show (((18446744073709551615 : Nat)) : Int) = 18446744073709551615 from rfl] at h
  rw [h]
  congr 1
  apply Nat.eq_of_testBit_eq
  intro i
  have e := Nat.testBit_two_pow_sub_succ (x := b) (n := 64) (by omega) i
  have e0 := Nat.testBit_two_pow_sub_one 64 i
  rw [show 2 ^ 64 - (b + 1) = 18446744073709551615 - b from by omega] at e
  rw [show 2 ^ 64 - 1 = 18446744073709551615 from rfl] at e0
  rw [e, Nat.testBit_xor, e0]
  by_cases hi : i < 64
  · simp [hi]
  · have : b.testBit i = false := Nat.testBit_lt_two_pow (Nat.lt_of_lt_of_le (by omega : b < 2 ^ 64) (Nat.pow_le_pow_right (by omega) (by omega)))
    simp [hi, this]
theorem andNot63 (b : Nat) (hb : b < 18446744073709551616) : bits .andNot .u64 (b : Int) 9223372036854775808 = ((b % 9223372036854775808 : Nat) : Int) := by
  have h := u64_andNot_nat b 9223372036854775808 hb (by omega)
  rw [show (((9223372036854775808 : Nat)) : Int) = 9223372036854775808 from rfl] at h
  rw [h]
  congr 1
  exact Nat.and_two_pow_sub_one_eq_mod b 63

theorem signbit_any (b : Nat) (hb : b < 18446744073709551616) (w : World) : Calls Try.prog 31 #[.float .f64 b] w fun e w' => e = .returned (.bool (sB b)) ∧ w = w' := by
  have e : decide (wrap64 (b : Int) < 0) = sB b := by unfold sB wrap64; apply decide_eq_decide.2; omega
  go_enter Try.func31, Try.ntmps31
  go_wp2
  go_ret
  exact ⟨rfl, rfl⟩

theorem key_any (b : Nat) (hb : b < 18446744073709551616) (w : World) : Calls Try.prog 17 #[.float .f64 b] w fun e w' => e = .returned (.int .u64 (key b)) ∧ w = w' := by
  obtain ⟨k, hk⟩ : ∃ k, k = key b := ⟨_, rfl⟩
  rw [← hk]
  unfold key at hk
  obtain ⟨n, hn⟩ : ∃ n, n = fN b := ⟨_, rfl⟩
  obtain ⟨s, hs⟩ : ∃ s, s = sB b := ⟨_, rfl⟩
  have Hn := isNaN_any b w
  have Hs := signbit_any b hb w
  rw [← hn, ← hs] at hk
  rw [← hn] at Hn
  rw [← hs] at Hs
  have hs' := Lib.hid hs; clear hs hn
  cases n
  · cases s
    · simp only [Bool.false_eq_true, if_false] at hk
      have hk' := Lib.hid hk; clear hk
      have ho := or63 b (by have this : false = sB b := hs'; unfold sB at this; have := of_decide_eq_false this.symm; omega)
      go_enter Try.func17, Try.ntmps17
      go_wp2_with fail
      refine Hn.mono ?_
      rintro e w' ⟨rfl, rfl⟩
      go_wp2_with fail
      refine Hs.mono ?_
      rintro e w' ⟨rfl, rfl⟩
      go_wp2
      go_ret
      have this : k = _ := hk'
      rw [this]
      exact ⟨rfl, rfl⟩
    · simp only [Bool.false_eq_true, if_false, if_true] at hk
      have hk' := Lib.hid hk; clear hk
      have ho : bits .xor .u64 IntKind.u64.max (b : Int) = _ := not64 b hb
      go_enter Try.func17, Try.ntmps17
      go_wp2_with fail
      refine Hn.mono ?_
      rintro e w' ⟨rfl, rfl⟩
      go_wp2_with fail
      refine Hs.mono ?_
      rintro e w' ⟨rfl, rfl⟩
      go_wp2
      go_ret
      rw [show ((18446744073709551615 - b : Nat) : Int) = 18446744073709551615 - (b : Int) from by omega]
      have this : k = _ := hk'
      rw [this]
      exact ⟨rfl, rfl⟩
  · simp only [if_true] at hk
    have hk' := Lib.hid hk; clear hk
    go_enter Try.func17, Try.ntmps17
    go_wp2_with fail
    refine Hn.mono ?_
    rintro e w' ⟨rfl, rfl⟩
    go_wp2
    go_ret
    have this : k = _ := hk'
    rw [this]
    exact ⟨rfl, rfl⟩

/-- The bits below the sign. -/
def rung (b : Nat) : Nat := b % 9223372036854775808
theorem signW : FloatKind.f64.format.signWeight = 9223372036854775808 := by decide +kernel
theorem infR : FloatKind.f64.format.infRung = 9218868437227405312 := by decide +kernel
theorem binW : FloatKind.f64.format.binade = 4503599627370496 := by decide +kernel
theorem leastP : FloatKind.f64.format.leastPlace = -1074 := by decide +kernel

theorem read_eq (b : Nat) (hb : b < 18446744073709551616) : FloatKind.f64.format.read b =
    if rung b < 4503599627370496 then .number (sB b) (rung b) (-1074)
    else if rung b < 9218868437227405312 then .number (sB b) (4503599627370496 + rung b % 4503599627370496) (-1074 + ((rung b / 4503599627370496 - 1 : Nat) : Int))
    else if rung b = 9218868437227405312 then .infinity (sB b) else .nan (sB b) (rung b - 9218868437227405312) := by
  have e : (b / 9223372036854775808 % 2 == 1) = sB b := by
    unfold sB
    rw [Bool.eq_iff_iff]; simp; omega
  unfold Ieee.Format.read
  simp only [signW, infR, binW, leastP, e]
  rfl

theorem fN_eq (b : Nat) (hb : b < 18446744073709551616) : fN b = decide (9218868437227405312 < rung b) := by
  unfold fN Ieee.Format.order
  rw [read_eq b hb]
  by_cases h1 : rung b < 4503599627370496
  · rw [if_pos h1]; simp [Ieee.Datum.order]; omega
  · rw [if_neg h1]
    by_cases h2 : rung b < 9218868437227405312
    · rw [if_pos h2]; simp [Ieee.Datum.order]; omega
    · rw [if_neg h2]
      by_cases h3 : rung b = 9218868437227405312
      · rw [if_pos h3]; simp [Ieee.Datum.order]; omega
      · rw [if_neg h3]; have h4 : 9218868437227405312 < rung b := by omega
        simp [Ieee.Datum.order, h4]

theorem order_any (a b : Nat) (ha : a < 18446744073709551616) (hb : b < 18446744073709551616) (w : World) : Calls Try.prog 16 #[.float .f64 a, .float .f64 b] w fun e w' => e = .returned (.int .i64 (ord a b)) ∧ w = w' := by
  obtain ⟨x, hx⟩ : ∃ x, x = key a := ⟨_, rfl⟩
  obtain ⟨y, hy⟩ : ∃ y, y = key b := ⟨_, rfl⟩
  have Ha := key_any a ha w
  have Hb := key_any b hb w
  unfold ord
  rw [← hx] at Ha ⊢
  rw [← hy] at Hb ⊢
  clear hx hy
  by_cases h1 : x < y
  · rw [if_pos h1]
    go_enter Try.func16, Try.ntmps16
    go_wp2_with fail
    refine Ha.mono ?_
    rintro e w' ⟨rfl, rfl⟩
    go_wp2_with fail
    refine Hb.mono ?_
    rintro e w' ⟨rfl, rfl⟩
    go_wp2
    go_ret
    exact ⟨rfl, rfl⟩
  · rw [if_neg h1]
    by_cases h2 : y < x
    · rw [if_pos h2]
      go_enter Try.func16, Try.ntmps16
      go_wp2_with fail
      refine Ha.mono ?_
      rintro e w' ⟨rfl, rfl⟩
      go_wp2_with fail
      refine Hb.mono ?_
      rintro e w' ⟨rfl, rfl⟩
      go_wp2
      go_ret
      exact ⟨rfl, rfl⟩
    · rw [if_neg h2]
      go_enter Try.func16, Try.ntmps16
      go_wp2_with fail
      refine Ha.mono ?_
      rintro e w' ⟨rfl, rfl⟩
      go_wp2_with fail
      refine Hb.mono ?_
      rintro e w' ⟨rfl, rfl⟩
      go_wp2
      go_ret
      exact ⟨rfl, rfl⟩

theorem abs_any (b : Nat) (hb : b < 18446744073709551616) (w : World) : Calls Try.prog 25 #[.float .f64 b] w fun e w' => e = .returned (.float .f64 (b % 9223372036854775808)) ∧ w = w' := by
  have h := andNot63 b hb
  obtain ⟨m, hm⟩ : ∃ m, m = b % 9223372036854775808 := ⟨_, rfl⟩
  rw [← hm] at h ⊢
  clear hm
  go_enter Try.func25, Try.ntmps25
  go_wp2
  go_ret
  exact ⟨rfl, rfl⟩

theorem nan_any (w : World) : Calls Try.prog 27 #[] w fun e w' => e = .returned (.float .f64 9221120237041090561) ∧ w = w' := by
  go_enter Try.func27, Try.ntmps27
  go_wp2
  go_ret
  exact ⟨rfl, rfl⟩

theorem inf_any (w : World) : Calls Try.prog 28 #[.int .i64 1] w fun e w' => e = .returned (.float .f64 9218868437227405312) ∧ w = w' := by
  go_enter Try.func28, Try.ntmps28
  go_wp2
  go_ret
  exact ⟨rfl, rfl⟩

theorem minus_any (w : World) : Calls Try.prog 26 #[.float .f64 0, .float .f64 13830554455654793216] w fun e w' => e = .returned (.float .f64 9223372036854775808) ∧ w = w' := by
  have h1 : bits .andNot .u64 0 9223372036854775808 = 0 := by decide +kernel
  have h2 : bits .and .u64 13830554455654793216 9223372036854775808 = 9223372036854775808 := by decide +kernel
  have h3 : bits .or .u64 0 9223372036854775808 = 9223372036854775808 := by decide +kernel
  go_enter Try.func26, Try.ntmps26
  go_wp2
  go_ret
  exact ⟨rfl, rfl⟩

/-- Is it plus infinity? -/
def pI (b : Nat) : Bool := FloatKind.f64.format.order b 9218868437227405311 == some .gt
theorem isInf_any (b : Nat) (w : World) : Calls Try.prog 19 #[.float .f64 b, .int .i64 1] w fun e w' => e = .returned (.bool (pI b)) ∧ w = w' := by
  unfold pI
  go_enter Try.func19, Try.ntmps19
  go_wp2
  go_ret
  exact ⟨rfl, rfl⟩

theorem nan_cut (q : Question) (x y : Nat) (hq : q = .nanBits .f64 x y) (t : Nat) : q.cut t < 18446744073709551616 ∧ fN (q.cut t) = true := by
  subst hq
  have e : (Question.nanBits .f64 x y).cut t = (t % 2) * 9223372036854775808 + 9218868437227405312 + 1 + (t / 2) % 4503599627370495 := rfl
  rw [e]
  have h1 : t / 2 % 4503599627370495 < 4503599627370495 := Nat.mod_lt _ (by omega)
  generalize t / 2 % 4503599627370495 = u at h1 ⊢
  have h2 : t % 2 < 2 := Nat.mod_lt _ (by omega)
  have hl : t % 2 * 9223372036854775808 + 9218868437227405312 + 1 + u < 18446744073709551616 := by omega
  refine ⟨hl, ?_⟩
  rw [fN_eq _ hl]
  unfold rung
  rw [decide_eq_true_eq]; omega

theorem run_quo_nan (t : TypeId) (x y : Nat) (h : FloatKind.f64.format.div x y = none) (w : World) :
    (binOp .quo t (.float .f64 x) (.float .f64 y)).run Try.prog w = .ok (.float .f64 ((Question.nanBits .f64 x y).cut (w.tape w.drawn (.nanBits .f64 x y)))) w.drew := by
  simp [binOp, Op.floatArith, h, Question.forced]

theorem rate0_any (w : World) : Calls Try.prog 23 #[.int .i64 0, .int .i64 0] w fun e w' => (∃ b, e = .returned (.float .f64 b) ∧ b < 18446744073709551616 ∧ fN b = true) ∧ w' = w.drew := by
  obtain ⟨z, hz⟩ : ∃ z, floatOfInt .f64 0 = z := ⟨_, rfl⟩
  have hq := run_quo_nan 29 z z (by rw [← hz]; decide +kernel) w
  have hb := nan_cut _ z z rfl (w.tape w.drawn (.nanBits .f64 z z))
  generalize (Question.nanBits FloatKind.f64 z z).cut (w.tape w.drawn (Question.nanBits FloatKind.f64 z z)) = r at hq hb
  have hb' := Lib.hid hb; clear hb
  go_enter Try.func23, Try.ntmps23
  go_wp2
  go_ret
  exact ⟨⟨_, rfl, hb'⟩, rfl⟩
end Go.Proofs.Ytlahjieodcoecaa
