/- gauge.Blend, gauge.Rate and the document's: what they compute (the walks). -/
import Derived.Test.YtlahjieodcoecaaRO
namespace Go.Proofs.Ytlahjieodcoecaa
open Go.RowKit
set_option linter.unusedVariables false

/-- What is told of a result: the bits where there are any; else some NaN. -/
structure ResOk (v : Option Nat) (r : Nat) : Prop where
  wf : r < 18446744073709551616
  some' : ∀ x, v = some x → r = x
  none' : v = none → fN r = true

theorem same_ok {v : Option Nat} {r q : Nat} (h : ResOk v r) (k : ResOk v q) : ord r q = 0 := by
  have : key r = key q := by
    cases v with
    | some x => rw [h.some' x rfl, k.some' x rfl]
    | none => rw [nan_key _ (h.none' rfl), nan_key _ (k.none' rfl)]
  unfold ord
  rw [if_neg (by omega), if_neg (by omega)]

theorem run_add_nan (t : TypeId) (x y : Nat) (h : FloatKind.f64.format.add x y = none) (w : World) :
    (binOp .add t (.float .f64 x) (.float .f64 y)).run Try.prog w = .ok (.float .f64 ((Question.nanBits .f64 x y).cut (w.tape w.drawn (.nanBits .f64 x y)))) w.drew := by
  simp [binOp, Op.floatArith, h, Question.forced]

theorem mul_some (x y : Nat) (hx : x < 18446744073709551616) (nx : fN x = false) (hy : y < 9218868437227405312) (h0 : 0 < y) : floatBits .mul .f64 x y = some (fm x y) := by
  obtain ⟨n, j, e2, hn⟩ := read_fin y hy
  have hn := hn h0
  have hn' : n ≠ 0 := by omega
  rw [fN_eq x hx] at nx
  have nx := of_decide_eq_false nx
  unfold fm floatBits Ieee.Format.mul
  by_cases h : rung x = 9218868437227405312
  · rw [read_inf' x hx h, e2]
    simp only [Ieee.Datum.product, hn', if_false, Option.map, Option.getD]
  · obtain ⟨m, k, e, hm⟩ := read_vr x hx (by omega)
    rw [e, e2]
    simp only [Ieee.Datum.product, Option.map, Option.getD]

def blend (a b : Nat) : Option Nat := if fN a then some b else if fN b then some a else FloatKind.f64.format.add (fm a 4606056518893174784) (fm b 4593671619917905920)

def Res (v : Option Nat) (w : World) : Ending → World → Prop := fun e w' => (∃ r, e = .returned (.float .f64 r) ∧ ResOk v r) ∧ Kp [] w w'

theorem blend_any (a b : Nat) (ha : a < 18446744073709551616) (hb : b < 18446744073709551616) (w : World) : Calls Try.prog 21 #[.float .f64 a, .float .f64 b] w (Res (blend a b) w) := by
  have Ha := isNaN_any a w
  have Hb := isNaN_any b w
  obtain ⟨v, hv⟩ : ∃ v, blend a b = v := ⟨_, rfl⟩
  rw [hv]
  unfold blend at hv
  have ma := fun h => mul_some a 4606056518893174784 ha h (by omega) (by omega)
  have mb := fun h => mul_some b 4593671619917905920 hb h (by omega) (by omega)
  generalize fN a = na at *
  generalize fN b = nb at *
  cases na
  · cases nb
    · simp only [Bool.false_eq_true, if_false] at hv
      have ma := ma rfl
      have mb := mb rfl
      generalize fm a 4606056518893174784 = x at *
      generalize fm b 4593671619917905920 = y at *
      have ra := fun w' : World => run_float_arith (P := Try.prog) w' .mul 29 .f64 _ _ _ ma
      have rb := fun w' : World => run_float_arith (P := Try.prog) w' .mul 29 .f64 _ _ _ mb
      cases v with
      | some z =>
        have hw : z < 18446744073709551616 := by simpa [Lit.wf] using floatBits_wf (op := .add) (k := .f64) (x := x) (y := y) (r := z) hv
        have rs := fun w' : World => run_float_arith (P := Try.prog) w' .add 29 .f64 x y z hv
        clear ma mb hv
        go_enter Try.func21, Try.ntmps21
        go_wp2_with fail
        refine Ha.mono ?_
        rintro e w1 ⟨rfl, rfl⟩
        go_wp2_with fail
        refine Hb.mono ?_
        rintro e w1 ⟨rfl, rfl⟩
        go_wp2
        go_ret
        exact ⟨⟨z, rfl, hw, fun _ h => Option.some.inj h, fun h => by cases h⟩, Kp.refl _ _⟩
      | none =>
        have hq := run_add_nan 29 x y hv w
        have hb := nan_cut _ x y rfl (w.tape w.drawn (.nanBits .f64 x y))
        generalize (Question.nanBits FloatKind.f64 x y).cut (w.tape w.drawn (Question.nanBits FloatKind.f64 x y)) = r at hq hb
        have hb' := Lib.hid hb
        clear ma mb hv hb
        go_enter Try.func21, Try.ntmps21
        go_wp2_with fail
        refine Ha.mono ?_
        rintro e w1 ⟨rfl, rfl⟩
        go_wp2_with fail
        refine Hb.mono ?_
        rintro e w1 ⟨rfl, rfl⟩
        go_wp2
        go_ret
        exact ⟨⟨r, rfl, hb'.out.1, fun _ h => (by cases h), fun _ => hb'.out.2⟩, (Kp.refl _ _).drew⟩
    · simp only [Bool.false_eq_true, if_false, if_true] at hv
      subst hv
      clear ma mb
      go_enter Try.func21, Try.ntmps21
      go_wp2_with fail
      refine Ha.mono ?_
      rintro e w1 ⟨rfl, rfl⟩
      go_wp2_with fail
      refine Hb.mono ?_
      rintro e w1 ⟨rfl, rfl⟩
      go_wp2
      go_ret
      exact ⟨⟨a, rfl, ha, fun _ h => Option.some.inj h, fun h => by cases h⟩, Kp.refl _ _⟩
  · simp only [if_true] at hv
    subst hv
    clear ma mb
    go_enter Try.func21, Try.ntmps21
    go_wp2_with fail
    refine Ha.mono ?_
    rintro e w1 ⟨rfl, rfl⟩
    go_wp2
    go_ret
    exact ⟨⟨b, rfl, hb, fun _ h => Option.some.inj h, fun h => by cases h⟩, Kp.refl _ _⟩

theorem refBlend_any (a b : Nat) (ha : a < 18446744073709551616) (hb : b < 18446744073709551616) (w : World) : Calls Try.prog 22 #[.float .f64 a, .float .f64 b] w (Res (blend a b) w) := by
  have Ha := refNan_any a w
  have Hb := refNan_any b w
  obtain ⟨v, hv⟩ : ∃ v, blend a b = v := ⟨_, rfl⟩
  rw [hv]
  unfold blend at hv
  have ma := fun h => mul_some a 4606056518893174784 ha h (by omega) (by omega)
  have mb := fun h => mul_some b 4593671619917905920 hb h (by omega) (by omega)
  generalize fN a = na at *
  generalize fN b = nb at *
  cases na
  · cases nb
    · simp only [Bool.false_eq_true, if_false] at hv
      have ma := ma rfl
      have mb := mb rfl
      generalize fm a 4606056518893174784 = x at *
      generalize fm b 4593671619917905920 = y at *
      have ra := fun w' : World => run_float_arith (P := Try.prog) w' .mul 29 .f64 _ _ _ ma
      have rb := fun w' : World => run_float_arith (P := Try.prog) w' .mul 29 .f64 _ _ _ mb
      cases v with
      | some z =>
        have hw : z < 18446744073709551616 := by simpa [Lit.wf] using floatBits_wf (op := .add) (k := .f64) (x := x) (y := y) (r := z) hv
        have rs := fun w' : World => run_float_arith (P := Try.prog) w' .add 29 .f64 x y z hv
        clear ma mb hv
        go_enter Try.func22, Try.ntmps22
        go_wp2_with fail
        refine Ha.mono ?_
        rintro e w1 ⟨rfl, rfl⟩
        go_wp2_with fail
        refine Hb.mono ?_
        rintro e w1 ⟨rfl, rfl⟩
        go_wp2
        go_ret
        exact ⟨⟨z, rfl, hw, fun _ h => Option.some.inj h, fun h => by cases h⟩, Kp.refl _ _⟩
      | none =>
        have hq := run_add_nan 29 x y hv w
        have hb := nan_cut _ x y rfl (w.tape w.drawn (.nanBits .f64 x y))
        generalize (Question.nanBits FloatKind.f64 x y).cut (w.tape w.drawn (Question.nanBits FloatKind.f64 x y)) = r at hq hb
        have hb' := Lib.hid hb
        clear ma mb hv hb
        go_enter Try.func22, Try.ntmps22
        go_wp2_with fail
        refine Ha.mono ?_
        rintro e w1 ⟨rfl, rfl⟩
        go_wp2_with fail
        refine Hb.mono ?_
        rintro e w1 ⟨rfl, rfl⟩
        go_wp2
        go_ret
        exact ⟨⟨r, rfl, hb'.out.1, fun _ h => (by cases h), fun _ => hb'.out.2⟩, (Kp.refl _ _).drew⟩
    · simp only [Bool.false_eq_true, if_false, if_true] at hv
      subst hv
      clear ma mb
      go_enter Try.func22, Try.ntmps22
      go_wp2_with fail
      refine Ha.mono ?_
      rintro e w1 ⟨rfl, rfl⟩
      go_wp2_with fail
      refine Hb.mono ?_
      rintro e w1 ⟨rfl, rfl⟩
      go_wp2
      go_ret
      exact ⟨⟨a, rfl, ha, fun _ h => Option.some.inj h, fun h => by cases h⟩, Kp.refl _ _⟩
  · simp only [if_true] at hv
    subst hv
    clear ma mb
    go_enter Try.func22, Try.ntmps22
    go_wp2_with fail
    refine Ha.mono ?_
    rintro e w1 ⟨rfl, rfl⟩
    go_wp2
    go_ret
    exact ⟨⟨b, rfl, hb, fun _ h => Option.some.inj h, fun h => by cases h⟩, Kp.refl _ _⟩

def rate (n m : Int) : Option Nat := FloatKind.f64.format.div (floatOfInt .f64 n) (floatOfInt .f64 m)
theorem rate_any (n m : Int) (w : World) : Calls Try.prog 23 #[.int .i64 n, .int .i64 m] w (Res (rate n m) w) := by
  obtain ⟨v, hv⟩ : ∃ v, rate n m = v := ⟨_, rfl⟩
  rw [hv]
  unfold rate at hv
  obtain ⟨x, hx⟩ : ∃ x, floatOfInt .f64 n = x := ⟨_, rfl⟩
  obtain ⟨y, hy⟩ : ∃ y, floatOfInt .f64 m = y := ⟨_, rfl⟩
  rw [hx, hy] at hv
  cases v with
  | some z =>
    have hw : z < 18446744073709551616 := by simpa [Lit.wf] using floatBits_wf (op := .quo) (k := .f64) (x := x) (y := y) (r := z) hv
    have rs := fun w' : World => run_float_arith (P := Try.prog) w' .quo 29 .f64 x y z hv
    clear hv
    go_enter Try.func23, Try.ntmps23
    go_wp2
    go_ret
    exact ⟨⟨z, rfl, hw, fun _ h => Option.some.inj h, fun h => by cases h⟩, Kp.refl _ _⟩
  | none =>
    have hq := run_quo_nan 29 x y hv w
    have hb := nan_cut _ x y rfl (w.tape w.drawn (.nanBits .f64 x y))
    generalize (Question.nanBits FloatKind.f64 x y).cut (w.tape w.drawn (Question.nanBits FloatKind.f64 x y)) = r at hq hb
    have hb' := Lib.hid hb
    clear hv hb
    go_enter Try.func23, Try.ntmps23
    go_wp2
    go_ret
    exact ⟨⟨r, rfl, hb'.out.1, fun _ h => (by cases h), fun _ => hb'.out.2⟩, (Kp.refl _ _).drew⟩

theorem refRate_any (n m : Int) (w : World) : Calls Try.prog 24 #[.int .i64 n, .int .i64 m] w (Res (rate n m) w) := by
  obtain ⟨v, hv⟩ : ∃ v, rate n m = v := ⟨_, rfl⟩
  rw [hv]
  unfold rate at hv
  obtain ⟨x, hx⟩ : ∃ x, floatOfInt .f64 n = x := ⟨_, rfl⟩
  obtain ⟨y, hy⟩ : ∃ y, floatOfInt .f64 m = y := ⟨_, rfl⟩
  rw [hx, hy] at hv
  cases v with
  | some z =>
    have hw : z < 18446744073709551616 := by simpa [Lit.wf] using floatBits_wf (op := .quo) (k := .f64) (x := x) (y := y) (r := z) hv
    have rs := fun w' : World => run_float_arith (P := Try.prog) w' .quo 29 .f64 x y z hv
    clear hv
    go_enter Try.func24, Try.ntmps24
    go_wp2
    go_ret
    exact ⟨⟨z, rfl, hw, fun _ h => Option.some.inj h, fun h => by cases h⟩, Kp.refl _ _⟩
  | none =>
    have hq := run_quo_nan 29 x y hv w
    have hb := nan_cut _ x y rfl (w.tape w.drawn (.nanBits .f64 x y))
    generalize (Question.nanBits FloatKind.f64 x y).cut (w.tape w.drawn (Question.nanBits FloatKind.f64 x y)) = r at hq hb
    have hb' := Lib.hid hb
    clear hv hb
    go_enter Try.func24, Try.ntmps24
    go_wp2
    go_ret
    exact ⟨⟨r, rfl, hb'.out.1, fun _ h => (by cases h), fun _ => hb'.out.2⟩, (Kp.refl _ _).drew⟩

end Go.Proofs.Ytlahjieodcoecaa
