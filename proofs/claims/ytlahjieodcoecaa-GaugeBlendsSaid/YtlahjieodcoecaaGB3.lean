/- burinlaw32.GaugeBlends: it answers true, for all bit patterns (the walk). -/
import Derived.Test.YtlahjieodcoecaaBL
import Derived.Test.YtlahjieodcoecaaGB2
import Derived.Test.YtlahjieodcoecaaW
import Derived.Laws.Cover2
namespace Go.Proofs.Ytlahjieodcoecaa
open Go.RowKit
set_option linter.unusedVariables false

theorem mul_finF (x y : Nat) (hx : Fin' x) (hy : Fin' y) : floatBits .mul .f64 x y = some (fm x y) := by
  obtain ⟨m, i, e1, _⟩ := read_sv x hx
  obtain ⟨n, j, e2, _⟩ := read_sv y hy
  unfold fm floatBits Ieee.Format.mul
  rw [e1, e2]
  simp only [Ieee.Datum.product, Option.map, Option.getD]
theorem vr_le (r q : Nat) (h : r ≤ q) : vr r ≤ vr q := by
  rcases Nat.lt_or_eq_of_le h with h | h
  · exact Nat.le_of_lt (vr_mono _ _ h)
  · rw [h]; exact Nat.le_refl _
theorem top300 : vr 9094988921128908188 ≤ 2 ^ 2071 := by decide +kernel
theorem low300 : 151115727451828646838272 ≤ vr 118622047889322841 := by decide +kernel
/-- What the law's guards let in. -/
theorem mid_of (a : Nat) (ha : a < 18446744073709551616) (hn : fN a = false) (h1 : (FloatKind.f64.format.order (a % 9223372036854775808) 9094988921128908188 == some .gt) = false)
    (h2 : (FloatKind.f64.format.order (a % 9223372036854775808) 118622047889322841 == some .lt) = false ∨ (FloatKind.f64.format.order a 0 != some .eq) = false) : Mid a := by
  rw [fN_eq a ha] at hn
  have hr : rung a ≤ 9218868437227405312 := by simpa using hn
  have e : a % 9223372036854775808 = rung a := rfl
  rw [e] at h1 h2
  rw [order_pos _ _ hr (by decide)] at h1
  have h3 : rung a ≤ 9094988921128908188 := by
    rcases Nat.lt_or_ge 9094988921128908188 (rung a) with h | h
    · rw [Nat.compare_eq_gt.2 h] at h1; simp at h1
    · exact h
  have hf : Fin' a := ⟨ha, by omega⟩
  refine ⟨hf, Nat.le_trans (vr_le _ _ h3) top300, ?_⟩
  rcases h2 with h2 | h2
  · rw [order_pos _ _ hr (by decide)] at h2
    right
    refine Nat.le_trans low300 (vr_le _ _ ?_)
    rcases Nat.lt_or_ge (rung a) 118622047889322841 with h | h
    · rw [Nat.compare_eq_lt.2 h] at h2; simp at h2
    · exact h
  · left
    have h0 : Fin' 0 := ⟨by decide, by decide⟩
    rw [order_sv a 0 hf h0] at h2
    have : sv a = sv 0 := by
      simp at h2
      exact h2
    have e0 : sv 0 = 0 := by decide
    rw [e0] at this
    have := sg_abs (sB a) (vr (rung a))
    have h5 : sv a = sg (sB a) (vr (rung a)) := rfl
    rw [← h5] at this
    omega
/-- The lesser and the greater of two numbers. -/
theorem min_of (a b : Nat) (ha : Fin' a) (hb : Fin' b) : ∃ mn, Builtin.min2 (.float .f64 a) (.float .f64 b) = pure (.float .f64 mn) ∧ (mn = a ∨ mn = b) ∧ sv mn ≤ sv a ∧ sv mn ≤ sv b := by
  unfold Builtin.min2
  simp only [order_sv a b ha hb]
  rcases Int.lt_trichotomy (sv a) (sv b) with h | h | h
  · rw [Int.compare_eq_lt.2 h]
    exact ⟨a, rfl, .inl rfl, Int.le_refl _, Int.le_of_lt h⟩
  · rw [Int.compare_eq_eq.2 h]
    refine ⟨_, rfl, ?_, ?_⟩
    · split
      · exact .inl rfl
      · exact .inr rfl
    · split <;> omega
  · rw [Int.compare_eq_gt.2 h]
    exact ⟨b, rfl, .inr rfl, Int.le_of_lt h, Int.le_refl _⟩
theorem max_of (a b : Nat) (ha : Fin' a) (hb : Fin' b) : ∃ mx, Builtin.max2 (.float .f64 a) (.float .f64 b) = pure (.float .f64 mx) ∧ (mx = a ∨ mx = b) ∧ sv a ≤ sv mx ∧ sv b ≤ sv mx := by
  unfold Builtin.max2
  simp only [order_sv a b ha hb]
  rcases Int.lt_trichotomy (sv a) (sv b) with h | h | h
  · rw [Int.compare_eq_lt.2 h]
    exact ⟨b, rfl, .inr rfl, Int.le_of_lt h, Int.le_refl _⟩
  · rw [Int.compare_eq_eq.2 h]
    refine ⟨_, rfl, ?_, ?_⟩
    · split
      · exact .inr rfl
      · exact .inl rfl
    · split <;> omega
  · rw [Int.compare_eq_gt.2 h]
    exact ⟨a, rfl, .inl rfl, Int.le_refl _, Int.le_of_lt h⟩
theorem geq_of (x y : Nat) (hx : Fin' x) (hy : Fin' y) (h : sv y ≤ sv x) : (FloatKind.f64.format.order x y == some .gt || FloatKind.f64.format.order x y == some .eq) = true := by
  rw [order_sv x y hx hy]
  rcases Int.lt_trichotomy (sv x) (sv y) with h' | h' | h'
  · omega
  · rw [Int.compare_eq_eq.2 h']; rfl
  · rw [Int.compare_eq_gt.2 h']; rfl
theorem leq_of (x y : Nat) (hx : Fin' x) (hy : Fin' y) (h : sv x ≤ sv y) : (FloatKind.f64.format.order x y == some .lt || FloatKind.f64.format.order x y == some .eq) = true := by
  rw [order_sv x y hx hy]
  rcases Int.lt_trichotomy (sv x) (sv y) with h' | h' | h'
  · rw [Int.compare_eq_lt.2 h']; rfl
  · rw [Int.compare_eq_eq.2 h']; rfl
  · omega
theorem ord_self (b : Nat) : ord b b = 0 := by unfold ord; rw [if_neg (by omega), if_neg (by omega)]
set_option maxHeartbeats 8000000 in
theorem law_blends (W : World) (a b : Nat) (ha : a < 18446744073709551616) (hb : b < 18446744073709551616) :
    Calls Try.prog 8 #[.float .f64 a, .float .f64 b] W fun e w' => e = .returned (.bool true) ∧ Below W.heap.size W w' := by
  have fin : ∀ {w'}, Kp [] W w' → Below W.heap.size W w' := fun k => k.below (Nat.le_refl _) (by simp)
  have W9 := Lib.hid works_any
  have B21 := Lib.hid (blend_any a b ha hb)
  have Na := Lib.hid (isNaN_any a)
  have Nb := Lib.hid (isNaN_any b)
  cases hna : fN a with
  | true =>
    rw [hna] at Na
    have hbl : blend a b = some b := by unfold blend; rw [hna]; rfl
    rw [hbl] at B21
    have O := Lib.hid (order_any b b hb hb)
    rw [ord_self] at O
    replace hna := Lib.hid hna
    replace hbl := Lib.hid hbl
    go_enter Try.func8, Try.ntmps8
    go_wp2_with fail
    refine (W9.out _).mono ?_
    rintro e w1 ⟨rfl, k1⟩
    go_wp2_with fail
    refine (B21.out _).mono ?_
    rintro e w2 ⟨⟨r, rfl, hr⟩, k2⟩
    obtain rfl := hr.some' b rfl
    clear hr
    go_wp2_with (first
      | (go_at_call 18; refine (Na.out _).mono ?_; rintro e w3 ⟨rfl, rfl⟩)
      | (go_at_call 16; refine (O.out _).mono ?_; rintro e w4 ⟨rfl, rfl⟩))
    go_ret
    exact ⟨rfl, fin (k1.trans k2)⟩
  | false =>
    rw [hna] at Na
    cases hnb : fN b with
    | true =>
      rw [hnb] at Nb
      have hbl : blend a b = some a := by unfold blend; rw [hna, hnb]; rfl
      rw [hbl] at B21
      have O := Lib.hid (order_any a a ha ha)
      rw [ord_self] at O
      replace hna := Lib.hid hna
      replace hnb := Lib.hid hnb
      replace hbl := Lib.hid hbl
      go_enter Try.func8, Try.ntmps8
      go_wp2_with fail
      refine (W9.out _).mono ?_
      rintro e w1 ⟨rfl, k1⟩
      go_wp2_with fail
      refine (B21.out _).mono ?_
      rintro e w2 ⟨⟨r, rfl, hr⟩, k2⟩
      obtain rfl := hr.some' a rfl
      clear hr
      go_wp2_with (first
        | (go_at_call 18; (with_reducible refine (Na.out _).mono ?_); rintro e w3 ⟨rfl, rfl⟩)
        | (go_at_call 18; (with_reducible refine (Nb.out _).mono ?_); rintro e w3 ⟨rfl, rfl⟩)
        | (go_at_call 16; refine (O.out _).mono ?_; rintro e w4 ⟨rfl, rfl⟩))
      go_ret
      exact ⟨rfl, fin (k1.trans k2)⟩
    | false =>
      rw [hnb] at Nb
      have Aa := Lib.hid (abs_any a ha)
      have Ab := Lib.hid (abs_any b hb)
      have M1 := mid_of a ha hna
      have M2 := mid_of b hb hnb
      cases G1 : (FloatKind.f64.format.order (a % 9223372036854775808) 9094988921128908188 == some .gt) with
      | true =>
        have G1' := G1
        simp at G1'
        clear M1 M2
        go_enter Try.func8, Try.ntmps8
        go_wp2_with fail
        refine (W9.out _).mono ?_
        rintro e w1 ⟨rfl, k1⟩
        go_wp2_with fail
        refine (B21.out _).mono ?_
        rintro e w2 ⟨⟨r, rfl, hr⟩, k2⟩
        clear hr
        go_wp2_with (first
          | (go_at_call 18; (with_reducible refine (Na.out _).mono ?_); rintro e w3 ⟨rfl, rfl⟩)
          | (go_at_call 18; (with_reducible refine (Nb.out _).mono ?_); rintro e w3 ⟨rfl, rfl⟩)
          | (go_at_call 25; (with_reducible refine (Aa.out _).mono ?_); rintro e w3 ⟨rfl, rfl⟩)
          | (go_at_call 25; (with_reducible refine (Ab.out _).mono ?_); rintro e w3 ⟨rfl, rfl⟩))
        go_ret
        exact ⟨rfl, fin (k1.trans k2)⟩
      | false =>
        have G1' := G1
        simp at G1'
        cases G2 : (FloatKind.f64.format.order (b % 9223372036854775808) 9094988921128908188 == some .gt) with
        | true =>
          have G2' := G2
          simp at G2'
          clear M1 M2
          go_enter Try.func8, Try.ntmps8
          go_wp2_with fail
          refine (W9.out _).mono ?_
          rintro e w1 ⟨rfl, k1⟩
          go_wp2_with fail
          refine (B21.out _).mono ?_
          rintro e w2 ⟨⟨r, rfl, hr⟩, k2⟩
          clear hr
          go_wp2_with (first
            | (go_at_call 18; (with_reducible refine (Na.out _).mono ?_); rintro e w3 ⟨rfl, rfl⟩)
            | (go_at_call 18; (with_reducible refine (Nb.out _).mono ?_); rintro e w3 ⟨rfl, rfl⟩)
            | (go_at_call 25; (with_reducible refine (Aa.out _).mono ?_); rintro e w3 ⟨rfl, rfl⟩)
            | (go_at_call 25; (with_reducible refine (Ab.out _).mono ?_); rintro e w3 ⟨rfl, rfl⟩))
          go_ret
          exact ⟨rfl, fin (k1.trans k2)⟩
        | false =>
          have G2' := G2
          simp at G2'
          by_cases L1N : (FloatKind.f64.format.order (a % 9223372036854775808) 118622047889322841 == some .lt) = true ∧ (FloatKind.f64.format.order a 0 != some .eq) = true
          · obtain ⟨L1, N1⟩ := L1N
            have L1' := L1
            simp at L1'
            have N1' := N1
            simp at N1'
            clear M1 M2
            go_enter Try.func8, Try.ntmps8
            go_wp2_with fail
            refine (W9.out _).mono ?_
            rintro e w1 ⟨rfl, k1⟩
            go_wp2_with fail
            refine (B21.out _).mono ?_
            rintro e w2 ⟨⟨r, rfl, hr⟩, k2⟩
            clear hr
            go_wp2_with (first
              | (go_at_call 18; (with_reducible refine (Na.out _).mono ?_); rintro e w3 ⟨rfl, rfl⟩)
              | (go_at_call 18; (with_reducible refine (Nb.out _).mono ?_); rintro e w3 ⟨rfl, rfl⟩)
              | (go_at_call 25; (with_reducible refine (Aa.out _).mono ?_); rintro e w3 ⟨rfl, rfl⟩)
              | (go_at_call 25; (with_reducible refine (Ab.out _).mono ?_); rintro e w3 ⟨rfl, rfl⟩))
            go_ret
            exact ⟨rfl, fin (k1.trans k2)⟩
          replace M1 := M1 G1 (by
            rcases Bool.eq_false_or_eq_true (FloatKind.f64.format.order (a % 9223372036854775808) 118622047889322841 == some .lt) with h | h
            · right
              rcases Bool.eq_false_or_eq_true (FloatKind.f64.format.order a 0 != some .eq) with h' | h'
              · exact absurd ⟨h, h'⟩ L1N
              · exact h'
            · exact .inl h)
          cases L1 : (FloatKind.f64.format.order (a % 9223372036854775808) 118622047889322841 == some .lt) with
          | true =>
            have N1 : (FloatKind.f64.format.order a 0 != some .eq) = false := by
              rcases Bool.eq_false_or_eq_true (FloatKind.f64.format.order a 0 != some .eq) with h' | h'
              · exact absurd ⟨L1, h'⟩ L1N
              · exact h'
            clear L1N
            have L1' := L1
            simp at L1'
            have N1' := N1
            simp at N1'
            by_cases L2N : (FloatKind.f64.format.order (b % 9223372036854775808) 118622047889322841 == some .lt) = true ∧ (FloatKind.f64.format.order b 0 != some .eq) = true
            · obtain ⟨L2, N2⟩ := L2N
              have L2' := L2
              simp at L2'
              have N2' := N2
              simp at N2'
              clear M1 M2
              go_enter Try.func8, Try.ntmps8
              go_wp2_with fail
              refine (W9.out _).mono ?_
              rintro e w1 ⟨rfl, k1⟩
              go_wp2_with fail
              refine (B21.out _).mono ?_
              rintro e w2 ⟨⟨r, rfl, hr⟩, k2⟩
              clear hr
              go_wp2_with (first
                | (go_at_call 18; (with_reducible refine (Na.out _).mono ?_); rintro e w3 ⟨rfl, rfl⟩)
                | (go_at_call 18; (with_reducible refine (Nb.out _).mono ?_); rintro e w3 ⟨rfl, rfl⟩)
                | (go_at_call 25; (with_reducible refine (Aa.out _).mono ?_); rintro e w3 ⟨rfl, rfl⟩)
                | (go_at_call 25; (with_reducible refine (Ab.out _).mono ?_); rintro e w3 ⟨rfl, rfl⟩))
              go_ret
              exact ⟨rfl, fin (k1.trans k2)⟩
            replace M2 := M2 G2 (by
              rcases Bool.eq_false_or_eq_true (FloatKind.f64.format.order (b % 9223372036854775808) 118622047889322841 == some .lt) with h | h
              · right
                rcases Bool.eq_false_or_eq_true (FloatKind.f64.format.order b 0 != some .eq) with h' | h'
                · exact absurd ⟨h, h'⟩ L2N
                · exact h'
              · exact .inl h)
            cases L2 : (FloatKind.f64.format.order (b % 9223372036854775808) 118622047889322841 == some .lt) with
            | true =>
              have N2 : (FloatKind.f64.format.order b 0 != some .eq) = false := by
                rcases Bool.eq_false_or_eq_true (FloatKind.f64.format.order b 0 != some .eq) with h' | h'
                · exact absurd ⟨L2, h'⟩ L2N
                · exact h'
              clear L2N
              have L2' := L2
              simp at L2'
              have N2' := N2
              simp at N2'
              -- the end
              obtain ⟨mn, hmin, hmn, h1⟩ := min_of a b M1.1 M2.1
              obtain ⟨mx, hmax, hmx, h2⟩ := max_of a b M1.1 M2.1
              obtain ⟨x, s, lo, hi, hx, fx, hs, fs, fw, hlo, flo, hhi, fhi, b1, b2⟩ := between a b M1 M2 mn hmn mx hmx h1 h2
              have hbl : blend a b = some x := by unfold blend; rw [hna, hnb]; exact hx
              rw [hbl] at B21
              have rs := fun w' : World => run_float_arith (P := Try.prog) w' .add 29 .f64 _ _ _ hs
              have rm := fun w' : World => run_float_arith (P := Try.prog) w' .mul 29 .f64 4382569440205035030 s _ (mul_finF 4382569440205035030 s fin15.1 fs)
              rw [← fm_comm s 4382569440205035030 fs fin15.1] at rm
              generalize fm s 4382569440205035030 = wd at *
              have rl := fun w' : World => run_float_arith (P := Try.prog) w' .sub 29 .f64 _ _ _ hlo
              have rh := fun w' : World => run_float_arith (P := Try.prog) w' .add 29 .f64 _ _ _ hhi
              have hmin' : ∀ w', Sem.run Try.prog (Builtin.min_ #[29, 29] 29 #[.float .f64 a, .float .f64 b]) w' = .ok (.float .f64 mn) w' := fun w' => by rw [min_two, hmin]; rfl
              have hmax' : ∀ w', Sem.run Try.prog (Builtin.max_ #[29, 29] 29 #[.float .f64 a, .float .f64 b]) w' = .ok (.float .f64 mx) w' := fun w' => by rw [max_two, hmax]; rfl
              clear hmin hmax
              have cg := geq_of x lo fx flo b1
              have cl := leq_of x hi fx fhi b2
              clear hx hs hlo hhi b1 b2 hbl fx fs fw flo fhi h1 h2 hmn hmx M1 M2 hna hnb
              go_enter Try.func8, Try.ntmps8
              go_wp2_with fail
              refine (W9.out _).mono ?_
              rintro e w1 ⟨rfl, k1⟩
              go_wp2_with fail
              refine (B21.out _).mono ?_
              rintro e w2 ⟨⟨r, rfl, hr⟩, k2⟩
              obtain rfl := hr.some' _ rfl
              clear hr
              go_wp2_with (first
                | (go_at_call 18; (with_reducible refine (Na.out _).mono ?_); rintro e w3 ⟨rfl, rfl⟩)
                | (go_at_call 18; (with_reducible refine (Nb.out _).mono ?_); rintro e w3 ⟨rfl, rfl⟩)
                | (go_at_call 25; (with_reducible refine (Aa.out _).mono ?_); rintro e w3 ⟨rfl, rfl⟩)
                | (go_at_call 25; (with_reducible refine (Ab.out _).mono ?_); rintro e w3 ⟨rfl, rfl⟩))
              go_ret
              exact ⟨rfl, fin (k1.trans k2)⟩
            | false =>
              clear L2N
              have L2' := L2
              simp at L2'
              -- the end
              obtain ⟨mn, hmin, hmn, h1⟩ := min_of a b M1.1 M2.1
              obtain ⟨mx, hmax, hmx, h2⟩ := max_of a b M1.1 M2.1
              obtain ⟨x, s, lo, hi, hx, fx, hs, fs, fw, hlo, flo, hhi, fhi, b1, b2⟩ := between a b M1 M2 mn hmn mx hmx h1 h2
              have hbl : blend a b = some x := by unfold blend; rw [hna, hnb]; exact hx
              rw [hbl] at B21
              have rs := fun w' : World => run_float_arith (P := Try.prog) w' .add 29 .f64 _ _ _ hs
              have rm := fun w' : World => run_float_arith (P := Try.prog) w' .mul 29 .f64 4382569440205035030 s _ (mul_finF 4382569440205035030 s fin15.1 fs)
              rw [← fm_comm s 4382569440205035030 fs fin15.1] at rm
              generalize fm s 4382569440205035030 = wd at *
              have rl := fun w' : World => run_float_arith (P := Try.prog) w' .sub 29 .f64 _ _ _ hlo
              have rh := fun w' : World => run_float_arith (P := Try.prog) w' .add 29 .f64 _ _ _ hhi
              have hmin' : ∀ w', Sem.run Try.prog (Builtin.min_ #[29, 29] 29 #[.float .f64 a, .float .f64 b]) w' = .ok (.float .f64 mn) w' := fun w' => by rw [min_two, hmin]; rfl
              have hmax' : ∀ w', Sem.run Try.prog (Builtin.max_ #[29, 29] 29 #[.float .f64 a, .float .f64 b]) w' = .ok (.float .f64 mx) w' := fun w' => by rw [max_two, hmax]; rfl
              clear hmin hmax
              have cg := geq_of x lo fx flo b1
              have cl := leq_of x hi fx fhi b2
              clear hx hs hlo hhi b1 b2 hbl fx fs fw flo fhi h1 h2 hmn hmx M1 M2 hna hnb
              go_enter Try.func8, Try.ntmps8
              go_wp2_with fail
              refine (W9.out _).mono ?_
              rintro e w1 ⟨rfl, k1⟩
              go_wp2_with fail
              refine (B21.out _).mono ?_
              rintro e w2 ⟨⟨r, rfl, hr⟩, k2⟩
              obtain rfl := hr.some' _ rfl
              clear hr
              go_wp2_with (first
                | (go_at_call 18; (with_reducible refine (Na.out _).mono ?_); rintro e w3 ⟨rfl, rfl⟩)
                | (go_at_call 18; (with_reducible refine (Nb.out _).mono ?_); rintro e w3 ⟨rfl, rfl⟩)
                | (go_at_call 25; (with_reducible refine (Aa.out _).mono ?_); rintro e w3 ⟨rfl, rfl⟩)
                | (go_at_call 25; (with_reducible refine (Ab.out _).mono ?_); rintro e w3 ⟨rfl, rfl⟩))
              go_ret
              exact ⟨rfl, fin (k1.trans k2)⟩
          | false =>
            clear L1N
            have L1' := L1
            simp at L1'
            by_cases L2N : (FloatKind.f64.format.order (b % 9223372036854775808) 118622047889322841 == some .lt) = true ∧ (FloatKind.f64.format.order b 0 != some .eq) = true
            · obtain ⟨L2, N2⟩ := L2N
              have L2' := L2
              simp at L2'
              have N2' := N2
              simp at N2'
              clear M1 M2
              go_enter Try.func8, Try.ntmps8
              go_wp2_with fail
              refine (W9.out _).mono ?_
              rintro e w1 ⟨rfl, k1⟩
              go_wp2_with fail
              refine (B21.out _).mono ?_
              rintro e w2 ⟨⟨r, rfl, hr⟩, k2⟩
              clear hr
              go_wp2_with (first
                | (go_at_call 18; (with_reducible refine (Na.out _).mono ?_); rintro e w3 ⟨rfl, rfl⟩)
                | (go_at_call 18; (with_reducible refine (Nb.out _).mono ?_); rintro e w3 ⟨rfl, rfl⟩)
                | (go_at_call 25; (with_reducible refine (Aa.out _).mono ?_); rintro e w3 ⟨rfl, rfl⟩)
                | (go_at_call 25; (with_reducible refine (Ab.out _).mono ?_); rintro e w3 ⟨rfl, rfl⟩))
              go_ret
              exact ⟨rfl, fin (k1.trans k2)⟩
            replace M2 := M2 G2 (by
              rcases Bool.eq_false_or_eq_true (FloatKind.f64.format.order (b % 9223372036854775808) 118622047889322841 == some .lt) with h | h
              · right
                rcases Bool.eq_false_or_eq_true (FloatKind.f64.format.order b 0 != some .eq) with h' | h'
                · exact absurd ⟨h, h'⟩ L2N
                · exact h'
              · exact .inl h)
            cases L2 : (FloatKind.f64.format.order (b % 9223372036854775808) 118622047889322841 == some .lt) with
            | true =>
              have N2 : (FloatKind.f64.format.order b 0 != some .eq) = false := by
                rcases Bool.eq_false_or_eq_true (FloatKind.f64.format.order b 0 != some .eq) with h' | h'
                · exact absurd ⟨L2, h'⟩ L2N
                · exact h'
              clear L2N
              have L2' := L2
              simp at L2'
              have N2' := N2
              simp at N2'
              -- the end
              obtain ⟨mn, hmin, hmn, h1⟩ := min_of a b M1.1 M2.1
              obtain ⟨mx, hmax, hmx, h2⟩ := max_of a b M1.1 M2.1
              obtain ⟨x, s, lo, hi, hx, fx, hs, fs, fw, hlo, flo, hhi, fhi, b1, b2⟩ := between a b M1 M2 mn hmn mx hmx h1 h2
              have hbl : blend a b = some x := by unfold blend; rw [hna, hnb]; exact hx
              rw [hbl] at B21
              have rs := fun w' : World => run_float_arith (P := Try.prog) w' .add 29 .f64 _ _ _ hs
              have rm := fun w' : World => run_float_arith (P := Try.prog) w' .mul 29 .f64 4382569440205035030 s _ (mul_finF 4382569440205035030 s fin15.1 fs)
              rw [← fm_comm s 4382569440205035030 fs fin15.1] at rm
              generalize fm s 4382569440205035030 = wd at *
              have rl := fun w' : World => run_float_arith (P := Try.prog) w' .sub 29 .f64 _ _ _ hlo
              have rh := fun w' : World => run_float_arith (P := Try.prog) w' .add 29 .f64 _ _ _ hhi
              have hmin' : ∀ w', Sem.run Try.prog (Builtin.min_ #[29, 29] 29 #[.float .f64 a, .float .f64 b]) w' = .ok (.float .f64 mn) w' := fun w' => by rw [min_two, hmin]; rfl
              have hmax' : ∀ w', Sem.run Try.prog (Builtin.max_ #[29, 29] 29 #[.float .f64 a, .float .f64 b]) w' = .ok (.float .f64 mx) w' := fun w' => by rw [max_two, hmax]; rfl
              clear hmin hmax
              have cg := geq_of x lo fx flo b1
              have cl := leq_of x hi fx fhi b2
              clear hx hs hlo hhi b1 b2 hbl fx fs fw flo fhi h1 h2 hmn hmx M1 M2 hna hnb
              go_enter Try.func8, Try.ntmps8
              go_wp2_with fail
              refine (W9.out _).mono ?_
              rintro e w1 ⟨rfl, k1⟩
              go_wp2_with fail
              refine (B21.out _).mono ?_
              rintro e w2 ⟨⟨r, rfl, hr⟩, k2⟩
              obtain rfl := hr.some' _ rfl
              clear hr
              go_wp2_with (first
                | (go_at_call 18; (with_reducible refine (Na.out _).mono ?_); rintro e w3 ⟨rfl, rfl⟩)
                | (go_at_call 18; (with_reducible refine (Nb.out _).mono ?_); rintro e w3 ⟨rfl, rfl⟩)
                | (go_at_call 25; (with_reducible refine (Aa.out _).mono ?_); rintro e w3 ⟨rfl, rfl⟩)
                | (go_at_call 25; (with_reducible refine (Ab.out _).mono ?_); rintro e w3 ⟨rfl, rfl⟩))
              go_ret
              exact ⟨rfl, fin (k1.trans k2)⟩
            | false =>
              clear L2N
              have L2' := L2
              simp at L2'
              -- the end
              obtain ⟨mn, hmin, hmn, h1⟩ := min_of a b M1.1 M2.1
              obtain ⟨mx, hmax, hmx, h2⟩ := max_of a b M1.1 M2.1
              obtain ⟨x, s, lo, hi, hx, fx, hs, fs, fw, hlo, flo, hhi, fhi, b1, b2⟩ := between a b M1 M2 mn hmn mx hmx h1 h2
              have hbl : blend a b = some x := by unfold blend; rw [hna, hnb]; exact hx
              rw [hbl] at B21
              have rs := fun w' : World => run_float_arith (P := Try.prog) w' .add 29 .f64 _ _ _ hs
              have rm := fun w' : World => run_float_arith (P := Try.prog) w' .mul 29 .f64 4382569440205035030 s _ (mul_finF 4382569440205035030 s fin15.1 fs)
              rw [← fm_comm s 4382569440205035030 fs fin15.1] at rm
              generalize fm s 4382569440205035030 = wd at *
              have rl := fun w' : World => run_float_arith (P := Try.prog) w' .sub 29 .f64 _ _ _ hlo
              have rh := fun w' : World => run_float_arith (P := Try.prog) w' .add 29 .f64 _ _ _ hhi
              have hmin' : ∀ w', Sem.run Try.prog (Builtin.min_ #[29, 29] 29 #[.float .f64 a, .float .f64 b]) w' = .ok (.float .f64 mn) w' := fun w' => by rw [min_two, hmin]; rfl
              have hmax' : ∀ w', Sem.run Try.prog (Builtin.max_ #[29, 29] 29 #[.float .f64 a, .float .f64 b]) w' = .ok (.float .f64 mx) w' := fun w' => by rw [max_two, hmax]; rfl
              clear hmin hmax
              have cg := geq_of x lo fx flo b1
              have cl := leq_of x hi fx fhi b2
              clear hx hs hlo hhi b1 b2 hbl fx fs fw flo fhi h1 h2 hmn hmx M1 M2 hna hnb
              go_enter Try.func8, Try.ntmps8
              go_wp2_with fail
              refine (W9.out _).mono ?_
              rintro e w1 ⟨rfl, k1⟩
              go_wp2_with fail
              refine (B21.out _).mono ?_
              rintro e w2 ⟨⟨r, rfl, hr⟩, k2⟩
              obtain rfl := hr.some' _ rfl
              clear hr
              go_wp2_with (first
                | (go_at_call 18; (with_reducible refine (Na.out _).mono ?_); rintro e w3 ⟨rfl, rfl⟩)
                | (go_at_call 18; (with_reducible refine (Nb.out _).mono ?_); rintro e w3 ⟨rfl, rfl⟩)
                | (go_at_call 25; (with_reducible refine (Aa.out _).mono ?_); rintro e w3 ⟨rfl, rfl⟩)
                | (go_at_call 25; (with_reducible refine (Ab.out _).mono ?_); rintro e w3 ⟨rfl, rfl⟩))
              go_ret
              exact ⟨rfl, fin (k1.trans k2)⟩
end Go.Proofs.Ytlahjieodcoecaa
