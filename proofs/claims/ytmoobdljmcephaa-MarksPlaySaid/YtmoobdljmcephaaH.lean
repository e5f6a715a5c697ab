/- Package marks, the law MarksApart: it returns true, for every two integers and every array of two. -/
import Derived.Test.YtmoobdljmcephaaG
import Derived.Deep.QuietTactic
import Derived.Deep.RegionWith
import Derived.Lib.SmallJoins
import Derived.ProofKit
namespace Go.Proofs.Ytmoobdljmcephaa
open Go.RowKit
set_option linter.unusedVariables false
set_option linter.unusedSimpArgs false

theorem Kp.drewN {S : List Nat} {a w : World} (h : Kp S a w) (n : Nat) : Kp S a (w.drewN n) := ⟨h.os, h.tape, h.output, h.size, h.block⟩

theorem below_fn (n most : Int) (hn : (Lit.int .i64 n).wf = true) (h1 : 1 ≤ most) (h2 : most ≤ 262144) (w : World) : Calls Try.prog 9 #[.int .i64 n, .int .i64 most] w fun e w' => e = .returned (.int .i64 (n % most)) ∧ w = w' := by
  have hb := Int.tmod_lt_of_pos n (show 0 < most by omega)
  have hb2 : -most < n.tmod most := by
    have := Int.tmod_lt_of_pos (-n) (show 0 < most by omega)
    rw [Int.neg_tmod] at this; omega
  have key : ∀ r, 0 ≤ r → r < most → (∃ k, r = n - most * k) → n % most = r := by
    rintro r h0 h1 ⟨k, rfl⟩
    have := Int.emod_eq_of_lt h0 h1
    rw [← this, Int.sub_mul_emod_self_left]
  have ht : n.tmod most = n - most * (n.tdiv most) := by have := Int.mul_tdiv_add_tmod n most; omega
  by_cases h0 : 0 ≤ n
  · have e : n.tmod most = n % most := Int.tmod_eq_emod_of_nonneg h0
    rw [e] at hb hb2
    have h3 : 0 ≤ n % most := Int.emod_nonneg _ (by omega)
    clear e ht key
    go_enter Try.func9, Try.ntmps9
    go_wp2
    go_ret
    exact ⟨rfl, rfl⟩
  · by_cases h3 : n.tmod most < 0
    · have hk := Lib.hid (key (n.tmod most + most) (by omega) (by omega) ⟨n.tdiv most - 1, by rw [Int.mul_sub]; omega⟩)
      clear ht key
      go_enter Try.func9, Try.ntmps9
      go_wp2
      go_ret
      exact ⟨by rw [hk.out]; rfl, rfl⟩
    · have hk := Lib.hid (key (n.tmod most) (by omega) (by omega) ⟨n.tdiv most, ht⟩)
      clear ht key
      go_enter Try.func9, Try.ntmps9
      go_wp2
      go_ret
      exact ⟨by rw [hk.out]; rfl, rfl⟩

theorem pair_inj {C r c r' c' : Nat} (hc : c < C) (hc' : c' < C) (h : r * C + c = r' * C + c') : r = r' ∧ c = c' := by
  have h1 : (r * C + c) / C = r := by rw [Nat.mul_comm, Nat.mul_add_div (by omega), Nat.div_eq_of_lt hc]; omega
  have h2 : (r' * C + c') / C = r' := by rw [Nat.mul_comm, Nat.mul_add_div (by omega), Nat.div_eq_of_lt hc']; omega
  have e : r = r' := by rw [← h1, ← h2, h]
  subst e
  exact ⟨rfl, by omega⟩

set_option maxRecDepth 100000 in
set_option maxHeartbeats 1600000 in
theorem apart_main (W : World) (R C : Nat) (a b : Int) (wa : (Lit.int .i64 a).wf = true) (wb : (Lit.int .i64 b).wf = true) (hR : 1 ≤ R) (hC : 1 ≤ C) (hRC : R * C ≤ 2000) :
    Calls Try.prog 3 #[.int .i64 R, .int .i64 C, .agg #[.int .i64 a, .int .i64 b]] W fun e w' => e = .returned (.bool true) ∧ Kp [] W w' := by
  have hq : ¬ 2000 / (C : Int) < R := by
    rw [over2000 _ _ (by omega)]
    have e : (R : Int) * C = ((R * C : Nat) : Int) := by simp
    omega
  obtain ⟨q, hqq⟩ : ∃ q, q = 2000 / (C : Int) := ⟨_, rfl⟩
  have hq' : 2000 / (C : Int) = q := hqq.symm
  rw [← hqq] at hq
  clear hqq
  have hC2 : C ≤ 2000 := by have := Nat.mul_le_mul_right C hR; omega
  have hR2 : R ≤ 2000 := by have := Nat.mul_le_mul_left R hC; omega
  have HN := Lib.hid (fun w => new_yes w R C hR hC (by omega))
  obtain ⟨r, hr⟩ : ∃ r : Nat, a % (R : Int) = r := ⟨(a % (R : Int)).toNat, by have := Int.emod_nonneg a (show (R : Int) ≠ 0 by omega); omega⟩
  obtain ⟨c, hc⟩ : ∃ r : Nat, b % (C : Int) = r := ⟨(b % (C : Int)).toNat, by have := Int.emod_nonneg b (show (C : Int) ≠ 0 by omega); omega⟩
  have hrR : r < R := by have := Int.emod_lt_of_pos a (show (0 : Int) < R by omega); omega
  have hcC : c < C := by have := Int.emod_lt_of_pos b (show (0 : Int) < C by omega); omega
  have HA : Hid (∀ w, Calls Try.prog 9 #[.int .i64 a, .int .i64 R] w fun e w' => e = .returned (.int .i64 (r : Nat)) ∧ w' = w) := fun w => by have := below_fn a R wa (by omega) (by omega) w; rw [hr] at this; exact this.mono fun _ _ ⟨h1, h2⟩ => ⟨h1, h2.symm⟩
  have HB : Hid (∀ w, Calls Try.prog 9 #[.int .i64 b, .int .i64 C] w fun e w' => e = .returned (.int .i64 (c : Nat)) ∧ w' = w) := fun w => by have := below_fn b C wb (by omega) (by omega) w; rw [hc] at this; exact this.mono fun _ _ ⟨h1, h2⟩ => ⟨h1, h2.symm⟩
  clear hr hc
  go_enter Try.func3, Try.ntmps3
  go_wp2_with fail
  refine (works_any _).mono ?_
  rintro e w1 ⟨rfl, k1⟩
  have K1 : Kp [] W w1 := ((Kp.refl _ W).alloc _).trans k1
  have hbk : w1.heap[W.heap.size]? = some (.cells #[.int .i64 a, .int .i64 b] 22 (0, 0)) := (k1.block _ (by simp) (by simp)).trans (heap_alloc_new W _)
  have ks := K1.size
  go_wp2_with fail
  refine (HN.out w1).mono ?_
  rintro e w2 ⟨m, wb, rfl, h2, hm, hwb, k2⟩
  have K2 := K1.trans k2
  have hb2 := (k2.block _ (ltB hbk) (by simp)).trans hbk
  have c0 := cellB hb2 0
  have c1 := cellB hb2 1
  simp at c0 c1
  have HT : Hid (∀ x ∈ [wb], W.heap.size ≤ x ∨ x ∈ ([] : List Nat)) := by intro x hx; simp at hx; subst hx; left; omega
  clear k1 k2 HN ks K1 hbk hb2
  go_wp2_with fail
  go_quiet ((first | (go_at_call_of 9 a; exact Calls.quiet_of_same (HA.out _)) | (go_at_call_of 9 b; exact Calls.quiet_of_same (HB.out _))))
  have K3 : Kp [] W (w2.drewN nq) := K2.drewN _
  have h3 : IsM (w2.drewN nq) m wb R C [] := h2.kept ((Kp.refl [] w2).drewN _) (by simp) (by simp)
  obtain ⟨w3, hw3⟩ : ∃ w3, w3 = w2.drewN nq := ⟨_, rfl⟩
  rw [← hw3] at K3 h3 ⊢
  clear hw3 h2 K2 c0 c1
  go_wp2_with fail
  refine (mark_yes w3 m wb R C [] h3 r c hrR hcC (by simp)).mono ?_
  rintro e w4 ⟨rfl, h4, k4⟩
  have K4 := K3.into k4 HT.out
  rw [List.nil_append] at h4
  clear k4 K3 h3
  go_wp2_with fail
  go_loop [51] (fun i => ∃ row : Nat, row ≤ R ∧ i = .int .i64 row) (fun i => R - (intOf i).toNat)
  case atStart => exact ⟨0, by omega, rfl⟩
  case round =>
    obtain ⟨row, hrow, rfl⟩ := hrel
    by_cases hlt : row < R
    · have hd1 : decide ((row : Int) < (R : Int)) = true := by simp; omega
      go_wp2_with fail
      go_loop [55] (fun i => ∃ col : Nat, col ≤ C ∧ i = .int .i64 col) (fun i => C - (intOf i).toNat)
      case atStart => exact ⟨0, by omega, rfl⟩
      case round =>
        obtain ⟨col, hcol, rfl⟩ := hrel
        by_cases hlt2 : col < C
        · have H1 := has_in w4 m wb R C _ h4 row col hlt hlt2
          by_cases e1 : row = r
          · subst e1
            by_cases e2 : col = c
            · subst e2
              rw [show decide (row * C + col ∈ [row * C + col]) = true from by simp] at H1
              go_wp2_with fail
              refine H1.mono ?_
              rintro e w5 ⟨rfl, rfl⟩
              go_wp2_with fail
              go_round
              case rel => exact ⟨col + 1, by omega, by go_num⟩
              case measure => simp [intOf]; omega
            · rw [show decide (row * C + col ∈ [row * C + c]) = false from by simp; omega] at H1
              have hb : (((col : Nat) : Int) == (c : Int)) = false := by rw [beq_eq_false_iff_ne]; omega
              go_wp2_with fail
              refine H1.mono ?_
              rintro e w5 ⟨rfl, rfl⟩
              go_wp2_with fail
              go_round
              case rel => exact ⟨col + 1, by omega, by go_num⟩
              case measure => simp [intOf]; omega
          · rw [show decide (row * C + col ∈ [r * C + c]) = false from by simp; intro h; exact e1 (pair_inj hlt2 hcC h).1] at H1
            have hb : (((row : Nat) : Int) == (r : Int)) = false := by rw [beq_eq_false_iff_ne]; omega
            go_wp2_with fail
            refine H1.mono ?_
            rintro e w5 ⟨rfl, rfl⟩
            go_wp2_with fail
            go_round
            case rel => exact ⟨col + 1, by omega, by go_num⟩
            case measure => simp [intOf]; omega
        · go_wp2_with fail
          go_round
          case rel => exact ⟨row + 1, by omega, by go_num⟩
          case measure => simp [intOf]; omega
    · go_wp2_with fail
      refine (count_any w4 m wb R C _ h4).mono ?_
      rintro e w5 ⟨rfl, rfl⟩
      go_wp2_with fail
      go_ret
      exact ⟨rfl, K4⟩

theorem apart_any (W : World) (r c a b : Int) (wr : (Lit.int .i64 r).wf = true) (wc : (Lit.int .i64 c).wf = true) (wab : (Lit.int .i64 a).wf = true ∧ (Lit.int .i64 b).wf = true) :
    Calls Try.prog 3 #[.int .i64 r, .int .i64 c, .agg #[.int .i64 a, .int .i64 b]] W fun e w' => e = .returned (.bool true) ∧ Below W.heap.size W w' := by
  by_cases h : 1 ≤ r ∧ 1 ≤ c ∧ r * c ≤ 2000
  · obtain ⟨x, rfl⟩ : ∃ a : Nat, r = a := ⟨r.toNat, by omega⟩
    obtain ⟨y, rfl⟩ : ∃ b : Nat, c = b := ⟨c.toNat, by omega⟩
    have e : (x : Int) * y = ((x * y : Nat) : Int) := by simp
    exact (apart_main W x y a b wab.1 wab.2 (by omega) (by omega) (by omega)).mono fun e w' ⟨h1, h2⟩ => ⟨h1, h2.below (Nat.le_refl _) (by simp)⟩
  · have hc : r < 1 ∨ (1 ≤ r ∧ c < 1) ∨ (1 ≤ r ∧ 1 ≤ c ∧ 2000 / c < r) := by
      by_cases h1 : r < 1
      · exact .inl h1
      · by_cases h2 : c < 1
        · exact .inr (.inl ⟨by omega, h2⟩)
        · refine .inr (.inr ⟨by omega, by omega, (over2000 r c (by omega)).2 ?_⟩)
          have := fun h3 => h ⟨by omega, by omega, h3⟩
          omega
    clear h
    rcases hc with h | ⟨h, h'⟩ | ⟨h, h', h2⟩
    · go_enter Try.func3, Try.ntmps3
      go_wp2_with fail
      refine (works_any _).mono ?_
      rintro e w1 ⟨rfl, k1⟩
      go_wp2_with fail
      go_ret
      exact ⟨rfl, (((Kp.refl _ W).alloc _).trans k1).below (Nat.le_refl _) (by simp)⟩
    · go_enter Try.func3, Try.ntmps3
      go_wp2_with fail
      refine (works_any _).mono ?_
      rintro e w1 ⟨rfl, k1⟩
      go_wp2_with fail
      go_ret
      exact ⟨rfl, (((Kp.refl _ W).alloc _).trans k1).below (Nat.le_refl _) (by simp)⟩
    · obtain ⟨q, hqq⟩ : ∃ q, q = 2000 / c := ⟨_, rfl⟩
      have hq' : 2000 / c = q := hqq.symm
      rw [← hqq] at h2
      clear hqq
      go_enter Try.func3, Try.ntmps3
      go_wp2_with fail
      refine (works_any _).mono ?_
      rintro e w1 ⟨rfl, k1⟩
      go_wp2_with fail
      go_ret
      exact ⟨rfl, (((Kp.refl _ W).alloc _).trans k1).below (Nat.le_refl _) (by simp)⟩

/-- An array of two integers that came in. -/
theorem openAt {H : Type} {enc : TypeId × Value → H} {w : World} {r : Reach} {b0 base : Nat} {spare : Nat → Bool} {held : Bool} {v : Value} {d : DataW H} {p : List MemPlace}
    (hv : Value.okWide Try.prog w r b0 22 v) (h : DataW.Trod enc Try.prog w base spare held 22 v d p) :
    ∃ a b : Int, v = .agg #[.int .i64 a, .int .i64 b] ∧ ((Lit.int .i64 a).wf = true ∧ (Lit.int .i64 b).wf = true) := by
  have hC : Try.prog.cellsOf 22 = 2 := by kernel_rfl
  have hc : Try.prog.cellsOf 3 = 1 := by kernel_rfl
  simp only [Value.okWide, Try.underlying22] at hv
  obtain ⟨cs, rfl, hsz, _⟩ := hv
  obtain ⟨c0, c1, rfl⟩ := Joins.array2 (hsz.trans hC)
  obtain ⟨fuel, hf⟩ := h
  obtain ⟨xs, m, _, _, _, hl, hx⟩ := DataW.trod_array Try.underlying22 hf
  have h0 := hx 0 (by omega)
  have h1 := hx 1 (by omega)
  rw [hc] at h0 h1
  simp [Value.cells] at h0 h1
  obtain ⟨x0, e0⟩ : ∃ x0, xs[0]? = some x0 := ⟨xs[0], by simp⟩
  obtain ⟨x1, e1⟩ : ∃ x1, xs[1]? = some x1 := ⟨xs[1], by simp⟩
  rw [e0] at h0
  rw [e1] at h1
  obtain ⟨a, q0, _, wa⟩ := DataW.trod_int Try.underlying3 h0
  obtain ⟨b, q1, _, wb⟩ := DataW.trod_int Try.underlying3 h1
  simp at q0 q1
  exact ⟨a, b, by rw [q0, q1], wa, wb⟩
end Go.Proofs.Ytmoobdljmcephaa
