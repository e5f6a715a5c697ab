/- burinlaw32.GaugeEngines: it answers true, for every case (the walk). -/
import Derived.Test.YtlahjieodcoecaaE
namespace Go.Proofs.Ytlahjieodcoecaa
open Go.RowKit
set_option linter.unusedVariables false

theorem isInf0_any (b : Nat) (hb : b < 18446744073709551616) (w : World) : Calls Try.prog 19 #[.float .f64 b, .int .i64 0] w fun e w' => e = .returned (.bool (pI (b % 9223372036854775808))) ∧ w = w' := by
  unfold pI
  obtain ⟨m, hm⟩ : ∃ m, m = b % 9223372036854775808 := ⟨_, rfl⟩
  have h := abs_any b hb w
  rw [← hm] at h ⊢
  clear hm
  go_enter Try.func19, Try.ntmps19
  go_wp2_with fail
  refine h.mono ?_
  rintro e w' ⟨rfl, rfl⟩
  go_wp2
  go_ret
  exact ⟨rfl, rfl⟩

set_option maxHeartbeats 4000000 in
theorem engines_1 (W : World) (i n b : Int) (s : Bool) (l : List Nat) (i0 : 1 ≤ i) (i1 : i ≤ 4000) (n0 : 0 ≤ n) (n1 : n ≤ 1048576) (hb0 : -9223372036854775808 ≤ b) (hb : b ≤ 9223372036854775807)
    (H1 : ∀ w, Calls Try.prog 15 #[.agg #[.int .i64 i, .int .i64 n, .int .i64 b, .bool s]] w fun e w' => e = .returned (.int .i64 1) ∧ Kp [] w w')
    (H2 : ∀ w, Calls Try.prog 10 #[.agg #[.int .i64 i, .int .i64 n, .int .i64 b, .bool s]] w fun e w' => (∃ x, e = .returned (.slice (some ⟨x, 0, none⟩) 5 5) ∧ w.heap.size ≤ x ∧ (∀ j, j < 5 → w'.cell? ⟨x, 0 + j, none⟩ = some (.float .f64 (l.getD j 0)))) ∧ Kp [] w w')
    (C : Chosen i n b s l 1) :
    Calls Try.prog 6 #[.agg #[.int .i64 i, .int .i64 n, .int .i64 b, .bool s]] W fun e w' => e = .returned (.bool true) ∧ Below W.heap.size W w' := by
  have hm1 : i * (n + 1) ≤ 4000 * 1048577 := Int.mul_le_mul i1 (by omega) (by omega) (by omega)
  have hm0 : 0 ≤ i * (n + 1) := Int.mul_nonneg (by omega) (by omega)
  have hw := C.within
  have hs := C.spans
  have hpos := C.pos
  have hfin := C.fin
  have hywf := C.wf
  rw [show ((1 : Int)).toNat = 1 from rfl] at hpos hfin hywf
  have HN := Lib.hid C.none
  obtain ⟨q, hq⟩ : ∃ q, i * (n + 1) = q := ⟨_, rfl⟩
  rw [hq] at hm0 hm1 hw
  clear C
  
  
  clear hw hs
  
  go_enter Try.func6, Try.ntmps6
  go_wp2_with fail
  obtain ⟨bx, hbx⟩ : ∃ bx, bx = W.heap.size := ⟨_, rfl⟩
  obtain ⟨w0, hw0⟩ : ∃ w0, w0 = W.alloc (.cells #[.int .i64 i, .int .i64 n, .int .i64 b, .bool s] 24) := ⟨_, rfl⟩
  rw [← hw0]
  have k0 : Kp [] W w0 := by rw [hw0]; exact (Kp.refl _ _).alloc _
  have hbb : w0.heap[bx]? = some (.cells #[.int .i64 i, .int .i64 n, .int .i64 b, .bool s] 24 (0, 0)) := by rw [hw0, hbx]; exact heap_alloc_new W _
  rw [← hbx]
  clear hw0 hbx
  refine (works_any _).mono ?_
  rintro e w1 ⟨rfl, k1⟩
  have hbb1 := (k1.block bx (ltB hbb) (by simp)).trans hbb
  have k1' := k0.trans k1
  clear hbb k0 k1
  have d0 := cellB hbb1 0
  have d1 := cellB hbb1 1
  have d2 := cellB hbb1 2
  have d3 := cellB hbb1 3
  simp at d0 d1 d2 d3
  go_wp2_with fail
  refine (H1 _).mono ?_
  rintro e w2 ⟨rfl, k2⟩
  have hbb2 := (k2.block bx (ltB hbb1) (by simp)).trans hbb1
  have k2' := k1'.trans k2
  clear hbb1 k1' k2 d0 d1 d2 d3 H1
  have d0 := cellB hbb2 0
  have d1 := cellB hbb2 1
  have d2 := cellB hbb2 2
  have d3 := cellB hbb2 3
  simp at d0 d1 d2 d3
  go_wp2_with fail
  refine (H2 _).mono ?_
  rintro e w3 ⟨⟨x, rfl, hx, hc⟩, k3⟩
  have hbb3 := (k3.block bx (ltB hbb2) (by simp)).trans hbb2
  have k3' := (k2'.trans k3).below (Nat.le_refl _) (by simp)
  clear hbb2 k2' k3 d0 d1 d2 d3 H2 hx
  have d0 := cellB hbb3 0
  have d1 := cellB hbb3 1
  have d2 := cellB hbb3 2
  have d3 := cellB hbb3 3
  simp at d0 d1 d2 d3
  have HB := Lib.hid k3'
  clear k3' hbb3
  have hy := hc 1 (by omega)
  rw [Nat.zero_add] at hy
  obtain ⟨z, hz⟩ : ∃ z, z = l.getD 1 0 := ⟨_, rfl⟩
  rw [← hz] at hy hpos hfin hywf
  have HC := Lib.hid hc
  have HZ := Lib.hid hz
  clear hc hz
  have H3 := isInf0_any z hywf w3
  rw [hfin] at H3
  clear hfin
  go_wp2_with fail
  go_loop [73] (fun i' => ∃ k : Nat, k ≤ 5 ∧ i' = .int .i64 k) (fun i' => 5 - (intOf i').toNat)
  case atStart => exact ⟨0, by omega, rfl⟩
  case round =>
    obtain ⟨k, hk, rfl⟩ := hrel
    by_cases hk5 : k < 5
    · have hxk := HC.out k hk5
      rw [Nat.zero_add] at hxk
      have hn := HN.out k hk5
      rw [show ((1 : Int)).toNat = 1 from rfl, ← HZ.out] at hn
      obtain ⟨v, hv⟩ : ∃ v, v = l.getD k 0 := ⟨_, rfl⟩
      rw [← hv] at hxk hn
      clear hv
      go_wp2_with fail
      go_round
      case rel => exact ⟨k + 1, by omega, by go_num⟩
      case measure => simp [intOf]; omega
    · obtain rfl : k = 5 := by omega
      go_wp2_with fail
      refine H3.mono ?_
      rintro e w4 ⟨rfl, rfl⟩
      go_wp2_with fail
      go_ret
      exact ⟨rfl, HB.out⟩

set_option maxHeartbeats 4000000 in
theorem engines_2 (W : World) (i n b : Int) (s : Bool) (l : List Nat) (i0 : 1 ≤ i) (i1 : i ≤ 4000) (n0 : 0 ≤ n) (n1 : n ≤ 1048576) (hb0 : -9223372036854775808 ≤ b) (hb : b ≤ 9223372036854775807)
    (H1 : ∀ w, Calls Try.prog 15 #[.agg #[.int .i64 i, .int .i64 n, .int .i64 b, .bool s]] w fun e w' => e = .returned (.int .i64 2) ∧ Kp [] w w')
    (H2 : ∀ w, Calls Try.prog 10 #[.agg #[.int .i64 i, .int .i64 n, .int .i64 b, .bool s]] w fun e w' => (∃ x, e = .returned (.slice (some ⟨x, 0, none⟩) 5 5) ∧ w.heap.size ≤ x ∧ (∀ j, j < 5 → w'.cell? ⟨x, 0 + j, none⟩ = some (.float .f64 (l.getD j 0)))) ∧ Kp [] w w')
    (C : Chosen i n b s l 2) :
    Calls Try.prog 6 #[.agg #[.int .i64 i, .int .i64 n, .int .i64 b, .bool s]] W fun e w' => e = .returned (.bool true) ∧ Below W.heap.size W w' := by
  have hm1 : i * (n + 1) ≤ 4000 * 1048577 := Int.mul_le_mul i1 (by omega) (by omega) (by omega)
  have hm0 : 0 ≤ i * (n + 1) := Int.mul_nonneg (by omega) (by omega)
  have hw := C.within
  have hs := C.spans
  have hpos := C.pos
  have hfin := C.fin
  have hywf := C.wf
  rw [show ((2 : Int)).toNat = 2 from rfl] at hpos hfin hywf
  have HN := Lib.hid C.none
  obtain ⟨q, hq⟩ : ∃ q, i * (n + 1) = q := ⟨_, rfl⟩
  rw [hq] at hm0 hm1 hw
  clear C
  have hw2 : q ≤ b := hw (by omega)
  
  clear hw hs
  
  go_enter Try.func6, Try.ntmps6
  go_wp2_with fail
  obtain ⟨bx, hbx⟩ : ∃ bx, bx = W.heap.size := ⟨_, rfl⟩
  obtain ⟨w0, hw0⟩ : ∃ w0, w0 = W.alloc (.cells #[.int .i64 i, .int .i64 n, .int .i64 b, .bool s] 24) := ⟨_, rfl⟩
  rw [← hw0]
  have k0 : Kp [] W w0 := by rw [hw0]; exact (Kp.refl _ _).alloc _
  have hbb : w0.heap[bx]? = some (.cells #[.int .i64 i, .int .i64 n, .int .i64 b, .bool s] 24 (0, 0)) := by rw [hw0, hbx]; exact heap_alloc_new W _
  rw [← hbx]
  clear hw0 hbx
  refine (works_any _).mono ?_
  rintro e w1 ⟨rfl, k1⟩
  have hbb1 := (k1.block bx (ltB hbb) (by simp)).trans hbb
  have k1' := k0.trans k1
  clear hbb k0 k1
  have d0 := cellB hbb1 0
  have d1 := cellB hbb1 1
  have d2 := cellB hbb1 2
  have d3 := cellB hbb1 3
  simp at d0 d1 d2 d3
  go_wp2_with fail
  refine (H1 _).mono ?_
  rintro e w2 ⟨rfl, k2⟩
  have hbb2 := (k2.block bx (ltB hbb1) (by simp)).trans hbb1
  have k2' := k1'.trans k2
  clear hbb1 k1' k2 d0 d1 d2 d3 H1
  have d0 := cellB hbb2 0
  have d1 := cellB hbb2 1
  have d2 := cellB hbb2 2
  have d3 := cellB hbb2 3
  simp at d0 d1 d2 d3
  go_wp2_with fail
  refine (H2 _).mono ?_
  rintro e w3 ⟨⟨x, rfl, hx, hc⟩, k3⟩
  have hbb3 := (k3.block bx (ltB hbb2) (by simp)).trans hbb2
  have k3' := (k2'.trans k3).below (Nat.le_refl _) (by simp)
  clear hbb2 k2' k3 d0 d1 d2 d3 H2 hx
  have d0 := cellB hbb3 0
  have d1 := cellB hbb3 1
  have d2 := cellB hbb3 2
  have d3 := cellB hbb3 3
  simp at d0 d1 d2 d3
  have HB := Lib.hid k3'
  clear k3' hbb3
  have hy := hc 2 (by omega)
  rw [Nat.zero_add] at hy
  obtain ⟨z, hz⟩ : ∃ z, z = l.getD 2 0 := ⟨_, rfl⟩
  rw [← hz] at hy hpos hfin hywf
  have HC := Lib.hid hc
  have HZ := Lib.hid hz
  clear hc hz
  have H3 := isInf0_any z hywf w3
  rw [hfin] at H3
  clear hfin
  go_wp2_with fail
  go_loop [73] (fun i' => ∃ k : Nat, k ≤ 5 ∧ i' = .int .i64 k) (fun i' => 5 - (intOf i').toNat)
  case atStart => exact ⟨0, by omega, rfl⟩
  case round =>
    obtain ⟨k, hk, rfl⟩ := hrel
    by_cases hk5 : k < 5
    · have hxk := HC.out k hk5
      rw [Nat.zero_add] at hxk
      have hn := HN.out k hk5
      rw [show ((2 : Int)).toNat = 2 from rfl, ← HZ.out] at hn
      obtain ⟨v, hv⟩ : ∃ v, v = l.getD k 0 := ⟨_, rfl⟩
      rw [← hv] at hxk hn
      clear hv
      go_wp2_with fail
      go_round
      case rel => exact ⟨k + 1, by omega, by go_num⟩
      case measure => simp [intOf]; omega
    · obtain rfl : k = 5 := by omega
      go_wp2_with fail
      refine H3.mono ?_
      rintro e w4 ⟨rfl, rfl⟩
      go_wp2_with fail
      go_ret
      exact ⟨rfl, HB.out⟩

set_option maxHeartbeats 4000000 in
theorem engines_3 (W : World) (i n b : Int) (s : Bool) (l : List Nat) (i0 : 1 ≤ i) (i1 : i ≤ 4000) (n0 : 0 ≤ n) (n1 : n ≤ 1048576) (hb0 : -9223372036854775808 ≤ b) (hb : b ≤ 9223372036854775807)
    (H1 : ∀ w, Calls Try.prog 15 #[.agg #[.int .i64 i, .int .i64 n, .int .i64 b, .bool s]] w fun e w' => e = .returned (.int .i64 3) ∧ Kp [] w w')
    (H2 : ∀ w, Calls Try.prog 10 #[.agg #[.int .i64 i, .int .i64 n, .int .i64 b, .bool s]] w fun e w' => (∃ x, e = .returned (.slice (some ⟨x, 0, none⟩) 5 5) ∧ w.heap.size ≤ x ∧ (∀ j, j < 5 → w'.cell? ⟨x, 0 + j, none⟩ = some (.float .f64 (l.getD j 0)))) ∧ Kp [] w w')
    (C : Chosen i n b s l 3) :
    Calls Try.prog 6 #[.agg #[.int .i64 i, .int .i64 n, .int .i64 b, .bool s]] W fun e w' => e = .returned (.bool true) ∧ Below W.heap.size W w' := by
  have hm1 : i * (n + 1) ≤ 4000 * 1048577 := Int.mul_le_mul i1 (by omega) (by omega) (by omega)
  have hm0 : 0 ≤ i * (n + 1) := Int.mul_nonneg (by omega) (by omega)
  have hw := C.within
  have hs := C.spans
  have hpos := C.pos
  have hfin := C.fin
  have hywf := C.wf
  rw [show ((3 : Int)).toNat = 3 from rfl] at hpos hfin hywf
  have HN := Lib.hid C.none
  obtain ⟨q, hq⟩ : ∃ q, i * (n + 1) = q := ⟨_, rfl⟩
  rw [hq] at hm0 hm1 hw
  clear C
  
  have hs2 : s = true := hs (by omega)
  clear hw hs
  subst hs2
  go_enter Try.func6, Try.ntmps6
  go_wp2_with fail
  obtain ⟨bx, hbx⟩ : ∃ bx, bx = W.heap.size := ⟨_, rfl⟩
  obtain ⟨w0, hw0⟩ : ∃ w0, w0 = W.alloc (.cells #[.int .i64 i, .int .i64 n, .int .i64 b, .bool true] 24) := ⟨_, rfl⟩
  rw [← hw0]
  have k0 : Kp [] W w0 := by rw [hw0]; exact (Kp.refl _ _).alloc _
  have hbb : w0.heap[bx]? = some (.cells #[.int .i64 i, .int .i64 n, .int .i64 b, .bool true] 24 (0, 0)) := by rw [hw0, hbx]; exact heap_alloc_new W _
  rw [← hbx]
  clear hw0 hbx
  refine (works_any _).mono ?_
  rintro e w1 ⟨rfl, k1⟩
  have hbb1 := (k1.block bx (ltB hbb) (by simp)).trans hbb
  have k1' := k0.trans k1
  clear hbb k0 k1
  have d0 := cellB hbb1 0
  have d1 := cellB hbb1 1
  have d2 := cellB hbb1 2
  have d3 := cellB hbb1 3
  simp at d0 d1 d2 d3
  go_wp2_with fail
  refine (H1 _).mono ?_
  rintro e w2 ⟨rfl, k2⟩
  have hbb2 := (k2.block bx (ltB hbb1) (by simp)).trans hbb1
  have k2' := k1'.trans k2
  clear hbb1 k1' k2 d0 d1 d2 d3 H1
  have d0 := cellB hbb2 0
  have d1 := cellB hbb2 1
  have d2 := cellB hbb2 2
  have d3 := cellB hbb2 3
  simp at d0 d1 d2 d3
  go_wp2_with fail
  refine (H2 _).mono ?_
  rintro e w3 ⟨⟨x, rfl, hx, hc⟩, k3⟩
  have hbb3 := (k3.block bx (ltB hbb2) (by simp)).trans hbb2
  have k3' := (k2'.trans k3).below (Nat.le_refl _) (by simp)
  clear hbb2 k2' k3 d0 d1 d2 d3 H2 hx
  have d0 := cellB hbb3 0
  have d1 := cellB hbb3 1
  have d2 := cellB hbb3 2
  have d3 := cellB hbb3 3
  simp at d0 d1 d2 d3
  have HB := Lib.hid k3'
  clear k3' hbb3
  have hy := hc 3 (by omega)
  rw [Nat.zero_add] at hy
  obtain ⟨z, hz⟩ : ∃ z, z = l.getD 3 0 := ⟨_, rfl⟩
  rw [← hz] at hy hpos hfin hywf
  have HC := Lib.hid hc
  have HZ := Lib.hid hz
  clear hc hz
  have H3 := isInf0_any z hywf w3
  rw [hfin] at H3
  clear hfin
  go_wp2_with fail
  go_loop [73] (fun i' => ∃ k : Nat, k ≤ 5 ∧ i' = .int .i64 k) (fun i' => 5 - (intOf i').toNat)
  case atStart => exact ⟨0, by omega, rfl⟩
  case round =>
    obtain ⟨k, hk, rfl⟩ := hrel
    by_cases hk5 : k < 5
    · have hxk := HC.out k hk5
      rw [Nat.zero_add] at hxk
      have hn := HN.out k hk5
      rw [show ((3 : Int)).toNat = 3 from rfl, ← HZ.out] at hn
      obtain ⟨v, hv⟩ : ∃ v, v = l.getD k 0 := ⟨_, rfl⟩
      rw [← hv] at hxk hn
      clear hv
      go_wp2_with fail
      go_round
      case rel => exact ⟨k + 1, by omega, by go_num⟩
      case measure => simp [intOf]; omega
    · obtain rfl : k = 5 := by omega
      go_wp2_with fail
      refine H3.mono ?_
      rintro e w4 ⟨rfl, rfl⟩
      go_wp2_with fail
      go_ret
      exact ⟨rfl, HB.out⟩

set_option maxHeartbeats 4000000 in
theorem engines_4 (W : World) (i n b : Int) (s : Bool) (l : List Nat) (i0 : 1 ≤ i) (i1 : i ≤ 4000) (n0 : 0 ≤ n) (n1 : n ≤ 1048576) (hb0 : -9223372036854775808 ≤ b) (hb : b ≤ 9223372036854775807)
    (H1 : ∀ w, Calls Try.prog 15 #[.agg #[.int .i64 i, .int .i64 n, .int .i64 b, .bool s]] w fun e w' => e = .returned (.int .i64 4) ∧ Kp [] w w')
    (H2 : ∀ w, Calls Try.prog 10 #[.agg #[.int .i64 i, .int .i64 n, .int .i64 b, .bool s]] w fun e w' => (∃ x, e = .returned (.slice (some ⟨x, 0, none⟩) 5 5) ∧ w.heap.size ≤ x ∧ (∀ j, j < 5 → w'.cell? ⟨x, 0 + j, none⟩ = some (.float .f64 (l.getD j 0)))) ∧ Kp [] w w')
    (C : Chosen i n b s l 4) :
    Calls Try.prog 6 #[.agg #[.int .i64 i, .int .i64 n, .int .i64 b, .bool s]] W fun e w' => e = .returned (.bool true) ∧ Below W.heap.size W w' := by
  have hm1 : i * (n + 1) ≤ 4000 * 1048577 := Int.mul_le_mul i1 (by omega) (by omega) (by omega)
  have hm0 : 0 ≤ i * (n + 1) := Int.mul_nonneg (by omega) (by omega)
  have hw := C.within
  have hs := C.spans
  have hpos := C.pos
  have hfin := C.fin
  have hywf := C.wf
  rw [show ((4 : Int)).toNat = 4 from rfl] at hpos hfin hywf
  have HN := Lib.hid C.none
  obtain ⟨q, hq⟩ : ∃ q, i * (n + 1) = q := ⟨_, rfl⟩
  rw [hq] at hm0 hm1 hw
  clear C
  have hw2 : q ≤ b := hw (by omega)
  
  clear hw hs
  
  go_enter Try.func6, Try.ntmps6
  go_wp2_with fail
  obtain ⟨bx, hbx⟩ : ∃ bx, bx = W.heap.size := ⟨_, rfl⟩
  obtain ⟨w0, hw0⟩ : ∃ w0, w0 = W.alloc (.cells #[.int .i64 i, .int .i64 n, .int .i64 b, .bool s] 24) := ⟨_, rfl⟩
  rw [← hw0]
  have k0 : Kp [] W w0 := by rw [hw0]; exact (Kp.refl _ _).alloc _
  have hbb : w0.heap[bx]? = some (.cells #[.int .i64 i, .int .i64 n, .int .i64 b, .bool s] 24 (0, 0)) := by rw [hw0, hbx]; exact heap_alloc_new W _
  rw [← hbx]
  clear hw0 hbx
  refine (works_any _).mono ?_
  rintro e w1 ⟨rfl, k1⟩
  have hbb1 := (k1.block bx (ltB hbb) (by simp)).trans hbb
  have k1' := k0.trans k1
  clear hbb k0 k1
  have d0 := cellB hbb1 0
  have d1 := cellB hbb1 1
  have d2 := cellB hbb1 2
  have d3 := cellB hbb1 3
  simp at d0 d1 d2 d3
  go_wp2_with fail
  refine (H1 _).mono ?_
  rintro e w2 ⟨rfl, k2⟩
  have hbb2 := (k2.block bx (ltB hbb1) (by simp)).trans hbb1
  have k2' := k1'.trans k2
  clear hbb1 k1' k2 d0 d1 d2 d3 H1
  have d0 := cellB hbb2 0
  have d1 := cellB hbb2 1
  have d2 := cellB hbb2 2
  have d3 := cellB hbb2 3
  simp at d0 d1 d2 d3
  go_wp2_with fail
  refine (H2 _).mono ?_
  rintro e w3 ⟨⟨x, rfl, hx, hc⟩, k3⟩
  have hbb3 := (k3.block bx (ltB hbb2) (by simp)).trans hbb2
  have k3' := (k2'.trans k3).below (Nat.le_refl _) (by simp)
  clear hbb2 k2' k3 d0 d1 d2 d3 H2 hx
  have d0 := cellB hbb3 0
  have d1 := cellB hbb3 1
  have d2 := cellB hbb3 2
  have d3 := cellB hbb3 3
  simp at d0 d1 d2 d3
  have HB := Lib.hid k3'
  clear k3' hbb3
  have hy := hc 4 (by omega)
  rw [Nat.zero_add] at hy
  obtain ⟨z, hz⟩ : ∃ z, z = l.getD 4 0 := ⟨_, rfl⟩
  rw [← hz] at hy hpos hfin hywf
  have HC := Lib.hid hc
  have HZ := Lib.hid hz
  clear hc hz
  have H3 := isInf0_any z hywf w3
  rw [hfin] at H3
  clear hfin
  go_wp2_with fail
  go_loop [73] (fun i' => ∃ k : Nat, k ≤ 5 ∧ i' = .int .i64 k) (fun i' => 5 - (intOf i').toNat)
  case atStart => exact ⟨0, by omega, rfl⟩
  case round =>
    obtain ⟨k, hk, rfl⟩ := hrel
    by_cases hk5 : k < 5
    · have hxk := HC.out k hk5
      rw [Nat.zero_add] at hxk
      have hn := HN.out k hk5
      rw [show ((4 : Int)).toNat = 4 from rfl, ← HZ.out] at hn
      obtain ⟨v, hv⟩ : ∃ v, v = l.getD k 0 := ⟨_, rfl⟩
      rw [← hv] at hxk hn
      clear hv
      go_wp2_with fail
      go_round
      case rel => exact ⟨k + 1, by omega, by go_num⟩
      case measure => simp [intOf]; omega
    · obtain rfl : k = 5 := by omega
      go_wp2_with fail
      refine H3.mono ?_
      rintro e w4 ⟨rfl, rfl⟩
      go_wp2_with fail
      go_ret
      exact ⟨rfl, HB.out⟩

theorem engines_out (W : World) (i n b : Int) (s : Bool) (hi : -9223372036854775808 ≤ i ∧ i ≤ 9223372036854775807) (hn : -9223372036854775808 ≤ n ∧ n ≤ 9223372036854775807) (h : ¬ (1 ≤ i ∧ i ≤ 4000 ∧ 0 ≤ n ∧ n ≤ 1048576)) :
    Calls Try.prog 6 #[.agg #[.int .i64 i, .int .i64 n, .int .i64 b, .bool s]] W fun e w' => e = .returned (.bool true) ∧ Below W.heap.size W w' := by
  obtain ⟨bx, hbx⟩ : ∃ bx, bx = W.heap.size := ⟨_, rfl⟩
  obtain ⟨w0, hw0⟩ : ∃ w0, w0 = W.alloc (.cells #[.int .i64 i, .int .i64 n, .int .i64 b, .bool s] 24) := ⟨_, rfl⟩
  have k0 : Kp [] W w0 := by rw [hw0]; exact (Kp.refl _ _).alloc _
  have hbb : w0.heap[bx]? = some (.cells #[.int .i64 i, .int .i64 n, .int .i64 b, .bool s] 24 (0, 0)) := by rw [hw0, hbx]; exact heap_alloc_new W _
  have h' : i < 1 ∨ (1 ≤ i ∧ 4000 < i) ∨ (1 ≤ i ∧ i ≤ 4000 ∧ n < 0) ∨ (1 ≤ i ∧ i ≤ 4000 ∧ 0 ≤ n ∧ 1048576 < n) := by omega
  clear h
  have hw0' := Lib.hid hw0
  have hbx' := Lib.hid hbx
  clear hw0 hbx
  rcases h' with h | ⟨h1, h2⟩ | ⟨h1, h2, h3⟩ | ⟨h1, h2, h3, h4⟩
  all_goals go_enter Try.func6, Try.ntmps6
  all_goals go_wp2_with fail
  all_goals rw [← hw0'.out]
  all_goals rw [← hbx'.out]
  all_goals refine (works_any _).mono ?_
  all_goals rintro e w1 ⟨rfl, k1⟩
  all_goals have hbb1 := (k1.block bx (ltB hbb) (by simp)).trans hbb
  all_goals have k1' := (k0.trans k1).below (Nat.le_refl _) (by simp)
  all_goals clear hbb k0 k1
  all_goals have d0 := cellB hbb1 0
  all_goals have d1 := cellB hbb1 1
  all_goals simp at d0 d1
  all_goals go_wp2
  all_goals go_ret
  all_goals exact ⟨rfl, k1'⟩

theorem law_engines (W : World) (i n b : Int) (s : Bool) (hi : (Lit.int .i64 i).wf = true) (hn : (Lit.int .i64 n).wf = true) (hb : (Lit.int .i64 b).wf = true) :
    Calls Try.prog 6 #[.agg #[.int .i64 i, .int .i64 n, .int .i64 b, .bool s]] W fun e w' => e = .returned (.bool true) ∧ Below W.heap.size W w' := by
  have hi' := wf_i64 hi
  have hn' := wf_i64 hn
  have hb' := wf_i64 hb
  by_cases h : 1 ≤ i ∧ i ≤ 4000 ∧ 0 ≤ n ∧ n ≤ 1048576
  · obtain ⟨i0, i1, n0, n1⟩ := h
    have C := chosen i n b s i0 i1 n0 n1 hb'.2
    have H1 := fun w => choose_any i n b s hi hn hb w
    have H2 := fun w => costs_any i n b s hi hn hb w
    generalize lst (costs i n b s) 5 = y at C H1
    generalize costs i n b s = l at C H2
    have c1 := C.lo
    have c2 := C.hi
    have hy : y = 1 ∨ y = 2 ∨ y = 3 ∨ y = 4 := by omega
    rcases hy with rfl | rfl | rfl | rfl
    · exact engines_1 W i n b s l i0 i1 n0 n1 hb'.1 hb'.2 H1 H2 C
    · exact engines_2 W i n b s l i0 i1 n0 n1 hb'.1 hb'.2 H1 H2 C
    · exact engines_3 W i n b s l i0 i1 n0 n1 hb'.1 hb'.2 H1 H2 C
    · exact engines_4 W i n b s l i0 i1 n0 n1 hb'.1 hb'.2 H1 H2 C
  · exact engines_out W i n b s hi' hn' h
end Go.Proofs.Ytlahjieodcoecaa
