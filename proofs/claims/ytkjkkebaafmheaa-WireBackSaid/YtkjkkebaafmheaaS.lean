/- Package wire: the walks of the laws. -/
import Derived.Test.YtkjkkebaafmheaaR
import Derived.Test.YtkjkkebaafmheaaO
import Derived.Test.YtkjkkebaafmheaaL
namespace Go.Proofs.Ytkjkkebaafmheaa
open Go.RowKit PWireCodes Go.Proofs.YtkjkkebaafmheaaW.PrintWords Go.Proofs.YtkjkkebaafmheaaW.PrintLast Go.Proofs.YtkjkkebaafmheaaW.PrintMore
open Go.Shelf
set_option linter.unusedVariables false
set_option linter.unusedSimpArgs false
theorem below_calls (n m : Int) (h1 : 1 ≤ m) (hn : -9223372036854775808 ≤ n ∧ n < 9223372036854775808) (hm : m < 1000000000) (w : World) : Calls Try.prog 14 #[.int .i64 n, .int .i64 m] w fun e w' => (∃ i : Int, 0 ≤ i ∧ i < m ∧ e = .returned (.int .i64 i)) ∧ w = w' := by
  have d1 : decide (m < 1) = false := decide_eq_false (by omega)
  have hz : (m == 0) = false := by rw [beq_eq_false_iff_ne]; omega
  have hz' : ¬ m = 0 := by omega
  have hr1 := Int.tmod_lt_of_pos n (show 0 < m by omega)
  have hr2 : -m < n.tmod m := by
    rcases Int.le_total 0 n with g | g
    · have := Int.tmod_nonneg m g; omega
    · have := Int.tmod_lt_of_pos (-n) (show 0 < m by omega); rw [Int.neg_tmod] at this; omega
  obtain ⟨r, hr⟩ : ∃ r, n.tmod m = r := ⟨_, rfl⟩
  rw [hr] at hr1 hr2
  by_cases q : r < 0
  · have dq := decide_eq_true q
    go_enter Try.func14, Try.ntmps14
    go_wp2
    go_ret
    exact ⟨⟨r + m, by omega, by omega, rfl⟩, rfl⟩
  · have dq := decide_eq_false q
    go_enter Try.func14, Try.ntmps14
    go_wp2
    go_ret
    exact ⟨⟨r, by omega, by omega, rfl⟩, rfl⟩
set_option maxRecDepth 100000 in
set_option maxHeartbeats 4000000 in
theorem short_walk (W : World) (A : Option Addr) (cap : Nat) (l : List S40) (s q : Int) (h : IsInsts W A cap l) :
    Calls Try.prog 5 #[.agg #[.slice A l.length cap, .int .i64 s, .int .i64 q]] W fun e w' => e = .returned (.bool true) ∧ Below W.heap.size W w' := by
  have kk := (Kp.refl [] W).alloc (.cells #[.slice A l.length cap, .int .i64 s, .int .i64 q] 24)
  have hb := heap_alloc_new W (.cells #[.slice A l.length cap, .int .i64 s, .int .i64 q] 24)
  have CW := Lib.hid works_calls
  have CE := Lib.hid (fun W2 hC => encode_calls A cap l s q W2 hC h.2.1)
  obtain ⟨hC, hcap, hmax⟩ := h
  have fin : ∀ {w'}, Kp [] W w' → Below W.heap.size W w' := fun k => k.below (Nat.le_refl _) (by simp)
  by_cases h5 : 5000 < l.length
  · have d5 : decide ((5000 : Int) < (l.length : Int)) = true := decide_eq_true (by omega)
    go_enter Try.func5, Try.ntmps5
    go_wp2_with (go_at_call 7; refine (CW.out _).mono ?_; rintro e w1 ⟨rfl, k1⟩; replace kk := kk.trans k1; replace hb := kblk k1 hb; have p0 := cellB hb 0; simp at p0)
    go_ret
    exact ⟨rfl, fin kk⟩
  · have d5 : decide ((5000 : Int) < (l.length : Int)) = false := decide_eq_false (by omega)
    rcases check_or l s q with hc | hc
    · obtain ⟨-, n2, n3, -, n5, -, -⟩ := check_zero hc
      obtain ⟨s0, rfl⟩ := Int.eq_ofNat_of_zero_le n3
      obtain ⟨q0, rfl⟩ := Int.eq_ofNat_of_zero_le n5
      obtain ⟨m1, m2⟩ := short_len l s0 q0 hc
      rw [encS, if_pos hc] at CE
      have hsz : (⟨(writtenL l s0 q0).toArray⟩ : ByteArray).size = (writtenL l s0 q0).length := by simp [ByteArray.size]
      have e1 : decide (((writtenL l s0 q0).length : Int) ≤ 10 * (l.length : Int) + 10) = true := decide_eq_true (by omega)
      have e2 : decide ((l.length : Int) + 6 < ((writtenL l s0 q0).length : Int)) = true := decide_eq_true (by omega)
      replace hc := Lib.hid hc
      go_enter Try.func5, Try.ntmps5
      go_wp2_with (first | (go_at_call 7; refine (CW.out _).mono ?_; rintro e w1 ⟨rfl, k1⟩; replace kk := kk.trans k1; replace hb := kblk k1 hb; have p0 := cellB hb 0; have p1 := cellB hb 1; have p2 := cellB hb 2; simp at p0 p1 p2) | (go_at_call 8; refine (CE.out _ (Kd.C_below hC (kk.below (Nat.le_refl _) (by simp)))).mono ?_; rintro e w2 ⟨rfl, k2⟩; replace kk := kk.trans k2; replace hb := kblk k2 hb; clear p0 p1 p2; have p0 := cellB hb 0; simp at p0))
      go_ret
      exact ⟨rfl, fin kk⟩
    · rw [encS, if_neg (by rw [hc]; decide), hc] at CE
      replace hc := Lib.hid hc
      go_enter Try.func5, Try.ntmps5
      go_wp2_with (first | (go_at_call 7; refine (CW.out _).mono ?_; rintro e w1 ⟨rfl, k1⟩; replace kk := kk.trans k1; replace hb := kblk k1 hb; have p0 := cellB hb 0; have p1 := cellB hb 1; have p2 := cellB hb 2; simp at p0 p1 p2) | (go_at_call 8; refine (CE.out _ (Kd.C_below hC (kk.below (Nat.le_refl _) (by simp)))).mono ?_; rintro e w2 ⟨rfl, k2⟩; replace kk := kk.trans k2; replace hb := kblk k2 hb; clear p0 p1 p2; have p0 := cellB hb 0; simp at p0))
      go_ret
      exact ⟨rfl, fin kk⟩
end Go.Proofs.Ytkjkkebaafmheaa
