/- The document's Least and Costs: what they compute (the walks). -/
import Derived.Test.YtlahjieodcoecaaRO
import Derived.Test.YtlahjieodcoecaaLL
import Derived.Deep.QuietTactic
import Derived.Deep.RegionWith
namespace Go.Proofs.Ytlahjieodcoecaa
open Go.RowKit
set_option linter.unusedVariables false
attribute [local go_sem] run_store_float

theorem Kp.drewN {S : List Nat} {a w : World} (h : Kp S a w) (n : Nat) : Kp S a (w.drewN n) := ⟨h.os, h.tape, h.output, h.size, h.block⟩

set_option maxHeartbeats 8000000 in
theorem refLeast_any (w : World) (a : Option Addr) (len cap : Nat) (l : List Nat) (h : FRow w a len l) :
    Calls Try.prog 14 #[.slice a len cap] w fun e w' => e = .returned (.int .i64 (lst l len)) ∧ Kp [] w w' := by
  have ht := h.top
  have HF := Lib.hid h
  clear h
  go_enter Try.func14, Try.ntmps14
  go_wp2_with fail
  go_loopw [3, 4] (fun s i wr => ∃ k : Nat, k ≤ len ∧ i = .int .i64 k ∧ s = .int .i64 (lst l k) ∧ Kp [] w wr) (fun _ i _ => len - (intOf i).toNat)
  case atStart => exact ⟨0, by omega, rfl, rfl, Kp.refl _ _⟩
  case round =>
    obtain ⟨k, hk, rfl, rfl, hK⟩ := hrel
    have HFr := frow_below HF.out hK
    have HK := Lib.hid hK
    clear hK
    by_cases hkl : k < len
    · obtain ⟨b, off, rfl, hc⟩ := HFr.at' (by omega)
      have hwf := HFr.wf
      have hx := hc k hkl
      clear HF
      have hxw := hwf k hkl
      have hS : lst l (k + 1) = if fN (l.getD k 0) || pI (l.getD k 0) then lst l k else if lst l k < 0 then k else if ord (l.getD k 0) (l.getD (lst l k).toNat 0) < 0 then k else lst l k := rfl
      have hl := lst_lt l k
      have hg := lst_ge l k
      obtain ⟨y, hy⟩ : ∃ y, y = lst l k := ⟨_, rfl⟩
      rw [← hy] at hl hg hS ⊢
      obtain ⟨x, hxe⟩ : ∃ x, x = l.getD k 0 := ⟨_, rfl⟩
      rw [← hxe] at hx hxw hS
      have H1 := refNan_any x wr
      obtain ⟨n1, hn1⟩ : ∃ n, n = fN x := ⟨_, rfl⟩
      obtain ⟨n2, hn2⟩ : ∃ n, pI x = n := ⟨_, rfl⟩
      rw [← hn1] at H1 hS
      rw [hn2] at hS
      unfold pI at hn2
      clear hn1
      by_cases hskip : n1 = true ∨ n2 = true
      · have hS' : lst l (k + 1) = y := by rw [hS, if_pos (by simpa using hskip)]
        have HS := Lib.hid hS'
        clear hS hS' hc hwf hy hxe HFr
        cases n1
        · simp at hskip
          subst hskip
          go_wp2_with fail
          refine H1.mono ?_
          rintro e w1 ⟨rfl, rfl⟩
          go_wp2_with fail
          go_round
          case rel => exact ⟨k + 1, by omega, by go_num, by rw [HS.out], HK.out⟩
          case measure => simp [intOf]; omega
        · clear hskip
          go_wp2_with fail
          refine H1.mono ?_
          rintro e w1 ⟨rfl, rfl⟩
          go_wp2_with fail
          go_round
          case rel => exact ⟨k + 1, by omega, by go_num, by rw [HS.out], HK.out⟩
          case measure => simp [intOf]; omega
      · obtain ⟨rfl, rfl⟩ : n1 = false ∧ n2 = false := by simpa using hskip
        clear hskip
        simp only [Bool.or_false, Bool.false_eq_true, if_false] at hS
        by_cases hy0 : y < 0
        · rw [if_pos hy0] at hS
          have HS := Lib.hid hS
          clear hS hc hwf hy hxe HFr
          go_wp2_with fail
          refine H1.mono ?_
          rintro e w1 ⟨rfl, rfl⟩
          go_wp2_with fail
          go_quiet (fail)
          go_wp2_with fail
          go_round
          case rel => exact ⟨k + 1, by omega, by go_num, by rw [HS.out], HK.out.drewN _⟩
          case measure => simp [intOf]; omega
        · rw [if_neg hy0] at hS
          have hy1 : 0 ≤ y := by omega
          have hy2 : y < (len : Int) := by omega
          have hk1 : (k : Int) < (len : Int) := by omega
          have hz := hc y.toNat (by omega)
          have hzw := hwf y.toNat (by omega)
          have H3 := fun w' => refOrder_any x (l.getD y.toNat 0) hxw hzw w'
          obtain ⟨z, hze⟩ : ∃ z, z = l.getD y.toNat 0 := ⟨_, rfl⟩
          rw [← hze] at hz hzw hS H3
          obtain ⟨o, ho⟩ : ∃ o, o = ord x z := ⟨_, rfl⟩
          rw [← ho] at hS H3
          have H4 : Hid (∀ w', Calls Try.prog 20 #[.float .f64 x, .float .f64 z] w' fun e w'' => e = .returned (.int .i64 o) ∧ w'' = w') := fun w' => (H3 w').mono fun e w'' ⟨h1, h2⟩ => ⟨h1, h2.symm⟩
          clear ho hze H3
          by_cases ho : o < 0
          · rw [if_pos ho] at hS
            have HS := Lib.hid hS
            clear hS hc hwf hy hxe HFr
            go_wp2_with fail
            refine H1.mono ?_
            rintro e w1 ⟨rfl, rfl⟩
            go_wp2_with fail
            go_quiet ((go_at_call 20; exact Calls.quiet_of_same (H4.out _)))
            go_wp2_with fail
            go_round
            case rel => exact ⟨k + 1, by omega, by go_num, by rw [HS.out], HK.out.drewN _⟩
            case measure => simp [intOf]; omega
          · rw [if_neg ho] at hS
            have HS := Lib.hid hS
            clear hS hc hwf hy hxe HFr
            go_wp2_with fail
            refine H1.mono ?_
            rintro e w1 ⟨rfl, rfl⟩
            go_wp2_with fail
            go_quiet ((go_at_call 20; exact Calls.quiet_of_same (H4.out _)))
            go_wp2_with fail
            go_round
            case rel => exact ⟨k + 1, by omega, by go_num, by rw [HS.out], HK.out.drewN _⟩
            case measure => simp [intOf]; omega
    · obtain rfl : k = len := by omega
      go_wp2_with fail
      go_ret
      exact ⟨rfl, HK.out⟩
end Go.Proofs.Ytlahjieodcoecaa
