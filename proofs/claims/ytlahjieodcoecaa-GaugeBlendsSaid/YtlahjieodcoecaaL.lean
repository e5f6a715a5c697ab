/- gauge.Least: what it computes, for every list of floats (the walk). -/
import Derived.Test.YtlahjieodcoecaaG
namespace Go.Proofs.Ytlahjieodcoecaa
open Go.RowKit
set_option linter.unusedVariables false

/-- A row of floats, as the walk reads it. -/
structure FRow (w : World) (a : Option Addr) (len : Nat) (l : List Nat) : Prop where
  n : l.length = len
  wf : ∀ j, j < len → l.getD j 0 < 18446744073709551616
  at' : 0 < len → ∃ b off, a = some ⟨b, off, none⟩ ∧ ∀ j, j < len → w.cell? ⟨b, off + j, none⟩ = some (.float .f64 (l.getD j 0))
  top : len ≤ 9223372036854775807

/-- The place of the first of the least, of the first n. -/
def lst (l : List Nat) : Nat → Int
  | 0 => -1
  | n + 1 => if fN (l.getD n 0) || pI (l.getD n 0) then lst l n else if lst l n < 0 then n else if ord (l.getD n 0) (l.getD (lst l n).toNat 0) < 0 then n else lst l n

theorem lst_lt (l : List Nat) : ∀ n, lst l n < n := by
  intro n
  induction n with
  | zero => simp [lst]
  | succ n ih =>
    unfold lst
    split
    · omega
    · split
      · omega
      · split <;> omega
theorem lst_ge (l : List Nat) : ∀ n, -1 ≤ lst l n := by
  intro n
  induction n with
  | zero => simp [lst]
  | succ n ih =>
    unfold lst
    split
    · omega
    · split
      · omega
      · split <;> omega

theorem least_any (w : World) (a : Option Addr) (len cap : Nat) (l : List Nat) (h : FRow w a len l) :
    Calls Try.prog 13 #[.slice a len cap] w fun e w' => e = .returned (.int .i64 (lst l len)) ∧ w = w' := by
  have ht := h.top
  have HF := Lib.hid h
  clear h
  go_enter Try.func13, Try.ntmps13
  go_wp2_with fail
  go_loop [3, 8] (fun s i => ∃ k : Nat, k ≤ len ∧ i = .int .i64 k ∧ s = .int .i64 (lst l k)) (fun _ i => len - (intOf i).toNat)
  case atStart => exact ⟨0, by omega, rfl, rfl⟩
  case round =>
    obtain ⟨k, hk, rfl, rfl⟩ := hrel
    by_cases hkl : k < len
    · obtain ⟨b, off, rfl, hc⟩ := HF.out.at' (by omega)
      have hwf := HF.out.wf
      have hx := hc k hkl
      have hxw := hwf k hkl
      have hS : lst l (k + 1) = if fN (l.getD k 0) || pI (l.getD k 0) then lst l k else if lst l k < 0 then k else if ord (l.getD k 0) (l.getD (lst l k).toNat 0) < 0 then k else lst l k := rfl
      have hl := lst_lt l k
      have hg := lst_ge l k
      obtain ⟨y, hy⟩ : ∃ y, y = lst l k := ⟨_, rfl⟩
      rw [← hy] at hl hg hS ⊢
      obtain ⟨x, hxe⟩ : ∃ x, x = l.getD k 0 := ⟨_, rfl⟩
      rw [← hxe] at hx hxw hS
      have H1 := isNaN_any x w
      have H2 := isInf_any x w
      obtain ⟨n1, hn1⟩ : ∃ n, n = fN x := ⟨_, rfl⟩
      obtain ⟨n2, hn2⟩ : ∃ n, n = pI x := ⟨_, rfl⟩
      rw [← hn1] at H1 hS
      rw [← hn2] at H2 hS
      clear hn1 hn2
      by_cases hskip : n1 = true ∨ n2 = true
      · have hS' : lst l (k + 1) = y := by rw [hS, if_pos (by simpa using hskip)]
        have HS := Lib.hid hS'
        clear hS hS' hc hwf hy hxe
        cases n1
        · simp at hskip
          subst hskip
          go_wp2_with fail
          refine H1.mono ?_
          rintro e w1 ⟨rfl, rfl⟩
          go_wp2_with fail
          refine H2.mono ?_
          rintro e w1 ⟨rfl, rfl⟩
          go_wp2_with fail
          go_round
          case rel => exact ⟨k + 1, by omega, by go_num, by rw [HS.out]⟩
          case measure => simp [intOf]; omega
        · clear hskip
          go_wp2_with fail
          refine H1.mono ?_
          rintro e w1 ⟨rfl, rfl⟩
          go_wp2_with fail
          go_round
          case rel => exact ⟨k + 1, by omega, by go_num, by rw [HS.out]⟩
          case measure => simp [intOf]; omega
      · obtain ⟨rfl, rfl⟩ : n1 = false ∧ n2 = false := by simpa using hskip
        clear hskip
        simp only [Bool.or_false, Bool.false_eq_true, if_false] at hS
        by_cases hy0 : y < 0
        · rw [if_pos hy0] at hS
          have HS := Lib.hid hS
          clear hS hc hwf hy hxe
          go_wp2_with fail
          refine H1.mono ?_
          rintro e w1 ⟨rfl, rfl⟩
          go_wp2_with fail
          refine H2.mono ?_
          rintro e w1 ⟨rfl, rfl⟩
          go_wp2_with fail
          go_round
          case rel => exact ⟨k + 1, by omega, by go_num, by rw [HS.out]⟩
          case measure => simp [intOf]; omega
        · rw [if_neg hy0] at hS
          obtain ⟨t, rfl⟩ : ∃ t : Nat, y = t := ⟨y.toNat, by omega⟩
          have hz := hc t (by omega)
          have hzw := hwf t (by omega)
          rw [show ((t : Int)).toNat = t from rfl] at hS
          have H3 := order_any x (l.getD t 0) hxw hzw w
          obtain ⟨z, hze⟩ : ∃ z, z = l.getD t 0 := ⟨_, rfl⟩
          rw [← hze] at hz hzw hS H3
          obtain ⟨o, ho⟩ : ∃ o, o = ord x z := ⟨_, rfl⟩
          rw [← ho] at hS H3
          clear ho hze
          by_cases ho : o < 0
          · rw [if_pos ho] at hS
            have HS := Lib.hid hS
            clear hS hc hwf hy hxe
            go_wp2_with fail
            refine H1.mono ?_
            rintro e w1 ⟨rfl, rfl⟩
            go_wp2_with fail
            refine H2.mono ?_
            rintro e w1 ⟨rfl, rfl⟩
            go_wp2_with fail
            refine H3.mono ?_
            rintro e w1 ⟨rfl, rfl⟩
            go_wp2_with fail
            go_round
            case rel => exact ⟨k + 1, by omega, by go_num, by rw [HS.out]⟩
            case measure => simp [intOf]; omega
          · rw [if_neg ho] at hS
            have HS := Lib.hid hS
            clear hS hc hwf hy hxe
            go_wp2_with fail
            refine H1.mono ?_
            rintro e w1 ⟨rfl, rfl⟩
            go_wp2_with fail
            refine H2.mono ?_
            rintro e w1 ⟨rfl, rfl⟩
            go_wp2_with fail
            refine H3.mono ?_
            rintro e w1 ⟨rfl, rfl⟩
            go_wp2_with fail
            go_round
            case rel => exact ⟨k + 1, by omega, by go_num, by rw [HS.out]⟩
            case measure => simp [intOf]; omega
    · obtain rfl : k = len := by omega
      go_wp2_with fail
      go_ret
      exact ⟨rfl, rfl⟩
end Go.Proofs.Ytlahjieodcoecaa
