/- Package queue, the law QueueCuts: it returns true, for every two integers. No condition. -/
import Derived.Test.YtfpjemcnehbdoaaQ
namespace Go.Proofs.Ytfpjemcnehbdoaa
open Go.RowKit
set_option linter.unusedVariables false

theorem new_yes' (w : World) (n : Int) (h0 : 0 ≤ n) (h : n ≤ 4000) :
    Calls Try.prog 7 #[.int .i64 n] w fun e w' => ∃ q wb lb, e = .returned (.tuple #[.pointer (some ⟨q, 0, none⟩), .int .i64 0]) ∧ IsQ w' q wb lb n.toNat [] ∧ w.heap.size ≤ q ∧ w.heap.size ≤ wb ∧ w.heap.size ≤ lb ∧ Kp [] w w' := by
  obtain ⟨j, rfl⟩ : ∃ j : Nat, n = j := ⟨n.toNat, by omega⟩
  exact new_yes w j (by omega)

theorem add_yes' (w : World) (q wb lb n l) (h : IsQ w q wb lb n l) (i : Int) (h0 : 0 ≤ i) (hi : i < n) (hm : i.toNat ∉ l) :
    Calls Try.prog 8 #[.pointer (some ⟨q, 0, none⟩), .int .i64 i] w fun e w' => e = .returned (.bool true) ∧ IsQ w' q wb lb n (l ++ [i.toNat]) ∧ Kp [q, wb, lb] w w' := by
  obtain ⟨j, rfl⟩ : ∃ j : Nat, i = j := ⟨i.toNat, by omega⟩
  exact add_yes w q wb lb n l h j (by omega) (by simpa using hm)

theorem has_yes' (w : World) (q wb lb n l) (h : IsQ w q wb lb n l) (i : Int) (h0 : 0 ≤ i) (hi : i.toNat ∈ l) :
    Calls Try.prog 10 #[.pointer (some ⟨q, 0, none⟩), .int .i64 i] w fun e w' => e = .returned (.bool true) ∧ w = w' := by
  obtain ⟨j, rfl⟩ : ∃ j : Nat, i = j := ⟨i.toNat, by omega⟩
  exact has_yes w q wb lb n l h j (by simpa using hi)

theorem Kp.into {S T : List Nat} {a b c : World} (h : Kp S a b) (k : Kp T b c) (hT : ∀ x ∈ T, a.heap.size ≤ x ∨ x ∈ S) : Kp S a c :=
  ⟨k.os.trans h.os, k.tape.trans h.tape, k.output.trans h.output, Nat.le_trans h.size k.size, fun i hi hn => (k.block i (Nat.lt_of_lt_of_le hi h.size) (fun hx => by
    rcases hT i hx with h1 | h1
    · omega
    · exact hn h1)).trans (h.block i hi hn)⟩

theorem works_any (w : World) : Calls Try.prog 6 #[] w fun e w' => e = .returned (.bool true) ∧ Kp [] w w' := by
  go_enter Try.func6, Try.ntmps6
  go_wp2_with fail
  refine (new_yes' w 3 (by omega) (by omega)).mono ?_
  rintro e w1 ⟨q, wb, lb, rfl, h1, hq, hwb, hlb, k1⟩
  go_wp2_with fail
  refine (add_yes' w1 q wb lb 3 [] h1 2 (by omega) (by omega) (by simp)).mono ?_
  rintro e w2 ⟨rfl, h2, k2⟩
  go_wp2_with fail
  refine (add_yes' w2 q wb lb 3 _ h2 0 (by omega) (by omega) (by simp)).mono ?_
  rintro e w3 ⟨rfl, h3, k3⟩
  go_wp2_with fail
  refine (add_no w3 q wb lb 3 _ h3 2 (by simp)).mono ?_
  rintro e w4 ⟨rfl, rfl⟩
  go_wp2_with fail
  refine (add_no w3 q wb lb 3 _ h3 3 (by simp)).mono ?_
  rintro e w4 ⟨rfl, rfl⟩
  go_wp2_with fail
  refine (len_any w3 q wb lb 3 _ h3).mono ?_
  rintro e w4 ⟨rfl, rfl⟩
  go_wp2_with fail
  refine (at_yes w3 q wb lb 3 _ h3 0 2 (by omega) (by simp)).mono ?_
  rintro e w4 ⟨rfl, rfl⟩
  go_wp2_with fail
  refine (at_yes w3 q wb lb 3 _ h3 1 0 (by omega) (by simp)).mono ?_
  rintro e w4 ⟨rfl, rfl⟩
  go_wp2_with fail
  refine (has_yes' w3 q wb lb 3 _ h3 0 (by omega) (by simp)).mono ?_
  rintro e w4 ⟨rfl, rfl⟩
  go_wp2_with fail
  refine (has_no w3 q wb lb 3 _ h3 1 (by simp)).mono ?_
  rintro e w4 ⟨rfl, rfl⟩
  go_wp2_with fail
  go_ret
  exact ⟨rfl, (k1.into k2 (by simp; omega)).into k3 (by simp; omega)⟩

/-- What a queue holds behind n cuts: the numbers below k, then those from n - 1 down, j of them. -/
def turned (n k j : Nat) : List Nat := List.range k ++ (List.range j).map fun t => n - 1 - t
theorem turned_zero (n k : Nat) : turned n k 0 = List.range k := by simp [turned]
theorem turned_succ (n k j : Nat) : turned n k (j + 1) = turned n k j ++ [n - 1 - j] := by simp [turned, List.range_succ]
theorem turned_len (n k j : Nat) : (turned n k j).length = k + j := by simp [turned]
theorem turned_last (n k j : Nat) : (turned n k (j + 1))[k + j]? = some (n - 1 - j) := by
  rw [turned_succ, List.getElem?_append_right (by rw [turned_len]; omega), turned_len]; simp
theorem turned_not (n k j : Nat) (h : k + j < n) : n - 1 - j ∉ turned n k j := by
  simp [turned]
  refine ⟨by omega, fun x hx => by omega⟩
theorem take_range (n k : Nat) (h : k ≤ n) : (List.range n).take k = List.range k := by
  rw [List.take_range, Nat.min_eq_left h]

set_option maxHeartbeats 400000 in
theorem cuts_main (w : World) (n k : Nat) (hn : n ≤ 100) (hk : k ≤ n) : Calls Try.prog 3 #[.int .i64 n, .int .i64 k] w fun e w' => e = .returned (.bool true) ∧ Kp [] w w' := by
  go_enter Try.func3, Try.ntmps3
  go_wp2_with fail
  refine (works_any w).mono ?_
  rintro e w0 ⟨rfl, k0⟩
  go_wp2_with fail
  refine (new_yes' w0 100 (by omega) (by omega)).mono ?_
  rintro e w1 ⟨q, wb, lb, rfl, h1, hq, hwb, hlb, k1⟩
  have hs0 := k0.size
  have hT : ∀ x ∈ [q, wb, lb], w.heap.size ≤ x ∨ x ∈ ([] : List Nat) := by simp; omega
  have HT := Lib.hid hT
  have K1 := k0.trans k1
  clear k0 k1 hT hs0
  go_wp2_with fail
  go_loopw [7, 34] (fun a i wr => ∃ j : Nat, j ≤ n ∧ i = .int .i64 j ∧ IsQ wr q wb lb 100 (List.range j) ∧ Kp [] w wr) (fun _ i _ => n - (intOf i).toNat)
  case atStart => exact ⟨0, by omega, rfl, by simpa using h1, K1⟩
  case round =>
    obtain ⟨j, hj, rfl, hQ, hK⟩ := hrel
    by_cases hlt : j < n
    · go_wp2_with fail
      refine (add_yes wr q wb lb 100 _ hQ j (by omega) (by simp)).mono ?_
      rintro e w2 ⟨rfl, hQ2, k2⟩
      go_wp2_with fail
      go_roundw
      case rel => exact ⟨j + 1, by omega, by go_num, by rw [List.range_succ]; exact hQ2, hK.into k2 HT.out⟩
      case measure => simp [intOf]; omega
    · obtain rfl : j = n := by omega
      go_wp2_with fail
      refine (cut_any wr q wb lb 100 _ hQ k).mono ?_
      rintro e w2 ⟨rfl, hQ2, k2⟩
      rw [Int.toNat_natCast, take_range _ _ hk] at hQ2
      have K2 := hK.into k2 HT.out
      clear k2 hQ hK h1 K1
      go_wp2_with fail
      go_loop [8, 45] (fun a i => ∃ j' : Nat, j' ≤ j ∧ i = .int .i64 j') (fun _ i => j - (intOf i).toNat)
      case atStart => exact ⟨0, by omega, rfl⟩
      case round =>
        obtain ⟨i, hi, rfl⟩ := hrel
        by_cases hlt2 : i < j
        · by_cases hik : i < k
          · go_wp2_with fail
            refine (has_yes w2 q wb lb 100 _ hQ2 i (by simpa using hik)).mono ?_
            rintro e w3 ⟨rfl, rfl⟩
            go_wp2_with fail
            go_round
            case rel => exact ⟨i + 1, by omega, by go_num⟩
            case measure => simp [intOf]; omega
          · go_wp2_with fail
            refine (has_no w2 q wb lb 100 _ hQ2 i (by simpa using hik)).mono ?_
            rintro e w3 ⟨rfl, rfl⟩
            go_wp2_with fail
            go_round
            case rel => exact ⟨i + 1, by omega, by go_num⟩
            case measure => simp [intOf]; omega
        · skip
          go_wp2_with fail
          go_loopw [9] (fun i wr => ∃ (x : Int) (t : Nat), i = .int .i64 x ∧ Hid (x + 1 + t = j) ∧ k + t ≤ j ∧ IsQ wr q wb lb 100 (turned j k t) ∧ Kp [] w wr) (fun i _ => (intOf i + 1 - k).toNat)
          case atStart => exact ⟨_, 0, rfl, (by show _ = _; omega), by omega, by rw [turned_zero]; exact hQ2, K2⟩
          case round =>
            obtain ⟨x, t, rfl, ht, hkt, hQ, hK⟩ := hrel
            by_cases hx : x < k
            · have htn : k + t = j := by have := ht.out; omega
              have HN := Lib.hid htn
              clear htn
              go_wp2_with fail
              refine (len_any wr q wb lb 100 _ hQ).mono ?_
              rintro e w3 ⟨rfl, rfl⟩
              rw [turned_len, HN.out]
              go_wp2_with fail
              go_ret
              exact ⟨by simp, hK⟩
            · obtain ⟨i, rfl⟩ : ∃ i : Nat, x = i := ⟨x.toNat, by omega⟩
              have htn : i = j - 1 - t := by have := ht.out; omega
              have h1 := turned_not j k t (by have := ht.out; omega)
              have h2 := turned_last j k t
              have h3 := turned_succ j k t
              rw [← htn] at h1 h2 h3
              have hi100 : i < 100 := by omega
              have HT1 := Lib.hid h1
              have HT2 := Lib.hid h2
              have HT3 := Lib.hid h3
              have HN := Lib.hid htn
              clear h1 h2 h3 htn
              go_wp2_with fail
              refine (add_yes wr q wb lb 100 _ hQ i hi100 HT1.out).mono ?_
              rintro e w3 ⟨rfl, hQ3, k3⟩
              rw [← HT3.out] at hQ3
              go_wp2_with fail
              refine (at_yes w3 q wb lb 100 _ hQ3 _ i (by have := ht.out; omega) (by rw [← HT2.out]; congr 1; have := ht.out; omega)).mono ?_
              rintro e w4 ⟨rfl, rfl⟩
              go_wp2_with fail
              go_roundw
              case rel => exact ⟨_, t + 1, rfl, (by show _ = _; have := ht.out; omega), by have := ht.out; omega, hQ3, hK.into k3 HT.out⟩
              case measure => simp [intOf]; omega


theorem cuts_any (w : World) (n k : Int) : Calls Try.prog 3 #[.int .i64 n, .int .i64 k] w fun e w' => e = .returned (.bool true) ∧ Below w.heap.size w w' := by
  by_cases h : 0 ≤ n ∧ n ≤ 100 ∧ 0 ≤ k ∧ k ≤ n
  · obtain ⟨a, rfl⟩ : ∃ a : Nat, n = a := ⟨n.toNat, by omega⟩
    obtain ⟨b, rfl⟩ : ∃ b : Nat, k = b := ⟨k.toNat, by omega⟩
    exact (cuts_main w a b (by omega) (by omega)).mono fun e w' ⟨h1, h2⟩ => ⟨h1, h2.below (Nat.le_refl _) (by simp)⟩
  · have hc : n < 0 ∨ (0 ≤ n ∧ 100 < n) ∨ (0 ≤ n ∧ n ≤ 100 ∧ k < 0) ∨ (0 ≤ n ∧ n ≤ 100 ∧ 0 ≤ k ∧ n < k) := by omega
    clear h
    rcases hc with h | ⟨h, h'⟩ | ⟨h, h', h2⟩ | ⟨h, h', h2, h3⟩
    all_goals
      go_enter Try.func3, Try.ntmps3
      go_wp2_with fail
      refine (works_any w).mono ?_
      rintro e w0 ⟨rfl, k0⟩
      go_wp2_with fail
      go_ret
      exact ⟨rfl, k0.below (Nat.le_refl _) (by simp)⟩

theorem queueCutsW (W : World) (n k : Int) (_ : (Lit.int .i64 n).wf = true) (_ : (Lit.int .i64 k).wf = true) : Calls Try.prog 3 #[.int .i64 n, .int .i64 k] W fun e w' => e = .returned (.bool true) ∧ Below W.heap.size W w' := cuts_any W n k
end Go.Proofs.Ytfpjemcnehbdoaa
