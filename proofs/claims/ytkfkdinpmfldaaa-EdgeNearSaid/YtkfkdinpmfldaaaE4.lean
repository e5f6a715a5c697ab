/- The reference of package edge: its At; that it answers as the program's At does. -/
import Derived.Test.YtkfkdinpmfldaaaE3
namespace Go.Proofs.Ytkfkdinpmfldaaa
open Go.RowKit
set_option linter.unusedVariables false
set_option linter.unusedSimpArgs false

/-- The table: what Between answers, by six tests. -/
def btwT (pq a1 a2 b1 b2 : Bool) : Int := (if pq then 64 else 32) + (if a1 then 10 else if b1 then 8 else 0) + (if a2 then 20 else if b2 then 16 else 0)
theorem btw_T (a b : Int) : btw a b = btwT (wB a == wB b) (a == -1) (b == -1) (a == 10) (b == 10) := by
  unfold btw btwT
  simp only [beq_iff_eq]
def hbT (pq a1 a2 b1 b2 : Bool) (k : Nat) : Bool := match k with | 1 => a1 | 2 => a2 | 3 => a1 || b1 | 4 => a2 || b2 | 5 => !pq | 6 => pq | _ => false
theorem hb_tab : ∀ (k : Fin 7) (pq a1 a2 b1 b2 : Bool), (a1 && b1) = false → (a2 && b2) = false → (hb (btwT pq a1 a2 b1 b2) (k.val : Int)) = (if k.val = 0 then false else hbT pq a1 a2 b1 b2 k.val) := by decide +kernel
theorem hb_btw (a b : Int) (k : Nat) (h0 : 1 ≤ k) (h1 : k ≤ 6) : hb (btw a b) k = hbT (wB a == wB b) (a == -1) (b == -1) (a == 10) (b == 10) k := by
  rw [btw_T]
  have := hb_tab ⟨k, by omega⟩ (wB a == wB b) (a == -1) (b == -1) (a == 10) (b == 10) (by by_cases h : a = -1 <;> simp [h]) (by by_cases h : b = -1 <;> simp [h])
  rw [this, if_neg (by show ¬ k = 0; omega)]

theorem byI_lo (s : ByteArray) (i : Int) : (byI s i == -1) = !(decide (0 ≤ i) && decide (i < s.size)) := by
  by_cases h : 0 ≤ i ∧ i < s.size
  · rw [byI_in h.1 h.2 i.toNat rfl (by omega)]
    simp [h]
  · rw [byI_out (by omega)]
    simp
    omega

theorem holds_rH (k : Int) (s : ByteArray) (i : Int) : holdsV k s i = rH k s i := by
  unfold holdsV rH atV
  by_cases hr : i < 0 ∨ (s.size : Int) < i
  · rw [if_pos hr, if_pos hr]
    split
    · rename_i h
      obtain ⟨j, rfl⟩ : ∃ j : Nat, k = j := ⟨k.toNat, by omega⟩
      simp [hb]
    · rfl
  · rw [if_neg hr, if_neg hr]
    by_cases hk : 1 ≤ k ∧ k ≤ 6
    · rw [if_pos hk]
      obtain ⟨j, rfl⟩ : ∃ j : Nat, k = j := ⟨k.toNat, by omega⟩
      rw [hb_btw _ _ _ (by omega) (by omega)]
      have e1 : (byI s (i - 1) == -1) = (i == 0) := by
        rw [byI_lo, Bool.eq_iff_iff]; simp; omega
      have e2 : (byI s i == -1) = (i == (s.size : Int)) := by
        rw [byI_lo, Bool.eq_iff_iff]; simp; omega
      rw [e1, e2]
      unfold rH0
      rcases (show j = 1 ∨ j = 2 ∨ j = 3 ∨ j = 4 ∨ j = 5 ∨ j = 6 from by omega) with rfl | rfl | rfl | rfl | rfl | rfl <;> simp [hbT, bne]
    · rw [if_neg hk]
      unfold rH0
      rw [if_neg (by omega), if_neg (by omega), if_neg (by omega), if_neg (by omega), if_neg (by omega), if_neg (by omega)]

/-- The sum of the bits below k, for a place. -/
def sumT (s : ByteArray) (i : Int) : Nat → Int
  | 0 => 0
  | k + 1 => sumT s i k + (if rH (k + 1 : Nat) s i then 2 ^ (k + 1) else 0)
theorem sum_tab : ∀ (pq a1 a2 b1 b2 : Bool), (a1 && b1) = false → (a2 && b2) = false → btwT pq a1 a2 b1 b2 = (if hbT pq a1 a2 b1 b2 1 then 2 else 0) + (if hbT pq a1 a2 b1 b2 2 then 4 else 0) + (if hbT pq a1 a2 b1 b2 3 then 8 else 0) + (if hbT pq a1 a2 b1 b2 4 then 16 else 0) + (if hbT pq a1 a2 b1 b2 5 then 32 else 0) + (if hbT pq a1 a2 b1 b2 6 then 64 else 0) := by decide +kernel
theorem sum_atV (s : ByteArray) (i : Int) : sumT s i 6 = atV s i := by
  have e : ∀ k : Nat, 1 ≤ k → k ≤ 6 → rH k s i = hb (atV s i) k := fun k h0 h1 => by
    rw [← holds_rH]; unfold holdsV; rw [if_pos (by omega)]
  simp only [sumT]
  rw [e 1 (by omega) (by omega), e 2 (by omega) (by omega), e 3 (by omega) (by omega), e 4 (by omega) (by omega), e 5 (by omega) (by omega), e 6 (by omega) (by omega)]
  unfold atV
  split
  · decide
  · simp only [hb_btw _ _ 1 (by omega) (by omega), hb_btw _ _ 2 (by omega) (by omega), hb_btw _ _ 3 (by omega) (by omega), hb_btw _ _ 4 (by omega) (by omega), hb_btw _ _ 5 (by omega) (by omega), hb_btw _ _ 6 (by omega) (by omega)]
    rw [btw_T, sum_tab]
    · simp
    · by_cases h : byI s (i - 1) = -1 <;> simp [h]
    · by_cases h : byI s i = -1 <;> simp [h]

theorem sumT_lo (s : ByteArray) (i : Int) : ∀ k : Nat, 0 ≤ sumT s i k ∧ sumT s i k < 2 ^ (k + 1)
  | 0 => by simp [sumT]
  | k + 1 => by
    have := sumT_lo s i k
    unfold sumT
    have e : (2 : Int) ^ (k + 1 + 1) = 2 ^ (k + 1) + 2 ^ (k + 1) := by rw [Int.pow_succ]; omega
    split <;> omega

theorem atRef_any (s : ByteArray) (i : Int) (hs : s.size ≤ 140737488351232) (w : World) : Calls Try.prog 12 #[.string s, .int .i64 i] w fun e w' => e = .returned (.int .i64 (atV s i)) ∧ w = w' := by
  have hfin := Lib.hid (sum_atV s i)
  go_enter Try.func12, Try.ntmps12
  go_wp2_with fail
  go_loop [5, 6, 7] (fun o b k => ∃ j : Nat, j ≤ 6 ∧ k = .int .i64 (j + 1 : Nat) ∧ b = .int .i64 (2 ^ (j + 1)) ∧ o = .int .i64 (sumT s i j)) (fun _ _ k => 7 - (intOf k).toNat)
  case atStart => exact ⟨0, by omega, rfl, rfl, rfl⟩
  case round =>
    obtain ⟨j, hj, rfl, rfl, rfl⟩ := hrel
    have hlo := sumT_lo s i j
    obtain ⟨x, hx⟩ : ∃ x, x = sumT s i j := ⟨_, rfl⟩
    have HX := Lib.hid hx
    rw [← hx] at hlo ⊢
    clear hx
    rcases (show j = 0 ∨ j = 1 ∨ j = 2 ∨ j = 3 ∨ j = 4 ∨ j = 5 ∨ j = 6 from by omega) with rfl | rfl | rfl | rfl | rfl | rfl | rfl
    · have h := holdsRef_any 1 s i hs w
      have hs1 : sumT s i 1 = sumT s i 0 + (if rH 1 s i then 2 else 0) := rfl
      obtain ⟨b, hb⟩ : ∃ b, b = rH 1 s i := ⟨_, rfl⟩
      rw [← hb] at h hs1
      have hs2 : Hid (x + (if b then 2 else 0) = sumT s i 1) := by show _ = _; rw [hs1, ← HX.out]
      clear hb hs1
      cases b
      all_goals
        go_wp2_with fail
        refine h.mono ?_
        rintro e w1 ⟨rfl, rfl⟩
        go_wp2_with fail
        go_round
        case rel => exact ⟨1, by omega, rfl, rfl, by rw [← hs2.out]; first | rfl | (simp; done)⟩
        case measure => simp [intOf]
    · have h := holdsRef_any 2 s i hs w
      have hs1 : sumT s i 2 = sumT s i 1 + (if rH 2 s i then 4 else 0) := rfl
      obtain ⟨b, hb⟩ : ∃ b, b = rH 2 s i := ⟨_, rfl⟩
      rw [← hb] at h hs1
      have hs2 : Hid (x + (if b then 4 else 0) = sumT s i 2) := by show _ = _; rw [hs1, ← HX.out]
      clear hb hs1
      cases b
      all_goals
        go_wp2_with fail
        refine h.mono ?_
        rintro e w1 ⟨rfl, rfl⟩
        go_wp2_with fail
        go_round
        case rel => exact ⟨2, by omega, rfl, rfl, by rw [← hs2.out]; first | rfl | (simp; done)⟩
        case measure => simp [intOf]
    · have h := holdsRef_any 3 s i hs w
      have hs1 : sumT s i 3 = sumT s i 2 + (if rH 3 s i then 8 else 0) := rfl
      obtain ⟨b, hb⟩ : ∃ b, b = rH 3 s i := ⟨_, rfl⟩
      rw [← hb] at h hs1
      have hs2 : Hid (x + (if b then 8 else 0) = sumT s i 3) := by show _ = _; rw [hs1, ← HX.out]
      clear hb hs1
      cases b
      all_goals
        go_wp2_with fail
        refine h.mono ?_
        rintro e w1 ⟨rfl, rfl⟩
        go_wp2_with fail
        go_round
        case rel => exact ⟨3, by omega, rfl, rfl, by rw [← hs2.out]; first | rfl | (simp; done)⟩
        case measure => simp [intOf]
    · have h := holdsRef_any 4 s i hs w
      have hs1 : sumT s i 4 = sumT s i 3 + (if rH 4 s i then 16 else 0) := rfl
      obtain ⟨b, hb⟩ : ∃ b, b = rH 4 s i := ⟨_, rfl⟩
      rw [← hb] at h hs1
      have hs2 : Hid (x + (if b then 16 else 0) = sumT s i 4) := by show _ = _; rw [hs1, ← HX.out]
      clear hb hs1
      cases b
      all_goals
        go_wp2_with fail
        refine h.mono ?_
        rintro e w1 ⟨rfl, rfl⟩
        go_wp2_with fail
        go_round
        case rel => exact ⟨4, by omega, rfl, rfl, by rw [← hs2.out]; first | rfl | (simp; done)⟩
        case measure => simp [intOf]
    · have h := holdsRef_any 5 s i hs w
      have hs1 : sumT s i 5 = sumT s i 4 + (if rH 5 s i then 32 else 0) := rfl
      obtain ⟨b, hb⟩ : ∃ b, b = rH 5 s i := ⟨_, rfl⟩
      rw [← hb] at h hs1
      have hs2 : Hid (x + (if b then 32 else 0) = sumT s i 5) := by show _ = _; rw [hs1, ← HX.out]
      clear hb hs1
      cases b
      all_goals
        go_wp2_with fail
        refine h.mono ?_
        rintro e w1 ⟨rfl, rfl⟩
        go_wp2_with fail
        go_round
        case rel => exact ⟨5, by omega, rfl, rfl, by rw [← hs2.out]; first | rfl | (simp; done)⟩
        case measure => simp [intOf]
    · have h := holdsRef_any 6 s i hs w
      have hs1 : sumT s i 6 = sumT s i 5 + (if rH 6 s i then 64 else 0) := rfl
      obtain ⟨b, hb⟩ : ∃ b, b = rH 6 s i := ⟨_, rfl⟩
      rw [← hb] at h hs1
      have hs2 : Hid (x + (if b then 64 else 0) = sumT s i 6) := by show _ = _; rw [hs1, ← HX.out]
      clear hb hs1
      cases b
      all_goals
        go_wp2_with fail
        refine h.mono ?_
        rintro e w1 ⟨rfl, rfl⟩
        go_wp2_with fail
        go_round
        case rel => exact ⟨6, by omega, rfl, rfl, by rw [← hs2.out]; first | rfl | (simp; done)⟩
        case measure => simp [intOf]
    · go_wp2_with fail
      go_ret
      exact ⟨by rw [← hfin.out, ← HX.out]; rfl, rfl⟩
end Go.Proofs.Ytkfkdinpmfldaaa
