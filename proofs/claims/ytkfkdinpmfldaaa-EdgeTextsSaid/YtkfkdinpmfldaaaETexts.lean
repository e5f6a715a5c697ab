/- Package edge, the law EdgeTexts: it returns true, for every text. -/
import Derived.Test.YtkfkdinpmfldaaaE5
namespace Go.Proofs.Ytkfkdinpmfldaaa
open Go.RowKit
set_option linter.unusedVariables false
set_option linter.unusedSimpArgs false

/-- At how many of the first j places is this so? -/
def cnt (k : Nat) (s : ByteArray) : Nat → Nat
  | 0 => 0
  | j + 1 => cnt k s j + (if rH k s j then 1 else 0)
/-- How many of the first j bytes are line feeds? -/
def fd (s : ByteArray) : Nat → Nat
  | 0 => 0
  | j + 1 => fd s j + (if byI s j == 10 then 1 else 0)

theorem rH_in (k : Int) (s : ByteArray) (j : Nat) (h : j ≤ s.size) : rH k s j = rH0 k s j := by unfold rH; rw [if_neg (by omega)]

theorem cnt1 (s : ByteArray) : ∀ j, j ≤ s.size + 1 → cnt 1 s j = if 0 < j then 1 else 0
  | 0, _ => rfl
  | j + 1, h => by
    have ih := cnt1 s j (by omega)
    unfold cnt
    rw [ih, rH_in _ _ _ (by omega)]
    by_cases hj : j = 0
    · subst hj; simp [rH0]
    · have : rH0 ((1 : Nat) : Int) s j = false := by simp [rH0]; omega
      rw [this]; simp; omega
theorem cnt2 (s : ByteArray) : ∀ j, j ≤ s.size + 1 → cnt 2 s j = if j = s.size + 1 then 1 else 0
  | 0, _ => by simp [cnt]
  | j + 1, h => by
    have ih := cnt2 s j (by omega)
    unfold cnt
    rw [ih, rH_in _ _ _ (by omega)]
    by_cases hj : j = s.size
    · have : rH0 ((2 : Nat) : Int) s j = true := by simp [rH0]; omega
      rw [this]; simp [hj]
    · have : rH0 ((2 : Nat) : Int) s j = false := by simp [rH0]; omega
      rw [this, if_neg (show ¬ j = s.size + 1 by omega)]; simp [hj]
theorem cnt3 (s : ByteArray) : ∀ j, j ≤ s.size + 1 → cnt 3 s j = if 0 < j then 1 + fd s (j - 1) else 0
  | 0, _ => rfl
  | j + 1, h => by
    have ih := cnt3 s j (by omega)
    unfold cnt
    rw [ih, rH_in _ _ _ (by omega)]
    cases j with
    | zero => simp [rH0, fd]
    | succ j =>
      have e : rH0 ((3 : Nat) : Int) s (j + 1 : Nat) = (byI s j == 10) := by
        unfold rH0
        rw [if_neg (by omega), if_neg (by omega), if_pos (by omega)]
        rw [show ((j + 1 : Nat) : Int) - 1 = j from by omega]
        rw [show (((j + 1 : Nat) : Int) == 0) = false from by rw [beq_eq_false_iff_ne]; omega]
        simp
      rw [e]
      simp [fd]
      omega
theorem cnt4 (s : ByteArray) : ∀ j, j ≤ s.size → cnt 4 s j = fd s j
  | 0, _ => rfl
  | j + 1, h => by
    have ih := cnt4 s j (by omega)
    unfold cnt fd
    rw [ih, rH_in _ _ _ (by omega)]
    have e : rH0 ((4 : Nat) : Int) s j = (byI s j == 10) := by
      unfold rH0
      rw [if_neg (by omega), if_neg (by omega), if_neg (by omega), if_pos (by omega)]
      rw [show ((j : Int) == (s.size : Int)) = false from by rw [beq_eq_false_iff_ne]; omega]
      simp
    rw [e]
theorem cnt4_end (s : ByteArray) : cnt 4 s (s.size + 1) = fd s s.size + 1 := by
  unfold cnt
  rw [cnt4 s s.size (by omega), rH_in _ _ _ (by omega)]
  simp [rH0]
theorem rH5 (s : ByteArray) (j : Nat) (h : j ≤ s.size) : rH ((5 : Nat) : Int) s j = (wB (byI s (j - 1)) != wB (byI s j)) := by
  rw [rH_in _ _ _ h]; unfold rH0
  rw [if_neg (by omega), if_neg (by omega), if_neg (by omega), if_neg (by omega), if_pos (by omega)]
theorem rH6 (s : ByteArray) (j : Nat) (h : j ≤ s.size) : rH ((6 : Nat) : Int) s j = (wB (byI s (j - 1)) == wB (byI s j)) := by
  rw [rH_in _ _ _ h]; unfold rH0
  rw [if_neg (by omega), if_neg (by omega), if_neg (by omega), if_neg (by omega), if_neg (by omega), if_pos (by omega)]
theorem cnt5 (s : ByteArray) : ∀ j, j ≤ s.size + 1 → cnt 5 s j % 2 = if wB (byI s (j - 1)) then 1 else 0
  | 0, _ => by
    rw [byI_out (.inl (by omega))]; rfl
  | j + 1, h => by
    have ih := cnt5 s j (by omega)
    unfold cnt
    rw [rH5 _ _ (by omega), show ((j + 1 : Nat) : Int) - 1 = j from by omega]
    revert ih
    cases wB (byI s (j - 1)) <;> cases wB (byI s j) <;> simp <;> omega
theorem cnt56 (s : ByteArray) : ∀ j, j ≤ s.size + 1 → cnt 5 s j + cnt 6 s j = j
  | 0, _ => rfl
  | j + 1, h => by
    have ih := cnt56 s j (by omega)
    unfold cnt
    rw [rH5 _ _ (by omega), rH6 _ _ (by omega)]
    cases wB (byI s (j - 1)) <;> cases wB (byI s j) <;> simp <;> omega
theorem cnt_le (k : Nat) (s : ByteArray) : ∀ j, cnt k s j ≤ j
  | 0 => Nat.le_refl _
  | j + 1 => by have := cnt_le k s j; unfold cnt; split <;> omega
theorem fd_le (s : ByteArray) : ∀ j, fd s j ≤ j
  | 0 => Nat.le_refl _
  | j + 1 => by have := fd_le s j; unfold fd; split <;> omega

/-- Seven numbers in memory. -/
def seven (f : Nat → Nat) : Array Value := #[.int .i64 (f 0 : Nat), .int .i64 (f 1 : Nat), .int .i64 (f 2 : Nat), .int .i64 (f 3 : Nat), .int .i64 (f 4 : Nat), .int .i64 (f 5 : Nat), .int .i64 (f 6 : Nat)]
theorem seven_get (f : Nat → Nat) (k : Nat) (h : k ≤ 6) : (seven f)[k]? = some (.int .i64 (f k : Nat)) := by
  rcases (show k = 0 ∨ k = 1 ∨ k = 2 ∨ k = 3 ∨ k = 4 ∨ k = 5 ∨ k = 6 from by omega) with rfl | rfl | rfl | rfl | rfl | rfl | rfl <;> rfl
theorem seven_set (f g : Nat → Nat) (k : Nat) (h : k ≤ 6) (hg : g k = f k + 1) (ho : ∀ m, m ≠ k → g m = f m) : (seven f).setIfInBounds k (.int .i64 ((f k : Nat) + 1 : Int)) = seven g := by
  rcases (show k = 0 ∨ k = 1 ∨ k = 2 ∨ k = 3 ∨ k = 4 ∨ k = 5 ∨ k = 6 from by omega) with rfl | rfl | rfl | rfl | rfl | rfl | rfl
  all_goals
    apply Array.ext'
    simp [seven, hg, ho]

theorem texts_main (W : World) (s : ByteArray) (hs : s.size ≤ 300) : Calls Try.prog 5 #[.string s] W fun e w' => e = .returned (.bool true) ∧ Below W.heap.size W w' := by
  go_enter Try.func5, Try.ntmps5
  go_wp2_with fail
  refine (works_any W).mono ?_
  rintro e w1 ⟨rfl, k1⟩
  have hs1 := k1.size
  have K1 := k1.below (Nat.le_refl _) (by simp)
  clear k1
  go_wp2_with fail
  obtain ⟨nb, hnb⟩ : ∃ nb, nb = w1.heap.size := ⟨_, rfl⟩
  have HNB := Lib.hid hnb
  have hWn : W.heap.size ≤ nb := by omega
  rw [← hnb]
  go_loopw [4, 5] (fun f i wr => ∃ j : Nat, j ≤ s.size + 1 ∧ i = .int .i64 j ∧ f = .int .i64 (fd s (min j s.size) : Nat) ∧ wr.heap[nb]? = some (.cells (seven (fun m => if m = 0 then 0 else cnt m s j)) 29 (0, 0)) ∧ Below W.heap.size W wr) (fun _ i _ => s.size + 1 - (intOf i).toNat)
  case atStart => 
    refine ⟨0, by omega, rfl, by simp [fd], ?_, K1.alloc hs1 _⟩
    rw [hnb, heap_alloc_new]
    rfl
  case round =>
    obtain ⟨j, hj, rfl, rfl, hbk, hB⟩ := hrel
    clear hnb
    have hfd := fd_le s (min j s.size)
    by_cases hjl : j ≤ s.size
    · have hdj : decide ((j : Int) ≤ (s.size : Int)) = true := by simp; omega
      go_wp2_with fail
      refine (at_any s j (by omega) wr).mono ?_
      rintro e w2 ⟨rfl, k2⟩
      have hb2 := (k2.block nb (ltB hbk) (by simp)).trans hbk
      have hB2 := hB.trans (k2.below (by have := hB.size; omega) (by simp))
      obtain ⟨x, hx⟩ : ∃ x, x = atV s j := ⟨_, rfl⟩
      have hx0 := atV_lo s j
      rw [← hx] at hx0 ⊢
      have HX := Lib.hid hx
      have hxk : ∀ k : Nat, 1 ≤ k → k ≤ 6 → hb x k = rH k s j := fun k h1 h2 => by
        rw [← holds_rH, hx]; unfold holdsV; rw [if_pos (by omega)]
      have HXK := Lib.hid hxk
      obtain ⟨hx1, hx2⟩ := hx0
      clear hx hxk hbk hB k2
      go_wp2_with fail
      obtain ⟨wo, rfl⟩ : ∃ wo : World, wo = wr := ⟨_, rfl⟩
      go_loopw [7] (fun k wr => ∃ m : Nat, 1 ≤ m ∧ m ≤ 7 ∧ k = .int .i64 m ∧ wr.heap[nb]? = some (.cells (seven (fun q => if q = 0 then 0 else if q < m then cnt q s (j + 1) else cnt q s j)) 29 (0, 0)) ∧ Below W.heap.size W wr) (fun k _ => 7 - (intOf k).toNat)
      case atStart =>
        refine ⟨1, by omega, by omega, rfl, ?_, hB2⟩
        rw [hb2]
        congr 3
        funext q
        by_cases hq : q = 0
        · simp [hq]
        · rw [if_neg hq, if_neg hq, if_neg (by omega)]
      case round =>
        obtain ⟨m, hm1, hm7, rfl, hbk, hB⟩ := hrel
        by_cases hm : m ≤ 6
        · have hdm : decide ((m : Int) ≤ 6) = true := by simp; omega
          obtain ⟨f, hf⟩ : ∃ f : Nat → Nat, f = fun q => if q = 0 then 0 else if q < m then cnt q s (j + 1) else cnt q s j := ⟨_, rfl⟩
          rw [← hf] at hbk
          have hfm : f m = cnt m s j := by rw [hf]; simp [show m ≠ 0 by omega]
          have hcell := cellB hbk m
          rw [seven_get f m hm] at hcell
          have hfrz := frozB hbk m
          have hlt := cnt_le m s j
          rw [← hfm] at hlt
          have hnext : ∀ g : Nat → Nat, (∀ q, g q = if q = m then f m + (if rH m s j then 1 else 0) else f q) → g = fun q => if q = 0 then 0 else if q < m + 1 then cnt q s (j + 1) else cnt q s j := fun g hg => by
            funext q
            rw [hg, hf]
            by_cases hq : q = m
            · subst hq
              simp [show q ≠ 0 by omega, cnt]
            · by_cases hq0 : q = 0
              · simp [hq0, show ¬ 0 = m by omega]
              · simp only [if_neg hq, if_neg hq0]
                by_cases h : q < m
                · rw [if_pos h, if_pos (by omega)]
                · rw [if_neg h, if_neg (by omega)]
          have HN := Lib.hid hnext
          obtain ⟨y, hy⟩ : ∃ y, y = f m := ⟨_, rfl⟩
          rw [← hy] at hcell hlt
          have HY := Lib.hid hy
          have HBK := Lib.hid hbk
          have hnbs := ltB hbk
          have hr := HXK.out m hm1 hm
          obtain ⟨b, hb1⟩ : ∃ b, b = rH m s j := ⟨_, rfl⟩
          rw [← hb1] at hr
          have HB1 := Lib.hid hb1
          have h1 := has_any x m hx1 hx2 (by omega) (by omega)
          rw [hr] at h1
          have H1 := Lib.hid h1
          have h2 := holds_any m s j (by omega) wr
          rw [holds_rH, ← hb1] at h2
          have H2 := Lib.hid h2
          clear hf hfm hnext hy hbk hr hb1 h1 h2
          go_wp2_with fail
          refine (H1.out wr).mono ?_
          rintro e w3 ⟨rfl, rfl⟩
          go_wp2_with fail
          refine H2.out.mono ?_
          rintro e w3 ⟨rfl, k3⟩
          have hc3 := (World.cell?_of_block (a := ⟨nb, m, none⟩) (k3.block nb hnbs (by simp))).trans hcell
          have hf3 := (World.frozen?_of_block (a := ⟨nb, m, none⟩) (k3.block nb hnbs (by simp))).trans hfrz
          have hB3 := hB.trans (k3.below (by have := hB.size; omega) (by simp))
          have HBK3 := Lib.hid ((k3.block nb hnbs (by simp)).trans HBK.out)
          clear k3 hcell hfrz
          cases b
          · go_wp2_with fail
            refine (H1.out w3).mono ?_
            rintro e w4 ⟨rfl, rfl⟩
            go_wp2_with fail
            go_roundw
            case rel =>
              refine ⟨m + 1, by omega, by omega, by go_num, ?_, hB3⟩
              rw [← HN.out f (fun q => by rw [← HB1.out]; split <;> simp_all)]
              exact HBK3.out
            case measure => simp [intOf]; omega
          · go_wp2_with fail
            refine (H1.out w3).mono ?_
            rintro e w4 ⟨rfl, rfl⟩
            go_wp2_with fail
            go_roundw
            case rel =>
              refine ⟨m + 1, by omega, by omega, by go_num, ?_, hB3.setCell (by exact hWn) _⟩
              rw [← HN.out (fun q => if q = m then f m + 1 else f q) (fun q => by rw [← HB1.out]; rfl)]
              rw [setB HBK3.out, HY.out, seven_set f (fun q => if q = m then f m + 1 else f q) m hm (by simp) (fun q hq => by simp [hq])]
            case measure => simp [intOf]; omega
        · obtain rfl : m = 7 := by omega
          have hbk' : wr.heap[nb]? = some (.cells (seven (fun q => if q = 0 then 0 else cnt q s (j + 1))) 29 (0, 0)) := by
            rw [hbk]
            rw [show seven (fun q => if q = 0 then 0 else if q < 7 then cnt q s (j + 1) else cnt q s j) = seven (fun q => if q = 0 then 0 else cnt q s (j + 1)) from rfl]
          have HBK := Lib.hid hbk'
          clear hbk hbk'
          by_cases hjs : j < s.size
          · have e0 : min j s.size = j := by omega
            rw [e0] at hfd
            try rw [e0]
            have hstep : fd s (min (j + 1) s.size) = fd s j + (if byI s j == 10 then 1 else 0) := by rw [show min (j + 1) s.size = j + 1 by omega]; rfl
            have hbyte := byI_in (s := s) (i := j) (by omega) (by omega) j (by omega) hjs
            by_cases hc : byI s j = 10
            · have e1 : (((s[j]'hjs).toNat : Int) == 10) = true := by rw [← hbyte, hc]; rfl
              have HS : Hid (fd s (min (j + 1) s.size) = fd s j + 1) := by show _ = _; rw [hstep, hc]; rfl
              clear hstep hbyte hc e0
              go_wp2_with fail
              go_roundw
              case rel => exact ⟨j + 1, by omega, by go_num, by rw [HS.out]; go_num, HBK.out, hB⟩
              case measure => simp [intOf]; omega
            · have e1 : (((s[j]'hjs).toNat : Int) == 10) = false := by rw [← hbyte]; simpa using hc
              have HS : Hid (fd s (min (j + 1) s.size) = fd s j) := by show _ = _; rw [hstep]; simp [hc]
              clear hstep hbyte hc e0
              go_wp2_with fail
              go_roundw
              case rel => exact ⟨j + 1, by omega, by go_num, by rw [HS.out], HBK.out, hB⟩
              case measure => simp [intOf]; omega
          · have HS : Hid (fd s (min (j + 1) s.size) = fd s j) := by show _ = _; congr 1; omega
            go_wp2_with fail
            go_roundw
            case rel => exact ⟨j + 1, by omega, by go_num, by rw [HS.out], HBK.out, hB⟩
            case measure => simp [intOf]; omega
    · obtain rfl : j = s.size + 1 := by omega
      have q1 := cnt1 s (s.size + 1) (by omega)
      have q2 := cnt2 s (s.size + 1) (by omega)
      have q3 := cnt3 s (s.size + 1) (by omega)
      have q4 := cnt4_end s
      have q5 := cnt5 s (s.size + 1) (by omega)
      rw [byI_out (.inr (by omega))] at q5
      have q6 := cnt56 s (s.size + 1) (by omega)
      rw [if_pos (by omega)] at q1 q3
      rw [if_pos rfl] at q2
      rw [Nat.add_sub_cancel] at q3
      have l5 := cnt_le 5 s (s.size + 1)
      have l6 := cnt_le 6 s (s.size + 1)
      have c1 := cellB hbk 1
      have c2 := cellB hbk 2
      have c3 := cellB hbk 3
      have c4 := cellB hbk 4
      have c5 := cellB hbk 5
      have c6 := cellB hbk 6
      simp [seven] at c1 c2 c3 c4 c5 c6
      rw [q1] at c1
      rw [q2] at c2
      rw [q3] at c3
      rw [q4] at c4
      obtain ⟨a5, ha5⟩ : ∃ a5, a5 = cnt 5 s (s.size + 1) := ⟨_, rfl⟩
      obtain ⟨a6, ha6⟩ : ∃ a6, a6 = cnt 6 s (s.size + 1) := ⟨_, rfl⟩
      rw [← ha5] at c5 q5 q6 l5
      rw [← ha6] at c6 q6 l6
      rw [show min (s.size + 1) s.size = s.size by omega] at hfd
      try rw [show min (s.size + 1) s.size = s.size by omega]
      obtain ⟨a3, ha3⟩ : ∃ a3, a3 = fd s s.size := ⟨_, rfl⟩
      rw [← ha3] at c3 c4 hfd ⊢
      have e5 : ((a5 : Int) % 2 == 0) = true := by rw [beq_iff_eq]; simp [show wB (-1) = false from by decide] at q5; omega
      have e6 : (((a5 : Int) + a6) == (s.size : Int) + 1) = true := by rw [beq_iff_eq]; omega
      clear q1 q2 q3 q4 q5 q6 ha5 ha6 ha3
      go_wp2_with fail
      go_ret
      exact ⟨rfl, hB⟩

theorem texts_any (W : World) (s : ByteArray) (_ : s.size ≤ 140737488351232) : Calls Try.prog 5 #[.string s] W fun e w' => e = .returned (.bool true) ∧ Below W.heap.size W w' := by
  by_cases h : s.size ≤ 300
  · exact texts_main W s h
  · go_enter Try.func5, Try.ntmps5
    go_wp2_with fail
    refine (works_any W).mono ?_
    rintro e w1 ⟨rfl, k1⟩
    go_wp2_with fail
    go_ret
    exact ⟨rfl, k1.below (Nat.le_refl _) (by simp)⟩
end Go.Proofs.Ytkfkdinpmfldaaa
