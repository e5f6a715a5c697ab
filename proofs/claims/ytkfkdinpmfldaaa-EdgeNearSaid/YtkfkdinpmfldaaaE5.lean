/- Package edge: the reference's Between, the chapter's example, and the laws EdgeTells and EdgeTurns: they return true, for every input. -/
import Derived.Test.YtkfkdinpmfldaaaE4
import Derived.Laws.BytesArg
namespace Go.Proofs.Ytkfkdinpmfldaaa
open Go.RowKit
set_option linter.unusedVariables false
set_option linter.unusedSimpArgs false

theorem conv_one (B : Nat) (W : World) (x : Int) (hB : B = W.heap.size) : (convert 37 9 (.slice (some ⟨B, 0, none⟩) 1 1)).run Try.prog (W.alloc (.cells #[.int .u8 x] 5)) = .ok (.string (strOfNums [x])) (W.alloc (.cells #[.int .u8 x] 5)) :=
  run_convert_bytes_arg _ 37 5 Try.underlying37 Try.underlying5 B 0 1 1 [x] rfl (fun i hi => by
    obtain rfl : i = 0 := by omega
    exact cell_new1 _ _ _ hB) 9 Try.underlying9

theorem byI_app_l (s t : ByteArray) (i : Int) (h : i < s.size) : byI (s ++ t) i = byI s i := by
  unfold byI
  by_cases h0 : 0 ≤ i
  · rw [dif_pos ⟨h0, by rw [ByteArray.size_append]; omega⟩, dif_pos ⟨h0, h⟩, ByteArray.getElem_append_left (by omega)]
  · rw [dif_neg (by omega), dif_neg (by omega)]
theorem byI_app_r (s t : ByteArray) (i : Int) (h : (s.size : Int) ≤ i) : byI (s ++ t) i = byI t (i - s.size) := by
  unfold byI
  by_cases h0 : i - s.size < t.size
  · rw [dif_pos ⟨by omega, by rw [ByteArray.size_append]; omega⟩, dif_pos ⟨by omega, h0⟩, ByteArray.getElem_append_right (by omega)]
    have e : (i - (s.size : Int)).toNat = i.toNat - s.size := by omega
    simp only [e]
  · rw [dif_neg (by rw [ByteArray.size_append]; omega), dif_neg (by omega)]
theorem byI_one (a : Int) (h0 : 0 ≤ a) (h1 : a ≤ 255) : byI (strOfNums [a]) 0 = a := by
  rw [byI_in (by omega) (by rw [strOfNums_size]; simp) 0 rfl (by rw [strOfNums_size]; simp)]
  show ((UInt8.ofNat a.toNat).toNat : Int) = a
  rw [UInt8.toNat_ofNat']
  omega
theorem bO_in (a : Int) (h0 : 0 ≤ a) (h1 : a ≤ 255) : bO a = a := by unfold bO; rw [if_neg (by omega), if_neg (by omega)]
theorem bO_out (a : Int) (h : ¬ (0 ≤ a ∧ a ≤ 255)) : bO a = -1 := by unfold bO; split <;> (try split) <;> omega

theorem betweenRef_any (a b : Int) (w : World) : Calls Try.prog 8 #[.int .i64 a, .int .i64 b] w fun e w' => e = .returned (.int .i64 (btw (bO a) (bO b))) ∧ Kp [] w w' := by
  have hc := conv_one
  have HA : Hid (∀ (s : ByteArray) (i : Int), s.size ≤ 140737488351232 → ∀ (w : World), Calls Try.prog 12 #[.string s, .int .i64 i] w fun e w' => e = .returned (.int .i64 (atV s i)) ∧ w = w') := fun s i hs w => atRef_any s i hs w
  have z1 := strOfNums_size [a]
  have z2 := strOfNums_size [b]
  simp at z1 z2
  by_cases ha : 0 ≤ a ∧ a ≤ 255
  · obtain ⟨ha0, ha1⟩ := ha
    have q1 := byI_one a ha0 ha1
    rw [bO_in a ha0 ha1]
    by_cases hb : 0 ≤ b ∧ b ≤ 255
    · obtain ⟨hb0, hb1⟩ := hb
      have q2 := byI_one b hb0 hb1
      rw [bO_in b hb0 hb1]
      have hfin : Hid (atV (strOfNums [a] ++ strOfNums [b]) 1 = btw a b) := by
        show _ = _
        unfold atV
        rw [if_neg (by rw [ByteArray.size_append]; omega), byI_app_l _ _ _ (by omega), byI_app_r _ _ _ (by omega)]
        rw [z1]
        simp only [Int.reduceSub, Int.cast_ofNat_Int, q1, q2]
      clear q1 q2
      go_enter Try.func8, Try.ntmps8
      go_wp2_with fail
      refine (HA.out _ _ (by rw [ByteArray.size_append]; omega) _).mono ?_
      rintro e w1 ⟨rfl, rfl⟩
      rw [hfin.out]
      go_wp2_with fail
      go_ret
      exact ⟨rfl, ((Kp.refl _ _).alloc _).alloc _⟩
    · rw [bO_out b hb]
      have hfin : Hid (atV (strOfNums [a]) 1 = btw a (-1)) := by
        show _ = _
        unfold atV
        rw [if_neg (by omega), byI_out (i := 1) (.inr (by omega))]
        simp only [Int.reduceSub, q1]
      clear q1
      by_cases hb0 : 0 ≤ b
      all_goals
        go_enter Try.func8, Try.ntmps8
        go_wp2_with fail
        refine (HA.out _ _ (by omega) _).mono ?_
        rintro e w1 ⟨rfl, rfl⟩
        rw [hfin.out]
        go_wp2_with fail
        go_ret
        exact ⟨rfl, (Kp.refl _ _).alloc _⟩
  · rw [bO_out a ha]
    by_cases hb : 0 ≤ b ∧ b ≤ 255
    · obtain ⟨hb0, hb1⟩ := hb
      have q2 := byI_one b hb0 hb1
      rw [bO_in b hb0 hb1]
      have hfin : Hid (atV (⟨#[]⟩ ++ strOfNums [b]) 0 = btw (-1) b) := by
        show _ = _
        unfold atV
        rw [if_neg (by rw [ByteArray.size_append]; omega), byI_out (i := 0 - 1) (.inl (by omega)), byI_app_r _ _ _ (by show ((0 : Nat) : Int) ≤ 0; omega)]
        rw [show (0 : Int) - ((⟨#[]⟩ : ByteArray).size : Int) = 0 from rfl, q2]
      have hz : ((⟨#[]⟩ : ByteArray) ++ strOfNums [b]).size ≤ 140737488351232 := by
        rw [ByteArray.size_append, z2]; show 0 + 1 ≤ _; omega
      have HZ := Lib.hid hz
      clear q2 hz
      by_cases ha0 : 0 ≤ a
      all_goals
        go_enter Try.func8, Try.ntmps8
        go_wp2_with fail
        refine (HA.out _ _ HZ.out _).mono ?_
        rintro e w1 ⟨rfl, rfl⟩
        rw [hfin.out]
        go_wp2_with fail
        go_ret
        exact ⟨rfl, (Kp.refl _ _).alloc _⟩
    · rw [bO_out b hb]
      have hfin := Lib.hid (show atV ⟨#[]⟩ 0 = btw (-1) (-1) from by decide +kernel)
      have HZ : Hid ((⟨#[]⟩ : ByteArray).size ≤ 140737488351232) := by show 0 ≤ _; omega
      by_cases ha0 : 0 ≤ a <;> by_cases hb0 : 0 ≤ b
      all_goals
        go_enter Try.func8, Try.ntmps8
        go_wp2_with fail
        refine (HA.out _ _ HZ.out _).mono ?_
        rintro e w1 ⟨rfl, rfl⟩
        rw [hfin.out]
        go_wp2_with fail
        go_ret
        exact ⟨rfl, Kp.refl _ _⟩

theorem works_any (w : World) : Calls Try.prog 15 #[] w fun e w' => e = .returned (.bool true) ∧ Kp [] w w' := by
  have e1 := Lib.hid (show atV ⟨#[97, 98]⟩ 0 = 42 from by decide +kernel)
  have e2 := Lib.hid (show holdsV 2 ⟨#[97, 98]⟩ 2 = true from by decide +kernel)
  have e3 := Lib.hid (show holdsV 7 ⟨#[97, 98]⟩ 2 = false from by decide +kernel)
  have e4 := Lib.hid (show wB 95 = true from by decide +kernel)
  have e5 := Lib.hid (show wB 45 = false from by decide +kernel)
  go_enter Try.func15, Try.ntmps15
  go_wp2_with fail
  refine (at_any _ _ (by show 2 ≤ _; omega) _).mono ?_
  rintro e w1 ⟨rfl, k1⟩
  rw [e1.out]
  go_wp2_with fail
  refine (holds_any _ _ _ (by show 2 ≤ _; omega) _).mono ?_
  rintro e w2 ⟨rfl, k2⟩
  rw [e2.out]
  go_wp2_with fail
  refine (holds_any _ _ _ (by show 2 ≤ _; omega) _).mono ?_
  rintro e w3 ⟨rfl, k3⟩
  rw [e3.out]
  go_wp2_with fail
  refine (word_any _ _).mono ?_
  rintro e w4 ⟨rfl, rfl⟩
  rw [e4.out]
  go_wp2_with fail
  refine (word_any _ _).mono ?_
  rintro e w4 ⟨rfl, rfl⟩
  rw [e5.out]
  go_wp2_with fail
  go_ret
  exact ⟨rfl, (k1.trans k2).trans k3⟩

theorem tells_any (W : World) (a b : Int) (s : ByteArray) (hs : s.size ≤ 140737488351232) : Calls Try.prog 3 #[.int .i64 a, .int .i64 b, .string s] W fun e w' => e = .returned (.bool true) ∧ Below W.heap.size W w' := by
  go_enter Try.func3, Try.ntmps3
  go_wp2_with fail
  refine (between_any _ _ _).mono ?_
  rintro e w1 ⟨rfl, k1⟩
  go_wp2_with fail
  refine (betweenRef_any _ _ _).mono ?_
  rintro e w2 ⟨rfl, k2⟩
  go_wp2_with fail
  refine (word_any _ _).mono ?_
  rintro e w3 ⟨rfl, rfl⟩
  go_wp2_with fail
  refine (wordRef_any _ _).mono ?_
  rintro e w3 ⟨rfl, rfl⟩
  go_wp2_with fail
  refine (at_any _ _ hs _).mono ?_
  rintro e w3 ⟨rfl, k3⟩
  go_wp2_with fail
  refine (atRef_any _ _ hs _).mono ?_
  rintro e w4 ⟨rfl, rfl⟩
  go_wp2_with fail
  refine (holds_any _ _ _ hs _).mono ?_
  rintro e w4 ⟨rfl, k4⟩
  rw [holds_rH]
  go_wp2_with fail
  refine (holdsRef_any _ _ _ hs _).mono ?_
  rintro e w5 ⟨rfl, rfl⟩
  go_wp2_with fail
  refine (works_any _).mono ?_
  rintro e w5 ⟨rfl, k5⟩
  go_wp2_with fail
  go_ret
  exact ⟨rfl, ((((k1.trans k2).trans k3).trans k4).trans k5).below (Nat.le_refl _) (by simp)⟩

theorem turns_any (W : World) (a b : Int) (_ : (Lit.int .i64 a).wf = true) (_ : (Lit.int .i64 b).wf = true) : Calls Try.prog 4 #[.int .i64 a, .int .i64 b] W fun e w' => e = .returned (.bool true) ∧ Below W.heap.size W w' := by
  have hx := btw_lo (bO a) (bO b)
  have hy := btw_lo (bO b) (bO a)
  have H1 := Lib.hid (hb_btw (bO a) (bO b) 1 (by omega) (by omega))
  have H3 := Lib.hid (hb_btw (bO a) (bO b) 3 (by omega) (by omega))
  have H5 := Lib.hid (hb_btw (bO a) (bO b) 5 (by omega) (by omega))
  have H6 := Lib.hid (hb_btw (bO a) (bO b) 6 (by omega) (by omega))
  have G2 := Lib.hid (hb_btw (bO b) (bO a) 2 (by omega) (by omega))
  have G4 := Lib.hid (hb_btw (bO b) (bO a) 4 (by omega) (by omega))
  have G5 := Lib.hid (hb_btw (bO b) (bO a) 5 (by omega) (by omega))
  obtain ⟨x, ex⟩ : ∃ x, x = btw (bO a) (bO b) := ⟨_, rfl⟩
  obtain ⟨y, ey⟩ : ∃ y, y = btw (bO b) (bO a) := ⟨_, rfl⟩
  have EX := Lib.hid ex
  have EY := Lib.hid ey
  clear ex ey
  rw [← EX.out] at hx H1 H3 H5 H6
  rw [← EY.out] at hy G2 G4 G5
  have q1 : Hid (hb x 1 = hb y 2) := H1.out.trans G2.out.symm
  have q3 : Hid (hb x 3 = hb y 4) := H3.out.trans G4.out.symm
  have q5 : Hid (hb x 5 = hb y 5) := by
    show _ = _
    refine H5.out.trans (Eq.trans ?_ G5.out.symm)
    show (!(_ == _)) = !(_ == _)
    rw [BEq.comm]
  have q6 : Hid (hb x 6 = !hb x 5) := by
    show _ = _
    have h6 := H6.out; have h5 := H5.out
    simp only [hbT] at h6 h5
    rw [show hb x 5 = _ from h5, show hb x 6 = _ from h6]; simp
  clear H1 H3 H5 H6 G2 G4 G5
  obtain ⟨hx1, hx2⟩ := hx
  obtain ⟨hy1, hy2⟩ := hy
  go_enter Try.func4, Try.ntmps4
  go_wp2_with fail
  refine (works_any W).mono ?_
  rintro e w1 ⟨rfl, k1⟩
  have B1 := between_any a b w1
  rw [← EX.out] at B1
  go_wp2_with fail
  refine B1.mono ?_
  rintro e w2 ⟨rfl, k2⟩
  have B2 := between_any b a w2
  rw [← EY.out] at B2
  go_wp2_with fail
  refine B2.mono ?_
  rintro e w3 ⟨rfl, k3⟩
  go_wp2_with fail
  refine (has_any x 1 hx1 hx2 (by omega) (by omega) w3).mono ?_
  rintro e w4 ⟨rfl, rfl⟩
  go_wp2_with fail
  refine (has_any y 2 hy1 hy2 (by omega) (by omega) w3).mono ?_
  rintro e w4 ⟨rfl, rfl⟩
  rw [← q1.out]
  go_wp2_with fail
  refine (has_any x 3 hx1 hx2 (by omega) (by omega) w3).mono ?_
  rintro e w4 ⟨rfl, rfl⟩
  go_wp2_with fail
  refine (has_any y 4 hy1 hy2 (by omega) (by omega) w3).mono ?_
  rintro e w4 ⟨rfl, rfl⟩
  rw [← q3.out]
  go_wp2_with fail
  refine (has_any x 5 hx1 hx2 (by omega) (by omega) w3).mono ?_
  rintro e w4 ⟨rfl, rfl⟩
  go_wp2_with fail
  refine (has_any y 5 hy1 hy2 (by omega) (by omega) w3).mono ?_
  rintro e w4 ⟨rfl, rfl⟩
  rw [← q5.out]
  go_wp2_with fail
  refine (has_any x 6 hx1 hx2 (by omega) (by omega) w3).mono ?_
  rintro e w4 ⟨rfl, rfl⟩
  rw [q6.out]
  go_wp2_with fail
  refine (has_any x 5 hx1 hx2 (by omega) (by omega) w3).mono ?_
  rintro e w4 ⟨rfl, rfl⟩
  go_wp2_with fail
  go_ret
  exact ⟨rfl, ((k1.trans k2).trans k3).below (Nat.le_refl _) (by simp)⟩
end Go.Proofs.Ytkfkdinpmfldaaa
