-- Turned by hand (wip/tools/turnp.py) from a text that print.sh printed and that falls as printed: the sums of lengths are laid in their normal form too.
import Derived.Test.YtkjkkebaafmheaaDoorPAllx0
import Derived.Test.YtkjkkebaafmheaaDoorPAllx14
import Derived.Test.YtkjkkebaafmheaaDoorT15
namespace Go.Proofs.YtkjkkebaafmheaaDoor.PAll
open Go.RowKit Go.Proofs.YtkjkkebaafmheaaDoorW.PrintWords Go.Proofs.YtkjkkebaafmheaaDoorW.PrintLast Go.Proofs.YtkjkkebaafmheaaDoorW.PrintMore
attribute [local go_sem] max2_int min2_int max_two min_two max_three min_three max_four min_four   -- for this text's walks alone
set_option linter.unusedVariables false
set_option linter.unusedSimpArgs false

/-! ### burinref14_Text: function 24 -/
def burinref14_Text.l0 : Nat → ByteArray → Int → List (S35) → Int → Int → Option (ByteArray)
  | 0, _, _, _, _, _ => none
  | k + 1, x3, x4, x133000, x133001, x133002 => if x4 < (x133000.length : Int) then (if 0 ≤ x4 then ((burinref14_one.f k ((rd_T35 x133000 x4).f0) ((rd_T35 x133000 x4).f1) ((rd_T35 x133000 x4).f2) ((rd_T35 x133000 x4).f3) ((rd_T35 x133000 x4).f4)).bind fun t136 => (if x3.size + t136.size ≤ 9223372036854775807 then (burinref14_Text.l0 k (x3 ++ t136) (wrap64 (x4 + 1)) x133000 x133001 x133002) else (none))) else (none)) else (some x3)
def burinref14_Text.f (k : Nat) (l0_0 : List (S35)) (a0_1 : Int) (a0_2 : Int) : Option (ByteArray) := (burinref14_Num.f k a0_1).bind fun t133 => (if 8 + t133.size ≤ 9223372036854775807 then (if ((⟨#[112, 114, 111, 103, 114, 97, 109, 32]⟩ : ByteArray) ++ t133).size + 1 ≤ 9223372036854775807 then ((burinref14_Num.f k a0_2).bind fun t134 => (if (((⟨#[112, 114, 111, 103, 114, 97, 109, 32]⟩ : ByteArray) ++ t133) ++ (⟨#[32]⟩ : ByteArray)).size + t134.size ≤ 9223372036854775807 then (if ((((⟨#[112, 114, 111, 103, 114, 97, 109, 32]⟩ : ByteArray) ++ t133) ++ (⟨#[32]⟩ : ByteArray)) ++ t134).size + 1 ≤ 9223372036854775807 then (burinref14_Text.l0 k (((((⟨#[112, 114, 111, 103, 114, 97, 109, 32]⟩ : ByteArray) ++ t133) ++ (⟨#[32]⟩ : ByteArray)) ++ t134) ++ (⟨#[10]⟩ : ByteArray)) 0 l0_0 a0_1 a0_2) else (none)) else (none))) else (none)) else (none))
theorem burinref14_Text.mono_l : ∀ k, (∀ y0 y1 y2 y3 y4, LeO (burinref14_Text.l0 k y0 y1 y2 y3 y4) (burinref14_Text.l0 (k + 1) y0 y1 y2 y3 y4))
  | 0 => fun _ _ _ _ _ r h => by simp [burinref14_Text.l0] at h
  | k + 1 => by
    have ih0 := burinref14_Text.mono_l k
    · intro y0 y1 y2 y3 y4
      unfold burinref14_Text.l0
      repeat' first
      | (with_reducible exact ih0 _ _ _ _ _)
      | (with_reducible exact burinref14_Num.mono _ _)
      | (with_reducible exact burinref14_one.mono _ _ _ _ _ _)
      | (with_reducible exact LeO.refl _)
      | (with_reducible exact LeO.none _)
      | (with_reducible refine LeO.ite ?_ ?_)
      | (with_reducible refine LeO.bind ?_ (fun _ => ?_))
      | exact ih0 _ _ _ _ _
      | exact burinref14_Num.mono _ _
      | exact burinref14_one.mono _ _ _ _ _ _
      | exact LeO.none _
      | refine LeO.ite ?_ ?_
      | refine LeO.bind ?_ (fun _ => ?_)
theorem burinref14_Text.mono : ∀ a0 a1 a2 k, LeO (burinref14_Text.f k a0 a1 a2) (burinref14_Text.f (k + 1) a0 a1 a2) := by
  intro a0 a1 a2 k
  have ih0 := burinref14_Text.mono_l k
  unfold burinref14_Text.f
  repeat' first
      | (with_reducible exact ih0 _ _ _ _ _)
      | (with_reducible exact burinref14_Num.mono _ _)
      | (with_reducible exact burinref14_one.mono _ _ _ _ _ _)
      | (with_reducible exact LeO.refl _)
      | (with_reducible exact LeO.none _)
      | (with_reducible refine LeO.ite ?_ ?_)
      | (with_reducible refine LeO.bind ?_ (fun _ => ?_))
      | exact ih0 _ _ _ _ _
      | exact burinref14_Num.mono _ _
      | exact burinref14_one.mono _ _ _ _ _ _
      | exact LeO.none _
      | refine LeO.ite ?_ ?_
      | refine LeO.bind ?_ (fun _ => ?_)
def burinref14_Text.T1 : Bool × List (List Nat × List Nat) := (true, [([], []), ([0], [0]), ([1], [1]), ([2], [2]), ([3], [3]), ([], []), ([5], [5]), ([6, 2], [6]), ([4, 7], [4, 7]), ([8], [8]), ([9, 7, 0, 1, 2, 3, 4, 5, 6, 7, 8, 9], [9])])
def burinref14_Text.B1 : List Nat := [0, 1, 3, 7, 15, 0, 32, 103, 255, 511, 1023]
theorem burinref14_Text.tab1 : rtab .any (opsOf Tryd.f24 1) = burinref14_Text.T1 := by kernel_rfl
theorem burinref14_Text.bits1 : waitsOk burinref14_Text.T1.2 burinref14_Text.B1 = true := by kernel_rfl
set_option maxHeartbeats 8000000 in
set_option maxRecDepth 100000 in
theorem burinref14_Text.calls (k : Nat) (A0_0 : Option Addr) (c0_0 : Nat) (l0_0 : List (S35)) (a0_1 : Int) (a0_2 : Int) (r : ByteArray) (w : World) (hr0_0 : Kd.C k35 w A0_0 l0_0.length l0_0) (hc0_0 : l0_0.length ≤ c0_0) (h : burinref14_Text.f k l0_0 a0_1 a0_2 = some r) :
    Calls Tryd.prog 24 #[.agg #[.slice A0_0 l0_0.length c0_0, .int .i64 a0_1, .int .i64 a0_2]] w fun e w' => e = .returned (.string r) ∧ Below w.heap.size w w' := by
  have hu24 := Tryd.underlying24
  have hu35 := Tryd.underlying35
  have HR0_0 := Aside0.mk hr0_0
  have HC0_0 := Aside0.mk hc0_0
  clear hr0_0 hc0_0
  have HB := Aside0.mk (Below.refl w.heap.size w)
  have H : ((burinref14_Num.f k a0_1).bind fun t133 => (if 8 + t133.size ≤ 9223372036854775807 then (if ((⟨#[112, 114, 111, 103, 114, 97, 109, 32]⟩ : ByteArray) ++ t133).size + 1 ≤ 9223372036854775807 then ((burinref14_Num.f k a0_2).bind fun t134 => (if (((⟨#[112, 114, 111, 103, 114, 97, 109, 32]⟩ : ByteArray) ++ t133) ++ (⟨#[32]⟩ : ByteArray)).size + t134.size ≤ 9223372036854775807 then (if ((((⟨#[112, 114, 111, 103, 114, 97, 109, 32]⟩ : ByteArray) ++ t133) ++ (⟨#[32]⟩ : ByteArray)) ++ t134).size + 1 ≤ 9223372036854775807 then (burinref14_Text.l0 k (((((⟨#[112, 114, 111, 103, 114, 97, 109, 32]⟩ : ByteArray) ++ t133) ++ (⟨#[32]⟩ : ByteArray)) ++ t134) ++ (⟨#[10]⟩ : ByteArray)) 0 l0_0 a0_1 a0_2) else (none)) else (none))) else (none)) else (none))) = some r := h
  clear h
  replace H := Option.bind_eq_some_iff.mp H
  obtain ⟨t133, A20, H⟩ := H
  replace H : (if 8 + t133.size ≤ 9223372036854775807 then (if ((⟨#[112, 114, 111, 103, 114, 97, 109, 32]⟩ : ByteArray) ++ t133).size + 1 ≤ 9223372036854775807 then ((burinref14_Num.f k a0_2).bind fun t134 => (if (((⟨#[112, 114, 111, 103, 114, 97, 109, 32]⟩ : ByteArray) ++ t133) ++ (⟨#[32]⟩ : ByteArray)).size + t134.size ≤ 9223372036854775807 then (if ((((⟨#[112, 114, 111, 103, 114, 97, 109, 32]⟩ : ByteArray) ++ t133) ++ (⟨#[32]⟩ : ByteArray)) ++ t134).size + 1 ≤ 9223372036854775807 then (burinref14_Text.l0 k (((((⟨#[112, 114, 111, 103, 114, 97, 109, 32]⟩ : ByteArray) ++ t133) ++ (⟨#[32]⟩ : ByteArray)) ++ t134) ++ (⟨#[10]⟩ : ByteArray)) 0 l0_0 a0_1 a0_2) else (none)) else (none))) else (none)) else (none)) = some r := H
  have A2 := Aside0.mk A20
  clear A20
  by_cases c3 : 8 + t133.size ≤ 9223372036854775807
  · rw [if_pos c3] at H
    have c3b0 := eq_true c3
    have c3b1 : decide (8 + t133.size ≤ 9223372036854775807) = true := decide_eq_true c3
    try have c3b2 : (9223372036854775807 < 8 + t133.size) = False := eq_false (Nat.not_lt.2 c3)
    try (have c3b3 := c3b2; simp only [ByteArray.size_append, show (⟨#[10]⟩ : ByteArray).size = 1 from rfl, show (⟨#[112, 114, 111, 103, 114, 97, 109, 32]⟩ : ByteArray).size = 8 from rfl, show (⟨#[32]⟩ : ByteArray).size = 1 from rfl] at c3b3)
    by_cases c4 : ((⟨#[112, 114, 111, 103, 114, 97, 109, 32]⟩ : ByteArray) ++ t133).size + 1 ≤ 9223372036854775807
    · rw [if_pos c4] at H
      have c4b0 := eq_true c4
      have c4b1 : decide (((⟨#[112, 114, 111, 103, 114, 97, 109, 32]⟩ : ByteArray) ++ t133).size + 1 ≤ 9223372036854775807) = true := decide_eq_true c4
      try have c4b2 : (9223372036854775807 < ((⟨#[112, 114, 111, 103, 114, 97, 109, 32]⟩ : ByteArray) ++ t133).size + 1) = False := eq_false (Nat.not_lt.2 c4)
      try (have c4b3 := c4b2; simp only [ByteArray.size_append, show (⟨#[10]⟩ : ByteArray).size = 1 from rfl, show (⟨#[112, 114, 111, 103, 114, 97, 109, 32]⟩ : ByteArray).size = 8 from rfl, show (⟨#[32]⟩ : ByteArray).size = 1 from rfl] at c4b3)
      replace H := Option.bind_eq_some_iff.mp H
      obtain ⟨t134, A50, H⟩ := H
      replace H : (if (((⟨#[112, 114, 111, 103, 114, 97, 109, 32]⟩ : ByteArray) ++ t133) ++ (⟨#[32]⟩ : ByteArray)).size + t134.size ≤ 9223372036854775807 then (if ((((⟨#[112, 114, 111, 103, 114, 97, 109, 32]⟩ : ByteArray) ++ t133) ++ (⟨#[32]⟩ : ByteArray)) ++ t134).size + 1 ≤ 9223372036854775807 then (burinref14_Text.l0 k (((((⟨#[112, 114, 111, 103, 114, 97, 109, 32]⟩ : ByteArray) ++ t133) ++ (⟨#[32]⟩ : ByteArray)) ++ t134) ++ (⟨#[10]⟩ : ByteArray)) 0 l0_0 a0_1 a0_2) else (none)) else (none)) = some r := H
      have A5 := Aside0.mk A50
      clear A50
      by_cases c6 : (((⟨#[112, 114, 111, 103, 114, 97, 109, 32]⟩ : ByteArray) ++ t133) ++ (⟨#[32]⟩ : ByteArray)).size + t134.size ≤ 9223372036854775807
      · rw [if_pos c6] at H
        have c6b0 := eq_true c6
        have c6b1 : decide ((((⟨#[112, 114, 111, 103, 114, 97, 109, 32]⟩ : ByteArray) ++ t133) ++ (⟨#[32]⟩ : ByteArray)).size + t134.size ≤ 9223372036854775807) = true := decide_eq_true c6
        try have c6b2 : (9223372036854775807 < (((⟨#[112, 114, 111, 103, 114, 97, 109, 32]⟩ : ByteArray) ++ t133) ++ (⟨#[32]⟩ : ByteArray)).size + t134.size) = False := eq_false (Nat.not_lt.2 c6)
        try (have c6b3 := c6b2; simp only [ByteArray.size_append, show (⟨#[10]⟩ : ByteArray).size = 1 from rfl, show (⟨#[112, 114, 111, 103, 114, 97, 109, 32]⟩ : ByteArray).size = 8 from rfl, show (⟨#[32]⟩ : ByteArray).size = 1 from rfl] at c6b3)
        by_cases c7 : ((((⟨#[112, 114, 111, 103, 114, 97, 109, 32]⟩ : ByteArray) ++ t133) ++ (⟨#[32]⟩ : ByteArray)) ++ t134).size + 1 ≤ 9223372036854775807
        · rw [if_pos c7] at H
          have c7b0 := eq_true c7
          have c7b1 : decide (((((⟨#[112, 114, 111, 103, 114, 97, 109, 32]⟩ : ByteArray) ++ t133) ++ (⟨#[32]⟩ : ByteArray)) ++ t134).size + 1 ≤ 9223372036854775807) = true := decide_eq_true c7
          try have c7b2 : (9223372036854775807 < ((((⟨#[112, 114, 111, 103, 114, 97, 109, 32]⟩ : ByteArray) ++ t133) ++ (⟨#[32]⟩ : ByteArray)) ++ t134).size + 1) = False := eq_false (Nat.not_lt.2 c7)
          try (have c7b3 := c7b2; simp only [ByteArray.size_append, show (⟨#[10]⟩ : ByteArray).size = 1 from rfl, show (⟨#[112, 114, 111, 103, 114, 97, 109, 32]⟩ : ByteArray).size = 8 from rfl, show (⟨#[32]⟩ : ByteArray).size = 1 from rfl] at c7b3)
          have H' := Aside0.mk H
          clear H
          go_enter Tryd.func24, Tryd.ntmps24
          try go_wp2_with (first | ((with_reducible refine gate_dst (N := 1) rfl ?_); refine box_event ?hg (N := 1) ?hd (cs := #[.slice A0_0 l0_0.length c0_0, .int .i64 a0_1, .int .i64 a0_2]) (t := 24) ?hr ?_; (case hd => rfl); (case hg => rfl); (case hr => first | (go_simp; done) | (go_simp; rfl)); intro gb132 hg w8 hbox hb; have n0_ := Aside0.mk (below_step (by repeat (first | (with_reducible first | exact HB.out | apply below_alloc | apply pw_below_drewN | apply below_drew1) | exact HB.out)) hb); have n1_ := Aside0.mk (hbox); have n2_ := Aside0.mk ((by rw [hg]; exact (below_size (by repeat (first | (with_reducible first | exact HB.out | apply below_alloc | apply pw_below_drewN | apply below_drew1) | exact HB.out))) : w.heap.size ≤ gb132)); have n3_ := Aside0.mk ((by rw [hg]; exact (below_size (by repeat (first | (with_reducible first | exact HB.out | apply below_alloc | apply pw_below_drewN | apply below_drew1) | exact HB.out))) : w.heap.size ≤ gb132)); clear HB; have HB := n0_; have BK132 := n1_; have GW132 := n2_; have GE132 := n3_; clear n0_ n1_ n2_ n3_; clear hb hbox hg))
          have n0_ := Aside0.mk (blk_drew BK132.out)
          have n1_ := Aside0.mk (below_drew1 HB.out)
          clear BK132
          clear HB
          have BK132 := n0_
          have HB := n1_
          clear n0_ n1_
          refine start_ (n := 11) (S := fun w' => w'.cell? ⟨gb132, 0, none⟩ = some (.slice A0_0 l0_0.length c0_0) ∧ w'.cell? ⟨gb132, 1, none⟩ = some (.int .i64 a0_1) ∧ w'.cell? ⟨gb132, 2, none⟩ = some (.int .i64 a0_2)) (ds := []) #[false, false, false, false, false, false, false, false, false, false, false] (by kernel_rfl) rfl rfl ⟨(blk_cell BK132.out 0).trans rfl, (blk_cell BK132.out 1).trans rfl, (blk_cell BK132.out 2).trans rfl⟩ (fun hHeld => ?_); refine with_tabW burinref14_Text.tab1 burinref14_Text.bits1 (fun HT_ HW_ => ?_)
          generalize w8.drew = w9 at BK132 HB hHeld ⊢
          refine pure_ (i := 0) (N := some 5) (v := ?_) (a' := ?_) #[true, false, false, false, false, false, false, false, false, false, false] rfl rfl (any_of HT_.out (by kernel_rfl)) (fun _ _ _ h => h) (Or.inl ⟨by rfl, ?_⟩) ?_ ?_
          rotate_left
          · intro w'
            go_simp
            with_reducible rfl
          rotate_left
          · simp only [Act.put, List.setIfInBounds_toArray, List.set_cons_zero, List.set_cons_succ, i64_w, i32_w]
            rfl
          refine pure_ (i := 5) (N := some 10) (v := ?_) (a' := ?_) #[true, false, false, false, false, true, false, false, false, false, false] rfl rfl (any_of HT_.out (by kernel_rfl)) (fun _ _ _ h => h) (Or.inl ⟨by rfl, ?_⟩) ?_ ?_
          rotate_left
          · intro w'
            go_simp
            with_reducible rfl
          rotate_left
          · simp only [Act.put, List.setIfInBounds_toArray, List.set_cons_zero, List.set_cons_succ, i64_w, i32_w]
            rfl
          refine take_ (i := 1) (N := some 6) (v := ?_) (a' := ?_) #[true, true, false, false, false, true, false, false, false, false, false] rfl rfl (take_ofW HT_.out HW_.out (by kernel_rfl)) (fun _ _ _ h => h) (Or.inl ⟨by rfl, ?_⟩) hHeld ?_ ?_
          rotate_left
          · rintro w' ⟨s0, s1, s2⟩
            go_simp
            with_reducible rfl
          rotate_left
          · simp only [Act.put, List.setIfInBounds_toArray, List.set_cons_zero, List.set_cons_succ, i64_w, i32_w]
            rfl
          refine take_ (i := 6) (N := some 11) (v := ?_) (a' := ?_) #[true, true, false, false, false, true, true, false, false, false, false] rfl rfl (take_ofW HT_.out HW_.out (by kernel_rfl)) (fun _ _ _ h => h) (Or.inl ⟨by rfl, ?_⟩) hHeld ?_ ?_
          rotate_left
          · rintro w' ⟨s0, s1, s2⟩
            go_simp
            with_reducible rfl
          rotate_left
          · simp only [Act.put, List.setIfInBounds_toArray, List.set_cons_zero, List.set_cons_succ, i64_w, i32_w]
            rfl
          refine one_ (i := 2) (N := some 7) #[true, true, true, false, false, true, true, false, false, false, false] rfl rfl (one_of HT_.out (by kernel_rfl)) (by decide) (fun K hK => ?_)
          refine goes_ Tryd.func39 (by kernel_rfl) rfl #[.int .i64 a0_1] (by rfl) rfl rfl (by (try simp only [List.map_toArray, List.map_cons, List.map_nil]); first | done | rfl | (simp only [List.length_drop, List.length_take]; rfl)) ?_
          with_reducible refine (burinref14_Num.calls k a0_1 t133 _ A2.out).mono ?_
          rintro e w10 ⟨rfl, hb⟩
          refine ⟨_, rfl, ?_⟩
          have n0_ := Aside0.mk (blk_below (g := gb132) (o := .cells #[.slice A0_0 l0_0.length c0_0, .int .i64 a0_1, .int .i64 a0_2] 24 (0, 0)) (by (with_reducible repeat (first | refine blk_drewN ?_ _ | refine blk_drew ?_ | refine blk_alloc ?_ _)); exact BK132.out) hb)
          have n1_ := Aside0.mk (below_step (by repeat (first | (with_reducible first | exact HB.out | apply below_alloc | apply pw_below_drewN | apply below_drew1 | refine below_set ?_ GE132.out) | exact HB.out)) hb)
          clear BK132
          clear HB
          have BK132 := n0_
          have HB := n1_
          clear n0_ n1_
          (try clear hb)
          (try clear hb2)
          (try clear hk)
          (try clear hi)
          refine hK.out _ _ ⟨(blk_cell BK132.out 0).trans rfl, (blk_cell BK132.out 1).trans rfl, (blk_cell BK132.out 2).trans rfl⟩ (fun hHeld => ?_)
          clear hK K
          refine norm_ (a' := ?_) ?_ ?_
          rotate_left
          · show Act.put _ (some 7) _ = _
            simp only [Act.put, List.setIfInBounds_toArray, List.set_cons_zero, List.set_cons_succ, i64_w, i32_w]
            rfl
          refine pure_ (i := 3) (N := some 8) (v := ?_) (a' := ?_) #[true, true, true, true, false, true, true, false, false, false, false] rfl rfl (any_of HT_.out (by kernel_rfl)) (fun _ _ _ h => h) (Or.inl ⟨by rfl, ?_⟩) ?_ ?_
          rotate_left
          · intro w'
            go_simp
            with_reducible rfl
          rotate_left
          · simp only [Act.put, List.setIfInBounds_toArray, List.set_cons_zero, List.set_cons_succ, i64_w, i32_w]
            rfl
          refine pure_ (i := 4) (N := some 9) (v := ?_) (a' := ?_) #[true, true, true, true, true, true, true, false, false, false, false] rfl rfl (any_of HT_.out (by kernel_rfl)) (fun _ _ _ h => h) (Or.inl ⟨by rfl, ?_⟩) ?_ ?_
          rotate_left
          · intro w'
            go_simp
            with_reducible rfl
          rotate_left
          · simp only [Act.put, List.setIfInBounds_toArray, List.set_cons_zero, List.set_cons_succ, i64_w, i32_w]
            rfl
          refine one_ (i := 7) (N := some 12) #[true, true, true, true, true, true, true, true, false, false, false] rfl rfl (one_of HT_.out (by kernel_rfl)) (by decide) (fun K hK => ?_)
          refine goes_ Tryd.func39 (by kernel_rfl) rfl #[.int .i64 a0_2] (by rfl) rfl rfl (by (try simp only [List.map_toArray, List.map_cons, List.map_nil]); first | done | rfl | (simp only [List.length_drop, List.length_take]; rfl)) ?_
          with_reducible refine (burinref14_Num.calls k a0_2 t134 _ A5.out).mono ?_
          rintro e w11 ⟨rfl, hb⟩
          refine ⟨_, rfl, ?_⟩
          have n0_ := Aside0.mk (blk_below (g := gb132) (o := .cells #[.slice A0_0 l0_0.length c0_0, .int .i64 a0_1, .int .i64 a0_2] 24 (0, 0)) (by (with_reducible repeat (first | refine blk_drewN ?_ _ | refine blk_drew ?_ | refine blk_alloc ?_ _)); exact BK132.out) hb)
          have n1_ := Aside0.mk (below_step (by repeat (first | (with_reducible first | exact HB.out | apply below_alloc | apply pw_below_drewN | apply below_drew1 | refine below_set ?_ GE132.out) | exact HB.out)) hb)
          clear BK132
          clear HB
          have BK132 := n0_
          have HB := n1_
          clear n0_ n1_
          (try clear hb)
          (try clear hb2)
          (try clear hk)
          (try clear hi)
          refine hK.out _ _ ⟨(blk_cell BK132.out 0).trans rfl, (blk_cell BK132.out 1).trans rfl, (blk_cell BK132.out 2).trans rfl⟩ (fun hHeld => ?_)
          clear hK K
          refine norm_ (a' := ?_) ?_ ?_
          rotate_left
          · show Act.put _ (some 12) _ = _
            simp only [Act.put, List.setIfInBounds_toArray, List.set_cons_zero, List.set_cons_succ, i64_w, i32_w]
            rfl
          refine pure_ (i := 8) (N := some 13) (v := ?_) (a' := ?_) #[true, true, true, true, true, true, true, true, true, false, false] rfl rfl (any_of HT_.out (by kernel_rfl)) (fun _ _ _ h => h) (Or.inl ⟨by rfl, ?_⟩) ?_ ?_
          rotate_left
          · intro w'
            go_simp
            with_reducible rfl
          rotate_left
          · simp only [Act.put, List.setIfInBounds_toArray, List.set_cons_zero, List.set_cons_succ, i64_w, i32_w]
            rfl
          refine pure_ (i := 9) (N := some 14) (v := ?_) (a' := ?_) #[true, true, true, true, true, true, true, true, true, true, false] rfl rfl (any_of HT_.out (by kernel_rfl)) (fun _ _ _ h => h) (Or.inl ⟨by rfl, ?_⟩) ?_ ?_
          rotate_left
          · intro w'
            go_simp
            with_reducible rfl
          rotate_left
          · simp only [Act.put, List.setIfInBounds_toArray, List.set_cons_zero, List.set_cons_succ, i64_w, i32_w]
            rfl
          refine pure_ (i := 10) (N := some 3) (v := ?_) (a' := ?_) #[true, true, true, true, true, true, true, true, true, true, true] rfl rfl (any_of HT_.out (by kernel_rfl)) (fun _ _ _ h => h) (Or.inl ⟨by rfl, ?_⟩) ?_ ?_
          rotate_left
          · intro w'
            go_simp
            with_reducible rfl
          rotate_left
          · simp only [Act.put, List.setIfInBounds_toArray, List.set_cons_zero, List.set_cons_succ, i64_w, i32_w]
            rfl
          refine done_ (done_of HT_.out (by kernel_rfl)) ?_
          try go_wp2
          go_loopg [3, 4] k (fun kq v3 v4 w' => ∃ (x3_1 : ByteArray) (x4_1 : Int), v3 = .string x3_1 ∧ v4 = .int .i64 x4_1 ∧ Aside0 (burinref14_Text.l0 kq x3_1 x4_1 l0_0 a0_1 a0_2 = some r) ∧ Aside0 (kq ≤ k) ∧ Aside0 (w'.heap[gb132]? = some (.cells #[(.slice A0_0 l0_0.length c0_0), .int .i64 a0_1, .int .i64 a0_2] 24 (0, 0))) ∧ Aside0 (Below w.heap.size w w'))
          case atStart => exact ⟨(((((⟨#[112, 114, 111, 103, 114, 97, 109, 32]⟩ : ByteArray) ++ t133) ++ (⟨#[32]⟩ : ByteArray)) ++ t134) ++ (⟨#[10]⟩ : ByteArray)), (0), (by first | rfl | (simp; done) | (simp [*]; done)), (by first | rfl | (simp; done) | (simp [*]; done)), H', ⟨Nat.le_refl _⟩, ⟨by (with_reducible repeat (first | refine blk_drewN ?_ _ | refine blk_drew ?_ | refine blk_alloc ?_ _)); exact BK132.out⟩, ⟨by repeat (first | (with_reducible first | exact HB.out | apply below_alloc | apply pw_below_drewN | apply below_drew1 | refine below_set ?_ GE132.out) | exact HB.out)⟩⟩
          case round =>
            clear H'
            try clear c2
            try clear p2
            try clear c3
            try clear c3b0
            try clear c3b1
            try clear c3b2
            try clear c4
            try clear c4b0
            try clear c4b1
            try clear c4b2
            try clear c6
            try clear c6b0
            try clear c6b1
            try clear c6b2
            try clear c7
            try clear c7b0
            try clear c7b1
            try clear c7b2
            obtain ⟨x3_1, x4_1, rfl, rfl, HA, HK1, BK132, HB⟩ := hrel
            cases gk with
            | zero => exact absurd HA.out (by simp [burinref14_Text.l0])
            | succ k1 =>
              have H := HA.out
              clear HA
              simp only [burinref14_Text.l0] at H
              by_cases c12 : x4_1 < (l0_0.length : Int)
              · rw [if_pos c12] at H
                have c12b0 : decide (x4_1 < (l0_0.length : Int)) = true := decide_eq_true c12
                clear c12
                by_cases c13 : 0 ≤ x4_1
                · rw [if_pos c13] at H
                  have c13b0 : decide (0 ≤ x4_1) = true := decide_eq_true c13
                  clear c13
                  replace H := Option.bind_eq_some_iff.mp H
                  obtain ⟨t136, A140, H⟩ := H
                  replace H : (if x3_1.size + t136.size ≤ 9223372036854775807 then (burinref14_Text.l0 k1 (x3_1 ++ t136) (wrap64 (x4_1 + 1)) l0_0 a0_1 a0_2) else (none)) = some r := H
                  have A14 := Aside0.mk A140
                  clear A140
                  by_cases c15 : x3_1.size + t136.size ≤ 9223372036854775807
                  · rw [if_pos c15] at H
                    have c15b0 := eq_true c15
                    have c15b1 : decide (x3_1.size + t136.size ≤ 9223372036854775807) = true := decide_eq_true c15
                    try have c15b2 : (9223372036854775807 < x3_1.size + t136.size) = False := eq_false (Nat.not_lt.2 c15)
                    try (have c15b3 := c15b2; simp only [ByteArray.size_append, show (⟨#[10]⟩ : ByteArray).size = 1 from rfl, show (⟨#[112, 114, 111, 103, 114, 97, 109, 32]⟩ : ByteArray).size = 8 from rfl, show (⟨#[32]⟩ : ByteArray).size = 1 from rfl] at c15b3)
                    have H' := Aside0.mk H
                    clear H
                    have hcz16_0 : wr.cell? ⟨gb132, 0, none⟩ = some (.slice A0_0 l0_0.length c0_0) := (blk_cell BK132.out 0).trans rfl
                    have hcz16_1 : wr.cell? ⟨gb132, 1, none⟩ = some (.int .i64 a0_1) := (blk_cell BK132.out 1).trans rfl
                    have hcz16_2 : wr.cell? ⟨gb132, 2, none⟩ = some (.int .i64 a0_2) := (blk_cell BK132.out 2).trans rfl
                    have hfz16_0 := blk_frozen BK132.out 0
                    have hfz16_1 := blk_frozen BK132.out 1
                    have hfz16_2 := blk_frozen BK132.out 2
                    have p135 : 0 ≤ (x4_1 : Int) := of_decide_eq_true (by first | (with_reducible assumption) | assumption)
                    have q135 : x4_1 < (l0_0.length : Int) := of_decide_eq_true (by first | (with_reducible assumption) | assumption)
                    obtain ⟨ad135, e135, hx135_0, hx135_1, hx135_2, hx135_3, hx135_4⟩ := at_T35 HR0_0.out x4_1 p135 q135
                    cases e135
                    replace hx135_0 := (HB.out.cell (World.block_lt_of_cell? w _ hx135_0)).trans hx135_0
                    replace hx135_1 := (HB.out.cell (World.block_lt_of_cell? w _ hx135_1)).trans hx135_1
                    replace hx135_2 := (HB.out.cell (World.block_lt_of_cell? w _ hx135_2)).trans hx135_2
                    replace hx135_3 := (HB.out.cell (World.block_lt_of_cell? w _ hx135_3)).trans hx135_3
                    replace hx135_4 := (HB.out.cell (World.block_lt_of_cell? w _ hx135_4)).trans hx135_4
                    replace p135 := eq_true p135
                    replace q135 := eq_true q135
                    go_wp2_with (first | ((with_reducible refine gate_callee (f := 40) rfl ?_); refine goesL_ (some 28) rfl rfl Tryd.func40 (by kernel_rfl) rfl #[.agg #[.int .i64 ((rd_T35 l0_0 x4_1).f0), .int .i64 ((rd_T35 l0_0 x4_1).f1), .int .i64 ((rd_T35 l0_0 x4_1).f2), .int .i64 ((rd_T35 l0_0 x4_1).f3), .int .i64 ((rd_T35 l0_0 x4_1).f4)]] rfl (by (try simp only [List.map_toArray, List.map_cons, List.map_nil]); first | done | rfl | (simp only [List.length_drop, List.length_take]; rfl)) ?_; (with_reducible refine (burinref14_one.calls k1 ((rd_T35 l0_0 x4_1).f0) ((rd_T35 l0_0 x4_1).f1) ((rd_T35 l0_0 x4_1).f2) ((rd_T35 l0_0 x4_1).f3) ((rd_T35 l0_0 x4_1).f4) t136 _ A14.out).mono ?_); rintro e w17 ⟨rfl, hb⟩; refine ⟨_, rfl, ?_⟩; have n0_ := Aside0.mk (blk_below (g := gb132) (o := .cells #[.slice (some ad135) l0_0.length c0_0, .int .i64 a0_1, .int .i64 a0_2] 24 (0, 0)) (by (with_reducible repeat (first | refine blk_drewN ?_ _ | refine blk_drew ?_ | refine blk_alloc ?_ _)); exact BK132.out) hb); have n1_ := Aside0.mk (below_step (by repeat (first | (with_reducible first | exact HB.out | apply below_alloc | apply pw_below_drewN | apply below_drew1 | refine below_set ?_ GE132.out) | exact HB.out)) hb); clear BK132; clear HB; have BK132 := n0_; have HB := n1_; clear n0_ n1_; (try clear hb); (try clear hb2); (try clear hk); (try clear hi)))
                    go_roundg k1
                    case measure => have := HK1.out; omega
                    case rel => exact ⟨(x3_1 ++ t136), (wrap64 (x4_1 + 1)), (by first | rfl | (simp; done) | (simp [*]; done)), (by first | rfl | (simp; done) | (simp [*]; done)), H', ⟨by have := HK1.out; omega⟩, ⟨by (with_reducible repeat (first | refine blk_drewN ?_ _ | refine blk_drew ?_ | refine blk_alloc ?_ _)); exact BK132.out⟩, ⟨by repeat (first | (with_reducible first | exact HB.out | apply below_alloc | apply pw_below_drewN | apply below_drew1 | refine below_set ?_ GE132.out) | exact HB.out)⟩⟩
                  · rw [if_neg c15] at H
                    exact absurd H (by simp)
                · rw [if_neg c13] at H
                  exact absurd H (by simp)
              · rw [if_neg c12] at H
                have c12b0 : decide (x4_1 < (l0_0.length : Int)) = false := decide_eq_false c12
                clear c12
                obtain rfl := Option.some.inj H
                have hcz18_0 : wr.cell? ⟨gb132, 0, none⟩ = some (.slice A0_0 l0_0.length c0_0) := (blk_cell BK132.out 0).trans rfl
                have hcz18_1 : wr.cell? ⟨gb132, 1, none⟩ = some (.int .i64 a0_1) := (blk_cell BK132.out 1).trans rfl
                have hcz18_2 : wr.cell? ⟨gb132, 2, none⟩ = some (.int .i64 a0_2) := (blk_cell BK132.out 2).trans rfl
                have hfz18_0 := blk_frozen BK132.out 0
                have hfz18_1 := blk_frozen BK132.out 1
                have hfz18_2 := blk_frozen BK132.out 2
                go_wp2
                go_ret
                exact ⟨by first | rfl | (simp [errW_none, errW_some] <;> rfl) | (simp [*, errW_none, errW_some] <;> rfl), by repeat (first | (with_reducible first | exact HB.out | apply below_alloc | apply pw_below_drewN | apply below_drew1 | refine below_set ?_ GE132.out) | exact HB.out)⟩
        · rw [if_neg c7] at H
          exact absurd H (by simp)
      · rw [if_neg c6] at H
        exact absurd H (by simp)
    · rw [if_neg c4] at H
      exact absurd H (by simp)
  · rw [if_neg c3] at H
    exact absurd H (by simp)

end Go.Proofs.YtkjkkebaafmheaaDoor.PAll
