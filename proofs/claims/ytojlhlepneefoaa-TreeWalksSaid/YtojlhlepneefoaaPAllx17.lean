-- Laid by print.py over several laws of the seat at once (wip/tools/printmany.sh): one namespace for all
import Derived.Test.YtojlhlepneefoaaPAllx0
namespace Go.Proofs.Ytojlhlepneefoaa.PAll
open Go.RowKit Go.Proofs.YtojlhlepneefoaaW.PrintWords Go.Proofs.YtojlhlepneefoaaW.PrintLast Go.Proofs.YtojlhlepneefoaaW.PrintMore
attribute [local go_sem] max2_int min2_int max_two min_two max_three min_three max_four min_four   -- for this text's walks alone
set_option linter.unusedVariables false
set_option linter.unusedSimpArgs false

/-! ### burinref06_Nullable: function 47 -/
mutual
def burinref06_Nullable.l0 : Nat → Int → Bool → Bool → Int → Int → List (S103) → Int → ByteArray → Int → Int → Bool → List (S25) → Option (Bool)
  | 0, _, _, _, _, _, _, _, _, _, _, _, _ => none
  | k + 1, x1, x5, x6, x7, x201000, x201001, x201002, x201003, x201004, x201005, x201006, x201007 => if x7 < (x201007.length : Int) then (if 0 ≤ x7 then ((burinref06_Nullable.f k ((rd_T25 x201007 x7).f0) ((rd_T25 x201007 x7).f1) ((rd_T25 x201007 x7).f2) ((rd_T25 x201007 x7).f3) ((rd_T25 x201007 x7).f4) ((rd_T25 x201007 x7).f5) ((rd_T25 x201007 x7).f6) ((rd_T25 x201007 x7).f7) (wrap64 (x1 - 1))).bind fun t202 => (if x5 = true then (if x6 = true then (burinref06_Nullable.l0 k x1 t202 true (wrap64 (x7 + 1)) x201000 x201001 x201002 x201003 x201004 x201005 x201006 x201007) else (burinref06_Nullable.l0 k x1 t202 t202 (wrap64 (x7 + 1)) x201000 x201001 x201002 x201003 x201004 x201005 x201006 x201007)) else (if x6 = true then (burinref06_Nullable.l0 k x1 false true (wrap64 (x7 + 1)) x201000 x201001 x201002 x201003 x201004 x201005 x201006 x201007) else (burinref06_Nullable.l0 k x1 false t202 (wrap64 (x7 + 1)) x201000 x201001 x201002 x201003 x201004 x201005 x201006 x201007)))) else (none)) else (if x201000 = 1 then (burinref06_Nullable.j1 k x5 x6 x201000 (x201000 == 1) x201000 x201001 x201002 x201003 x201004 x201005 x201006 x201007) else (burinref06_Nullable.j1 k x5 x6 x201000 (x201000 == 5) x201000 x201001 x201002 x201003 x201004 x201005 x201006 x201007))
def burinref06_Nullable.j1 : Nat → Bool → Bool → Int → Bool → Int → List (S103) → Int → ByteArray → Int → Int → Bool → List (S25) → Option (Bool)
  | 0, _, _, _, _, _, _, _, _, _, _, _, _ => none
  | k + 1, x5, x6, x35, x36, x201000, x201001, x201002, x201003, x201004, x201005, x201006, x201007 => if x36 = true then (some true) else (if x35 = 6 then (burinref06_Nullable.j2 k x5 x6 x35 (x35 == 6) x201000 x201001 x201002 x201003 x201004 x201005 x201006 x201007) else (burinref06_Nullable.j2 k x5 x6 x35 (x35 == 7) x201000 x201001 x201002 x201003 x201004 x201005 x201006 x201007))
def burinref06_Nullable.j2 : Nat → Bool → Bool → Int → Bool → Int → List (S103) → Int → ByteArray → Int → Int → Bool → List (S25) → Option (Bool)
  | 0, _, _, _, _, _, _, _, _, _, _, _, _ => none
  | k + 1, x5, x6, x35, x39, x201000, x201001, x201002, x201003, x201004, x201005, x201006, x201007 => if x39 = true then (some x5) else (if x35 = 8 then (some x6) else (if x35 = 9 then (if x201004 = 0 then (some true) else (some x5)) else (some false)))
def burinref06_Nullable.f : Nat → Int → List (S103) → Int → ByteArray → Int → Int → Bool → List (S25) → Int → Option (Bool)
  | 0, _, _, _, _, _, _, _, _, _ => none
  | k + 1, a0_0, l0_1, a0_2, a0_3, a0_4, a0_5, a0_6, l0_7, a1 => if a1 < 1 then (some false) else (burinref06_Nullable.l0 k a1 true false 0 a0_0 l0_1 a0_2 a0_3 a0_4 a0_5 a0_6 l0_7)
end
theorem burinref06_Nullable.mono_l : ∀ k, (∀ y0 y1 y2 y3 y4 y5 y6 y7 y8, LeO (burinref06_Nullable.f k y0 y1 y2 y3 y4 y5 y6 y7 y8) (burinref06_Nullable.f (k + 1) y0 y1 y2 y3 y4 y5 y6 y7 y8)) ∧ (∀ y0 y1 y2 y3 y4 y5 y6 y7 y8 y9 y10 y11, LeO (burinref06_Nullable.l0 k y0 y1 y2 y3 y4 y5 y6 y7 y8 y9 y10 y11) (burinref06_Nullable.l0 (k + 1) y0 y1 y2 y3 y4 y5 y6 y7 y8 y9 y10 y11)) ∧ (∀ y0 y1 y2 y3 y4 y5 y6 y7 y8 y9 y10 y11, LeO (burinref06_Nullable.j1 k y0 y1 y2 y3 y4 y5 y6 y7 y8 y9 y10 y11) (burinref06_Nullable.j1 (k + 1) y0 y1 y2 y3 y4 y5 y6 y7 y8 y9 y10 y11)) ∧ (∀ y0 y1 y2 y3 y4 y5 y6 y7 y8 y9 y10 y11, LeO (burinref06_Nullable.j2 k y0 y1 y2 y3 y4 y5 y6 y7 y8 y9 y10 y11) (burinref06_Nullable.j2 (k + 1) y0 y1 y2 y3 y4 y5 y6 y7 y8 y9 y10 y11))
  | 0 => ⟨fun _ _ _ _ _ _ _ _ _ r h => by simp [burinref06_Nullable.f] at h, fun _ _ _ _ _ _ _ _ _ _ _ _ r h => by simp [burinref06_Nullable.l0] at h, fun _ _ _ _ _ _ _ _ _ _ _ _ r h => by simp [burinref06_Nullable.j1] at h, fun _ _ _ _ _ _ _ _ _ _ _ _ r h => by simp [burinref06_Nullable.j2] at h⟩
  | k + 1 => by
    obtain ⟨ih0, ih1, ih2, ih3⟩ := burinref06_Nullable.mono_l k
    refine ⟨?_, ?_, ?_, ?_⟩
    · intro y0 y1 y2 y3 y4 y5 y6 y7 y8
      unfold burinref06_Nullable.f
      repeat' first
      | (with_reducible exact ih0 _ _ _ _ _ _ _ _ _)
      | (with_reducible exact ih1 _ _ _ _ _ _ _ _ _ _ _ _)
      | (with_reducible exact ih2 _ _ _ _ _ _ _ _ _ _ _ _)
      | (with_reducible exact ih3 _ _ _ _ _ _ _ _ _ _ _ _)
      | (with_reducible exact LeO.refl _)
      | (with_reducible exact LeO.none _)
      | (with_reducible refine LeO.ite ?_ ?_)
      | (with_reducible refine LeO.bind ?_ (fun _ => ?_))
      | exact ih0 _ _ _ _ _ _ _ _ _
      | exact ih1 _ _ _ _ _ _ _ _ _ _ _ _
      | exact ih2 _ _ _ _ _ _ _ _ _ _ _ _
      | exact ih3 _ _ _ _ _ _ _ _ _ _ _ _
      | exact LeO.none _
      | refine LeO.ite ?_ ?_
      | refine LeO.bind ?_ (fun _ => ?_)
    · intro y0 y1 y2 y3 y4 y5 y6 y7 y8 y9 y10 y11
      unfold burinref06_Nullable.l0
      repeat' first
      | (with_reducible exact ih0 _ _ _ _ _ _ _ _ _)
      | (with_reducible exact ih1 _ _ _ _ _ _ _ _ _ _ _ _)
      | (with_reducible exact ih2 _ _ _ _ _ _ _ _ _ _ _ _)
      | (with_reducible exact ih3 _ _ _ _ _ _ _ _ _ _ _ _)
      | (with_reducible exact LeO.refl _)
      | (with_reducible exact LeO.none _)
      | (with_reducible refine LeO.ite ?_ ?_)
      | (with_reducible refine LeO.bind ?_ (fun _ => ?_))
      | exact ih0 _ _ _ _ _ _ _ _ _
      | exact ih1 _ _ _ _ _ _ _ _ _ _ _ _
      | exact ih2 _ _ _ _ _ _ _ _ _ _ _ _
      | exact ih3 _ _ _ _ _ _ _ _ _ _ _ _
      | exact LeO.none _
      | refine LeO.ite ?_ ?_
      | refine LeO.bind ?_ (fun _ => ?_)
    · intro y0 y1 y2 y3 y4 y5 y6 y7 y8 y9 y10 y11
      unfold burinref06_Nullable.j1
      repeat' first
      | (with_reducible exact ih0 _ _ _ _ _ _ _ _ _)
      | (with_reducible exact ih1 _ _ _ _ _ _ _ _ _ _ _ _)
      | (with_reducible exact ih2 _ _ _ _ _ _ _ _ _ _ _ _)
      | (with_reducible exact ih3 _ _ _ _ _ _ _ _ _ _ _ _)
      | (with_reducible exact LeO.refl _)
      | (with_reducible exact LeO.none _)
      | (with_reducible refine LeO.ite ?_ ?_)
      | (with_reducible refine LeO.bind ?_ (fun _ => ?_))
      | exact ih0 _ _ _ _ _ _ _ _ _
      | exact ih1 _ _ _ _ _ _ _ _ _ _ _ _
      | exact ih2 _ _ _ _ _ _ _ _ _ _ _ _
      | exact ih3 _ _ _ _ _ _ _ _ _ _ _ _
      | exact LeO.none _
      | refine LeO.ite ?_ ?_
      | refine LeO.bind ?_ (fun _ => ?_)
    · intro y0 y1 y2 y3 y4 y5 y6 y7 y8 y9 y10 y11
      unfold burinref06_Nullable.j2
      repeat' first
      | (with_reducible exact ih0 _ _ _ _ _ _ _ _ _)
      | (with_reducible exact ih1 _ _ _ _ _ _ _ _ _ _ _ _)
      | (with_reducible exact ih2 _ _ _ _ _ _ _ _ _ _ _ _)
      | (with_reducible exact ih3 _ _ _ _ _ _ _ _ _ _ _ _)
      | (with_reducible exact LeO.refl _)
      | (with_reducible exact LeO.none _)
      | (with_reducible refine LeO.ite ?_ ?_)
      | (with_reducible refine LeO.bind ?_ (fun _ => ?_))
      | exact ih0 _ _ _ _ _ _ _ _ _
      | exact ih1 _ _ _ _ _ _ _ _ _ _ _ _
      | exact ih2 _ _ _ _ _ _ _ _ _ _ _ _
      | exact ih3 _ _ _ _ _ _ _ _ _ _ _ _
      | exact LeO.none _
      | refine LeO.ite ?_ ?_
      | refine LeO.bind ?_ (fun _ => ?_)
theorem burinref06_Nullable.mono : ∀ a0 a1 a2 a3 a4 a5 a6 a7 a8 k, LeO (burinref06_Nullable.f k a0 a1 a2 a3 a4 a5 a6 a7 a8) (burinref06_Nullable.f (k + 1) a0 a1 a2 a3 a4 a5 a6 a7 a8) := by
  intro a0 a1 a2 a3 a4 a5 a6 a7 a8 k
  obtain ⟨ih0, ih1, ih2, ih3⟩ := burinref06_Nullable.mono_l k
  exact ih0 a0 a1 a2 a3 a4 a5 a6 a7 a8
set_option maxHeartbeats 8000000 in
set_option maxRecDepth 100000 in
theorem burinref06_Nullable.calls (k : Nat) : ∀ (a0_0 : Int) (A0_1 : Option Addr) (c0_1 : Nat) (l0_1 : List (S103)) (a0_2 : Int) (a0_3 : ByteArray) (a0_4 : Int) (a0_5 : Int) (a0_6 : Bool) (A0_7 : Option Addr) (c0_7 : Nat) (l0_7 : List (S25)) (a1 : Int) (r : Bool) (w : World) (hr0_1 : Kd.C k103 w A0_1 l0_1.length l0_1) (hc0_1 : l0_1.length ≤ c0_1) (hr0_7 : Kd.C k25 w A0_7 l0_7.length l0_7) (hc0_7 : l0_7.length ≤ c0_7) (h : burinref06_Nullable.f k a0_0 l0_1 a0_2 a0_3 a0_4 a0_5 a0_6 l0_7 a1 = some r),
    Calls Try.prog 47 #[.agg #[.int .i64 a0_0, .slice A0_1 l0_1.length c0_1, .int .i64 a0_2, .string a0_3, .int .i64 a0_4, .int .i64 a0_5, .bool a0_6, .slice A0_7 l0_7.length c0_7], .int .i64 a1] w fun e w' => e = .returned (.bool r) ∧ Below w.heap.size w w' := by
  induction k using Nat.strongRecOn with
  | _ k ih =>
  intro a0_0 A0_1 c0_1 l0_1 a0_2 a0_3 a0_4 a0_5 a0_6 A0_7 c0_7 l0_7 a1 r w hr0_1 hc0_1 hr0_7 hc0_7 h
  cases k with
  | zero => exact absurd h (by simp [burinref06_Nullable.f])
  | succ k =>
  simp only [burinref06_Nullable.f] at h
  have hu25 := Try.underlying25
  have HR0_1 := Aside0.mk hr0_1
  have HC0_1 := Aside0.mk hc0_1
  clear hr0_1 hc0_1
  have HR0_7 := Aside0.mk hr0_7
  have HC0_7 := Aside0.mk hc0_7
  clear hr0_7 hc0_7
  have HB := Aside0.mk (Below.refl w.heap.size w)
  have H : (if a1 < 1 then (some false) else (burinref06_Nullable.l0 k a1 true false 0 a0_0 l0_1 a0_2 a0_3 a0_4 a0_5 a0_6 l0_7)) = some r := h
  clear h
  by_cases c3 : a1 < 1
  · rw [if_pos c3] at H
    have c3b0 : decide (a1 < 1) = true := decide_eq_true c3
    clear c3
    obtain rfl := Option.some.inj H
    go_enter Try.func47, Try.ntmps47
    go_wp2_with (first | ((with_reducible refine gate_dst (N := 2) rfl ?_); refine box_event ?hg (N := 2) ?hd (cs := #[.int .i64 a0_0, .slice A0_1 l0_1.length c0_1, .int .i64 a0_2, .string a0_3, .int .i64 a0_4, .int .i64 a0_5, .bool a0_6, .slice A0_7 l0_7.length c0_7]) (t := 25) ?hr ?_; (case hd => rfl); (case hg => rfl); (case hr => first | (go_simp; done) | (go_simp; rfl)); intro gb200 hg w4 hbox hb; have n0_ := Aside0.mk (below_step (by repeat (first | (with_reducible first | exact HB.out | apply below_alloc | apply pw_below_drewN | apply below_drew1) | exact HB.out)) hb); have n1_ := Aside0.mk (hbox); have n2_ := Aside0.mk ((by rw [hg]; exact (below_size (by repeat (first | (with_reducible first | exact HB.out | apply below_alloc | apply pw_below_drewN | apply below_drew1) | exact HB.out))) : w.heap.size ≤ gb200)); have n3_ := Aside0.mk ((by rw [hg]; exact (below_size (by repeat (first | (with_reducible first | exact HB.out | apply below_alloc | apply pw_below_drewN | apply below_drew1) | exact HB.out))) : w.heap.size ≤ gb200)); clear HB; have HB := n0_; have BK200 := n1_; have GW200 := n2_; have GE200 := n3_; clear n0_ n1_ n2_ n3_; clear hb hbox hg))
    go_ret
    exact ⟨by first | rfl | (simp [errW_none, errW_some] <;> rfl) | (simp [*, errW_none, errW_some] <;> rfl), by repeat (first | (with_reducible first | exact HB.out | apply below_alloc | apply pw_below_drewN | apply below_drew1 | refine below_set ?_ GE200.out) | exact HB.out)⟩
  · rw [if_neg c3] at H
    have c3b0 : decide (a1 < 1) = false := decide_eq_false c3
    clear c3
    have H' := Aside0.mk H
    clear H
    go_enter Try.func47, Try.ntmps47
    go_wp2_with (first | ((with_reducible refine gate_dst (N := 2) rfl ?_); refine box_event ?hg (N := 2) ?hd (cs := #[.int .i64 a0_0, .slice A0_1 l0_1.length c0_1, .int .i64 a0_2, .string a0_3, .int .i64 a0_4, .int .i64 a0_5, .bool a0_6, .slice A0_7 l0_7.length c0_7]) (t := 25) ?hr ?_; (case hd => rfl); (case hg => rfl); (case hr => first | (go_simp; done) | (go_simp; rfl)); intro gb200 hg w5 hbox hb; have n0_ := Aside0.mk (below_step (by repeat (first | (with_reducible first | exact HB.out | apply below_alloc | apply pw_below_drewN | apply below_drew1) | exact HB.out)) hb); have n1_ := Aside0.mk (hbox); have n2_ := Aside0.mk ((by rw [hg]; exact (below_size (by repeat (first | (with_reducible first | exact HB.out | apply below_alloc | apply pw_below_drewN | apply below_drew1) | exact HB.out))) : w.heap.size ≤ gb200)); have n3_ := Aside0.mk ((by rw [hg]; exact (below_size (by repeat (first | (with_reducible first | exact HB.out | apply below_alloc | apply pw_below_drewN | apply below_drew1) | exact HB.out))) : w.heap.size ≤ gb200)); clear HB; have HB := n0_; have BK200 := n1_; have GW200 := n2_; have GE200 := n3_; clear n0_ n1_ n2_ n3_; clear hb hbox hg))
    go_loopg [5, 6, 7] k (fun kq v5 v6 v7 w' => ∃ (x5_1 : Bool) (x6_1 : Bool) (x7_1 : Int), v5 = .bool x5_1 ∧ v6 = .bool x6_1 ∧ v7 = .int .i64 x7_1 ∧ Aside0 (burinref06_Nullable.l0 kq a1 x5_1 x6_1 x7_1 a0_0 l0_1 a0_2 a0_3 a0_4 a0_5 a0_6 l0_7 = some r) ∧ Aside0 (kq ≤ k) ∧ Aside0 (w'.heap[gb200]? = some (.cells #[.int .i64 a0_0, (.slice A0_1 l0_1.length c0_1), .int .i64 a0_2, .string a0_3, .int .i64 a0_4, .int .i64 a0_5, .bool a0_6, (.slice A0_7 l0_7.length c0_7)] 25 (0, 0))) ∧ Aside0 (Below w.heap.size w w'))
    case atStart => exact ⟨(true), (false), (0), (by first | rfl | (simp; done) | (simp [*]; done)), (by first | rfl | (simp; done) | (simp [*]; done)), (by first | rfl | (simp; done) | (simp [*]; done)), H', ⟨Nat.le_refl _⟩, ⟨by (with_reducible repeat (first | refine blk_drewN ?_ _ | refine blk_drew ?_ | refine blk_alloc ?_ _)); exact BK200.out⟩, ⟨by repeat (first | (with_reducible first | exact HB.out | apply below_alloc | apply pw_below_drewN | apply below_drew1 | refine below_set ?_ GE200.out) | exact HB.out)⟩⟩
    case round =>
      clear H'
      try clear p2
      try clear c3
      try clear c3b0
      try clear c4
      obtain ⟨x5_1, x6_1, x7_1, rfl, rfl, rfl, HA, HK1, BK200, HB⟩ := hrel
      cases gk with
      | zero => exact absurd HA.out (by simp [burinref06_Nullable.l0])
      | succ k1 =>
        have H := HA.out
        clear HA
        simp only [burinref06_Nullable.l0] at H
        by_cases c6 : x7_1 < (l0_7.length : Int)
        · rw [if_pos c6] at H
          have c6b0 : decide (x7_1 < (l0_7.length : Int)) = true := decide_eq_true c6
          clear c6
          by_cases c7 : 0 ≤ x7_1
          · rw [if_pos c7] at H
            have c7b0 : decide (0 ≤ x7_1) = true := decide_eq_true c7
            clear c7
            replace H := Option.bind_eq_some_iff.mp H
            obtain ⟨t202, A80, H⟩ := H
            replace H : (if x5_1 = true then (if x6_1 = true then (burinref06_Nullable.l0 k1 a1 t202 true (wrap64 (x7_1 + 1)) a0_0 l0_1 a0_2 a0_3 a0_4 a0_5 a0_6 l0_7) else (burinref06_Nullable.l0 k1 a1 t202 t202 (wrap64 (x7_1 + 1)) a0_0 l0_1 a0_2 a0_3 a0_4 a0_5 a0_6 l0_7)) else (if x6_1 = true then (burinref06_Nullable.l0 k1 a1 false true (wrap64 (x7_1 + 1)) a0_0 l0_1 a0_2 a0_3 a0_4 a0_5 a0_6 l0_7) else (burinref06_Nullable.l0 k1 a1 false t202 (wrap64 (x7_1 + 1)) a0_0 l0_1 a0_2 a0_3 a0_4 a0_5 a0_6 l0_7))) = some r := H
            have A8 := Aside0.mk A80
            clear A80
            by_cases c9 : x5_1 = true
            · subst c9
              have H1 : (if x6_1 = true then (burinref06_Nullable.l0 k1 a1 t202 true (wrap64 (x7_1 + 1)) a0_0 l0_1 a0_2 a0_3 a0_4 a0_5 a0_6 l0_7) else (burinref06_Nullable.l0 k1 a1 t202 t202 (wrap64 (x7_1 + 1)) a0_0 l0_1 a0_2 a0_3 a0_4 a0_5 a0_6 l0_7)) = some r := by rw [if_pos rfl] at H; exact H
              clear H
              have H := H1
              clear H1
              by_cases c10 : x6_1 = true
              · subst c10
                have H1 : (burinref06_Nullable.l0 k1 a1 t202 true (wrap64 (x7_1 + 1)) a0_0 l0_1 a0_2 a0_3 a0_4 a0_5 a0_6 l0_7) = some r := by rw [if_pos rfl] at H; exact H
                clear H
                have H := H1
                clear H1
                have H' := Aside0.mk H
                clear H
                have hcz11_0 : wr.cell? ⟨gb200, 0, none⟩ = some (.int .i64 a0_0) := (blk_cell BK200.out 0).trans rfl
                have hcz11_1 : wr.cell? ⟨gb200, 1, none⟩ = some (.slice A0_1 l0_1.length c0_1) := (blk_cell BK200.out 1).trans rfl
                have hcz11_2 : wr.cell? ⟨gb200, 2, none⟩ = some (.int .i64 a0_2) := (blk_cell BK200.out 2).trans rfl
                have hcz11_3 : wr.cell? ⟨gb200, 3, none⟩ = some (.string a0_3) := (blk_cell BK200.out 3).trans rfl
                have hcz11_4 : wr.cell? ⟨gb200, 4, none⟩ = some (.int .i64 a0_4) := (blk_cell BK200.out 4).trans rfl
                have hcz11_5 : wr.cell? ⟨gb200, 5, none⟩ = some (.int .i64 a0_5) := (blk_cell BK200.out 5).trans rfl
                have hcz11_6 : wr.cell? ⟨gb200, 6, none⟩ = some (.bool a0_6) := (blk_cell BK200.out 6).trans rfl
                have hcz11_7 : wr.cell? ⟨gb200, 7, none⟩ = some (.slice A0_7 l0_7.length c0_7) := (blk_cell BK200.out 7).trans rfl
                have hfz11_0 := blk_frozen BK200.out 0
                have hfz11_1 := blk_frozen BK200.out 1
                have hfz11_2 := blk_frozen BK200.out 2
                have hfz11_3 := blk_frozen BK200.out 3
                have hfz11_4 := blk_frozen BK200.out 4
                have hfz11_5 := blk_frozen BK200.out 5
                have hfz11_6 := blk_frozen BK200.out 6
                have hfz11_7 := blk_frozen BK200.out 7
                have p201 : 0 ≤ (x7_1 : Int) := of_decide_eq_true (by first | (with_reducible assumption) | assumption)
                have q201 : x7_1 < (l0_7.length : Int) := of_decide_eq_true (by first | (with_reducible assumption) | assumption)
                obtain ⟨ad201, A201_1, c201_1, A201_7, c201_7, e201, hx201_0, hx201_1, hx201_2, hx201_3, hx201_4, hx201_5, hx201_6, hx201_7, hl201_1, hi201_1, hl201_7, hi201_7⟩ := at_T25 HR0_7.out x7_1 p201 q201
                cases e201
                replace hx201_0 := (HB.out.cell (World.block_lt_of_cell? w _ hx201_0)).trans hx201_0
                replace hx201_1 := (HB.out.cell (World.block_lt_of_cell? w _ hx201_1)).trans hx201_1
                replace hx201_2 := (HB.out.cell (World.block_lt_of_cell? w _ hx201_2)).trans hx201_2
                replace hx201_3 := (HB.out.cell (World.block_lt_of_cell? w _ hx201_3)).trans hx201_3
                replace hx201_4 := (HB.out.cell (World.block_lt_of_cell? w _ hx201_4)).trans hx201_4
                replace hx201_5 := (HB.out.cell (World.block_lt_of_cell? w _ hx201_5)).trans hx201_5
                replace hx201_6 := (HB.out.cell (World.block_lt_of_cell? w _ hx201_6)).trans hx201_6
                replace hx201_7 := (HB.out.cell (World.block_lt_of_cell? w _ hx201_7)).trans hx201_7
                have HR201_1 := Aside0.mk hi201_1
                have HC201_1 := Aside0.mk hl201_1
                clear hi201_1 hl201_1
                have HR201_7 := Aside0.mk hi201_7
                have HC201_7 := Aside0.mk hl201_7
                clear hi201_7 hl201_7
                replace p201 := eq_true p201
                replace q201 := eq_true q201
                go_wp2_with (first | ((with_reducible refine gate_callee (f := 47) rfl ?_); refine goesL_ (some 25) rfl rfl Try.func47 (by kernel_rfl) rfl #[.agg #[.int .i64 ((rd_T25 l0_7 x7_1).f0), .slice A201_1 ((rd_T25 l0_7 x7_1).f1).length c201_1, .int .i64 ((rd_T25 l0_7 x7_1).f2), .string ((rd_T25 l0_7 x7_1).f3), .int .i64 ((rd_T25 l0_7 x7_1).f4), .int .i64 ((rd_T25 l0_7 x7_1).f5), .bool ((rd_T25 l0_7 x7_1).f6), .slice A201_7 ((rd_T25 l0_7 x7_1).f7).length c201_7], .int .i64 (wrap64 (a1 - 1))] rfl (by (try simp only [List.map_toArray, List.map_cons, List.map_nil]); first | done | rfl | (simp only [List.length_drop, List.length_take]; rfl)) ?_; (with_reducible refine (ih k1 (by have := HK1.out; omega) ((rd_T25 l0_7 x7_1).f0) _ _ ((rd_T25 l0_7 x7_1).f1) ((rd_T25 l0_7 x7_1).f2) ((rd_T25 l0_7 x7_1).f3) ((rd_T25 l0_7 x7_1).f4) ((rd_T25 l0_7 x7_1).f5) ((rd_T25 l0_7 x7_1).f6) _ _ ((rd_T25 l0_7 x7_1).f7) (wrap64 (a1 - 1)) t202 _ ?side1 ?side2 ?side3 ?side4 A8.out).mono ?_); (case side1 => repeat (first | exact (Kd.C_below HR201_1.out HB.out) | (with_reducible refine Kd.C_alloc ?_ _) | (with_reducible refine Kd.C_drewN ?_ _) | (with_reducible refine Kd.C_drew ?_))); (case side2 => exact HC201_1.out); (case side3 => repeat (first | exact (Kd.C_below HR201_7.out HB.out) | (with_reducible refine Kd.C_alloc ?_ _) | (with_reducible refine Kd.C_drewN ?_ _) | (with_reducible refine Kd.C_drew ?_))); (case side4 => exact HC201_7.out); rintro e w12 ⟨rfl, hb⟩; refine ⟨_, rfl, ?_⟩; have n0_ := Aside0.mk (blk_below (g := gb200) (o := .cells #[.int .i64 a0_0, .slice A0_1 l0_1.length c0_1, .int .i64 a0_2, .string a0_3, .int .i64 a0_4, .int .i64 a0_5, .bool a0_6, .slice (some ad201) l0_7.length c0_7] 25 (0, 0)) (by (with_reducible repeat (first | refine blk_drewN ?_ _ | refine blk_drew ?_ | refine blk_alloc ?_ _)); exact BK200.out) hb); have n1_ := Aside0.mk (below_step (by repeat (first | (with_reducible first | exact HB.out | apply below_alloc | apply pw_below_drewN | apply below_drew1 | refine below_set ?_ GE200.out) | exact HB.out)) hb); clear BK200; clear HB; have BK200 := n0_; have HB := n1_; clear n0_ n1_; (try clear hb); (try clear hb2); (try clear hk); (try clear hi)))
                go_roundg k1
                case measure => have := HK1.out; omega
                case rel => exact ⟨(t202), (true), (wrap64 (x7_1 + 1)), (by first | rfl | (simp; done) | (simp [*]; done)), (by first | rfl | (simp; done) | (simp [*]; done)), (by first | rfl | (simp; done) | (simp [*]; done)), H', ⟨by have := HK1.out; omega⟩, ⟨by (with_reducible repeat (first | refine blk_drewN ?_ _ | refine blk_drew ?_ | refine blk_alloc ?_ _)); exact BK200.out⟩, ⟨by repeat (first | (with_reducible first | exact HB.out | apply below_alloc | apply pw_below_drewN | apply below_drew1 | refine below_set ?_ GE200.out) | exact HB.out)⟩⟩
              · replace c10 := Bool.eq_false_iff.mpr c10
                subst c10
                have H1 : (burinref06_Nullable.l0 k1 a1 t202 t202 (wrap64 (x7_1 + 1)) a0_0 l0_1 a0_2 a0_3 a0_4 a0_5 a0_6 l0_7) = some r := by rw [if_neg (show ¬ (false = true) by decide)] at H; exact H
                clear H
                have H := H1
                clear H1
                have H' := Aside0.mk H
                clear H
                have hcz13_0 : wr.cell? ⟨gb200, 0, none⟩ = some (.int .i64 a0_0) := (blk_cell BK200.out 0).trans rfl
                have hcz13_1 : wr.cell? ⟨gb200, 1, none⟩ = some (.slice A0_1 l0_1.length c0_1) := (blk_cell BK200.out 1).trans rfl
                have hcz13_2 : wr.cell? ⟨gb200, 2, none⟩ = some (.int .i64 a0_2) := (blk_cell BK200.out 2).trans rfl
                have hcz13_3 : wr.cell? ⟨gb200, 3, none⟩ = some (.string a0_3) := (blk_cell BK200.out 3).trans rfl
                have hcz13_4 : wr.cell? ⟨gb200, 4, none⟩ = some (.int .i64 a0_4) := (blk_cell BK200.out 4).trans rfl
                have hcz13_5 : wr.cell? ⟨gb200, 5, none⟩ = some (.int .i64 a0_5) := (blk_cell BK200.out 5).trans rfl
                have hcz13_6 : wr.cell? ⟨gb200, 6, none⟩ = some (.bool a0_6) := (blk_cell BK200.out 6).trans rfl
                have hcz13_7 : wr.cell? ⟨gb200, 7, none⟩ = some (.slice A0_7 l0_7.length c0_7) := (blk_cell BK200.out 7).trans rfl
                have hfz13_0 := blk_frozen BK200.out 0
                have hfz13_1 := blk_frozen BK200.out 1
                have hfz13_2 := blk_frozen BK200.out 2
                have hfz13_3 := blk_frozen BK200.out 3
                have hfz13_4 := blk_frozen BK200.out 4
                have hfz13_5 := blk_frozen BK200.out 5
                have hfz13_6 := blk_frozen BK200.out 6
                have hfz13_7 := blk_frozen BK200.out 7
                have p201 : 0 ≤ (x7_1 : Int) := of_decide_eq_true (by first | (with_reducible assumption) | assumption)
                have q201 : x7_1 < (l0_7.length : Int) := of_decide_eq_true (by first | (with_reducible assumption) | assumption)
                obtain ⟨ad201, A201_1, c201_1, A201_7, c201_7, e201, hx201_0, hx201_1, hx201_2, hx201_3, hx201_4, hx201_5, hx201_6, hx201_7, hl201_1, hi201_1, hl201_7, hi201_7⟩ := at_T25 HR0_7.out x7_1 p201 q201
                cases e201
                replace hx201_0 := (HB.out.cell (World.block_lt_of_cell? w _ hx201_0)).trans hx201_0
                replace hx201_1 := (HB.out.cell (World.block_lt_of_cell? w _ hx201_1)).trans hx201_1
                replace hx201_2 := (HB.out.cell (World.block_lt_of_cell? w _ hx201_2)).trans hx201_2
                replace hx201_3 := (HB.out.cell (World.block_lt_of_cell? w _ hx201_3)).trans hx201_3
                replace hx201_4 := (HB.out.cell (World.block_lt_of_cell? w _ hx201_4)).trans hx201_4
                replace hx201_5 := (HB.out.cell (World.block_lt_of_cell? w _ hx201_5)).trans hx201_5
                replace hx201_6 := (HB.out.cell (World.block_lt_of_cell? w _ hx201_6)).trans hx201_6
                replace hx201_7 := (HB.out.cell (World.block_lt_of_cell? w _ hx201_7)).trans hx201_7
                have HR201_1 := Aside0.mk hi201_1
                have HC201_1 := Aside0.mk hl201_1
                clear hi201_1 hl201_1
                have HR201_7 := Aside0.mk hi201_7
                have HC201_7 := Aside0.mk hl201_7
                clear hi201_7 hl201_7
                replace p201 := eq_true p201
                replace q201 := eq_true q201
                go_wp2_with (first | ((with_reducible refine gate_callee (f := 47) rfl ?_); refine goesL_ (some 25) rfl rfl Try.func47 (by kernel_rfl) rfl #[.agg #[.int .i64 ((rd_T25 l0_7 x7_1).f0), .slice A201_1 ((rd_T25 l0_7 x7_1).f1).length c201_1, .int .i64 ((rd_T25 l0_7 x7_1).f2), .string ((rd_T25 l0_7 x7_1).f3), .int .i64 ((rd_T25 l0_7 x7_1).f4), .int .i64 ((rd_T25 l0_7 x7_1).f5), .bool ((rd_T25 l0_7 x7_1).f6), .slice A201_7 ((rd_T25 l0_7 x7_1).f7).length c201_7], .int .i64 (wrap64 (a1 - 1))] rfl (by (try simp only [List.map_toArray, List.map_cons, List.map_nil]); first | done | rfl | (simp only [List.length_drop, List.length_take]; rfl)) ?_; (with_reducible refine (ih k1 (by have := HK1.out; omega) ((rd_T25 l0_7 x7_1).f0) _ _ ((rd_T25 l0_7 x7_1).f1) ((rd_T25 l0_7 x7_1).f2) ((rd_T25 l0_7 x7_1).f3) ((rd_T25 l0_7 x7_1).f4) ((rd_T25 l0_7 x7_1).f5) ((rd_T25 l0_7 x7_1).f6) _ _ ((rd_T25 l0_7 x7_1).f7) (wrap64 (a1 - 1)) t202 _ ?side1 ?side2 ?side3 ?side4 A8.out).mono ?_); (case side1 => repeat (first | exact (Kd.C_below HR201_1.out HB.out) | (with_reducible refine Kd.C_alloc ?_ _) | (with_reducible refine Kd.C_drewN ?_ _) | (with_reducible refine Kd.C_drew ?_))); (case side2 => exact HC201_1.out); (case side3 => repeat (first | exact (Kd.C_below HR201_7.out HB.out) | (with_reducible refine Kd.C_alloc ?_ _) | (with_reducible refine Kd.C_drewN ?_ _) | (with_reducible refine Kd.C_drew ?_))); (case side4 => exact HC201_7.out); rintro e w14 ⟨rfl, hb⟩; refine ⟨_, rfl, ?_⟩; have n0_ := Aside0.mk (blk_below (g := gb200) (o := .cells #[.int .i64 a0_0, .slice A0_1 l0_1.length c0_1, .int .i64 a0_2, .string a0_3, .int .i64 a0_4, .int .i64 a0_5, .bool a0_6, .slice (some ad201) l0_7.length c0_7] 25 (0, 0)) (by (with_reducible repeat (first | refine blk_drewN ?_ _ | refine blk_drew ?_ | refine blk_alloc ?_ _)); exact BK200.out) hb); have n1_ := Aside0.mk (below_step (by repeat (first | (with_reducible first | exact HB.out | apply below_alloc | apply pw_below_drewN | apply below_drew1 | refine below_set ?_ GE200.out) | exact HB.out)) hb); clear BK200; clear HB; have BK200 := n0_; have HB := n1_; clear n0_ n1_; (try clear hb); (try clear hb2); (try clear hk); (try clear hi)))
                go_roundg k1
                case measure => have := HK1.out; omega
                case rel => exact ⟨(t202), (t202), (wrap64 (x7_1 + 1)), (by first | rfl | (simp; done) | (simp [*]; done)), (by first | rfl | (simp; done) | (simp [*]; done)), (by first | rfl | (simp; done) | (simp [*]; done)), H', ⟨by have := HK1.out; omega⟩, ⟨by (with_reducible repeat (first | refine blk_drewN ?_ _ | refine blk_drew ?_ | refine blk_alloc ?_ _)); exact BK200.out⟩, ⟨by repeat (first | (with_reducible first | exact HB.out | apply below_alloc | apply pw_below_drewN | apply below_drew1 | refine below_set ?_ GE200.out) | exact HB.out)⟩⟩
            · replace c9 := Bool.eq_false_iff.mpr c9
              subst c9
              have H1 : (if x6_1 = true then (burinref06_Nullable.l0 k1 a1 false true (wrap64 (x7_1 + 1)) a0_0 l0_1 a0_2 a0_3 a0_4 a0_5 a0_6 l0_7) else (burinref06_Nullable.l0 k1 a1 false t202 (wrap64 (x7_1 + 1)) a0_0 l0_1 a0_2 a0_3 a0_4 a0_5 a0_6 l0_7)) = some r := by rw [if_neg (show ¬ (false = true) by decide)] at H; exact H
              clear H
              have H := H1
              clear H1
              by_cases c15 : x6_1 = true
              · subst c15
                have H1 : (burinref06_Nullable.l0 k1 a1 false true (wrap64 (x7_1 + 1)) a0_0 l0_1 a0_2 a0_3 a0_4 a0_5 a0_6 l0_7) = some r := by rw [if_pos rfl] at H; exact H
                clear H
                have H := H1
                clear H1
                have H' := Aside0.mk H
                clear H
                have hcz16_0 : wr.cell? ⟨gb200, 0, none⟩ = some (.int .i64 a0_0) := (blk_cell BK200.out 0).trans rfl
                have hcz16_1 : wr.cell? ⟨gb200, 1, none⟩ = some (.slice A0_1 l0_1.length c0_1) := (blk_cell BK200.out 1).trans rfl
                have hcz16_2 : wr.cell? ⟨gb200, 2, none⟩ = some (.int .i64 a0_2) := (blk_cell BK200.out 2).trans rfl
                have hcz16_3 : wr.cell? ⟨gb200, 3, none⟩ = some (.string a0_3) := (blk_cell BK200.out 3).trans rfl
                have hcz16_4 : wr.cell? ⟨gb200, 4, none⟩ = some (.int .i64 a0_4) := (blk_cell BK200.out 4).trans rfl
                have hcz16_5 : wr.cell? ⟨gb200, 5, none⟩ = some (.int .i64 a0_5) := (blk_cell BK200.out 5).trans rfl
                have hcz16_6 : wr.cell? ⟨gb200, 6, none⟩ = some (.bool a0_6) := (blk_cell BK200.out 6).trans rfl
                have hcz16_7 : wr.cell? ⟨gb200, 7, none⟩ = some (.slice A0_7 l0_7.length c0_7) := (blk_cell BK200.out 7).trans rfl
                have hfz16_0 := blk_frozen BK200.out 0
                have hfz16_1 := blk_frozen BK200.out 1
                have hfz16_2 := blk_frozen BK200.out 2
                have hfz16_3 := blk_frozen BK200.out 3
                have hfz16_4 := blk_frozen BK200.out 4
                have hfz16_5 := blk_frozen BK200.out 5
                have hfz16_6 := blk_frozen BK200.out 6
                have hfz16_7 := blk_frozen BK200.out 7
                have p201 : 0 ≤ (x7_1 : Int) := of_decide_eq_true (by first | (with_reducible assumption) | assumption)
                have q201 : x7_1 < (l0_7.length : Int) := of_decide_eq_true (by first | (with_reducible assumption) | assumption)
                obtain ⟨ad201, A201_1, c201_1, A201_7, c201_7, e201, hx201_0, hx201_1, hx201_2, hx201_3, hx201_4, hx201_5, hx201_6, hx201_7, hl201_1, hi201_1, hl201_7, hi201_7⟩ := at_T25 HR0_7.out x7_1 p201 q201
                cases e201
                replace hx201_0 := (HB.out.cell (World.block_lt_of_cell? w _ hx201_0)).trans hx201_0
                replace hx201_1 := (HB.out.cell (World.block_lt_of_cell? w _ hx201_1)).trans hx201_1
                replace hx201_2 := (HB.out.cell (World.block_lt_of_cell? w _ hx201_2)).trans hx201_2
                replace hx201_3 := (HB.out.cell (World.block_lt_of_cell? w _ hx201_3)).trans hx201_3
                replace hx201_4 := (HB.out.cell (World.block_lt_of_cell? w _ hx201_4)).trans hx201_4
                replace hx201_5 := (HB.out.cell (World.block_lt_of_cell? w _ hx201_5)).trans hx201_5
                replace hx201_6 := (HB.out.cell (World.block_lt_of_cell? w _ hx201_6)).trans hx201_6
                replace hx201_7 := (HB.out.cell (World.block_lt_of_cell? w _ hx201_7)).trans hx201_7
                have HR201_1 := Aside0.mk hi201_1
                have HC201_1 := Aside0.mk hl201_1
                clear hi201_1 hl201_1
                have HR201_7 := Aside0.mk hi201_7
                have HC201_7 := Aside0.mk hl201_7
                clear hi201_7 hl201_7
                replace p201 := eq_true p201
                replace q201 := eq_true q201
                go_wp2_with (first | ((with_reducible refine gate_callee (f := 47) rfl ?_); refine goesL_ (some 25) rfl rfl Try.func47 (by kernel_rfl) rfl #[.agg #[.int .i64 ((rd_T25 l0_7 x7_1).f0), .slice A201_1 ((rd_T25 l0_7 x7_1).f1).length c201_1, .int .i64 ((rd_T25 l0_7 x7_1).f2), .string ((rd_T25 l0_7 x7_1).f3), .int .i64 ((rd_T25 l0_7 x7_1).f4), .int .i64 ((rd_T25 l0_7 x7_1).f5), .bool ((rd_T25 l0_7 x7_1).f6), .slice A201_7 ((rd_T25 l0_7 x7_1).f7).length c201_7], .int .i64 (wrap64 (a1 - 1))] rfl (by (try simp only [List.map_toArray, List.map_cons, List.map_nil]); first | done | rfl | (simp only [List.length_drop, List.length_take]; rfl)) ?_; (with_reducible refine (ih k1 (by have := HK1.out; omega) ((rd_T25 l0_7 x7_1).f0) _ _ ((rd_T25 l0_7 x7_1).f1) ((rd_T25 l0_7 x7_1).f2) ((rd_T25 l0_7 x7_1).f3) ((rd_T25 l0_7 x7_1).f4) ((rd_T25 l0_7 x7_1).f5) ((rd_T25 l0_7 x7_1).f6) _ _ ((rd_T25 l0_7 x7_1).f7) (wrap64 (a1 - 1)) t202 _ ?side1 ?side2 ?side3 ?side4 A8.out).mono ?_); (case side1 => repeat (first | exact (Kd.C_below HR201_1.out HB.out) | (with_reducible refine Kd.C_alloc ?_ _) | (with_reducible refine Kd.C_drewN ?_ _) | (with_reducible refine Kd.C_drew ?_))); (case side2 => exact HC201_1.out); (case side3 => repeat (first | exact (Kd.C_below HR201_7.out HB.out) | (with_reducible refine Kd.C_alloc ?_ _) | (with_reducible refine Kd.C_drewN ?_ _) | (with_reducible refine Kd.C_drew ?_))); (case side4 => exact HC201_7.out); rintro e w17 ⟨rfl, hb⟩; refine ⟨_, rfl, ?_⟩; have n0_ := Aside0.mk (blk_below (g := gb200) (o := .cells #[.int .i64 a0_0, .slice A0_1 l0_1.length c0_1, .int .i64 a0_2, .string a0_3, .int .i64 a0_4, .int .i64 a0_5, .bool a0_6, .slice (some ad201) l0_7.length c0_7] 25 (0, 0)) (by (with_reducible repeat (first | refine blk_drewN ?_ _ | refine blk_drew ?_ | refine blk_alloc ?_ _)); exact BK200.out) hb); have n1_ := Aside0.mk (below_step (by repeat (first | (with_reducible first | exact HB.out | apply below_alloc | apply pw_below_drewN | apply below_drew1 | refine below_set ?_ GE200.out) | exact HB.out)) hb); clear BK200; clear HB; have BK200 := n0_; have HB := n1_; clear n0_ n1_; (try clear hb); (try clear hb2); (try clear hk); (try clear hi)))
                go_roundg k1
                case measure => have := HK1.out; omega
                case rel => exact ⟨(false), (true), (wrap64 (x7_1 + 1)), (by first | rfl | (simp; done) | (simp [*]; done)), (by first | rfl | (simp; done) | (simp [*]; done)), (by first | rfl | (simp; done) | (simp [*]; done)), H', ⟨by have := HK1.out; omega⟩, ⟨by (with_reducible repeat (first | refine blk_drewN ?_ _ | refine blk_drew ?_ | refine blk_alloc ?_ _)); exact BK200.out⟩, ⟨by repeat (first | (with_reducible first | exact HB.out | apply below_alloc | apply pw_below_drewN | apply below_drew1 | refine below_set ?_ GE200.out) | exact HB.out)⟩⟩
              · replace c15 := Bool.eq_false_iff.mpr c15
                subst c15
                have H1 : (burinref06_Nullable.l0 k1 a1 false t202 (wrap64 (x7_1 + 1)) a0_0 l0_1 a0_2 a0_3 a0_4 a0_5 a0_6 l0_7) = some r := by rw [if_neg (show ¬ (false = true) by decide)] at H; exact H
                clear H
                have H := H1
                clear H1
                have H' := Aside0.mk H
                clear H
                have hcz18_0 : wr.cell? ⟨gb200, 0, none⟩ = some (.int .i64 a0_0) := (blk_cell BK200.out 0).trans rfl
                have hcz18_1 : wr.cell? ⟨gb200, 1, none⟩ = some (.slice A0_1 l0_1.length c0_1) := (blk_cell BK200.out 1).trans rfl
                have hcz18_2 : wr.cell? ⟨gb200, 2, none⟩ = some (.int .i64 a0_2) := (blk_cell BK200.out 2).trans rfl
                have hcz18_3 : wr.cell? ⟨gb200, 3, none⟩ = some (.string a0_3) := (blk_cell BK200.out 3).trans rfl
                have hcz18_4 : wr.cell? ⟨gb200, 4, none⟩ = some (.int .i64 a0_4) := (blk_cell BK200.out 4).trans rfl
                have hcz18_5 : wr.cell? ⟨gb200, 5, none⟩ = some (.int .i64 a0_5) := (blk_cell BK200.out 5).trans rfl
                have hcz18_6 : wr.cell? ⟨gb200, 6, none⟩ = some (.bool a0_6) := (blk_cell BK200.out 6).trans rfl
                have hcz18_7 : wr.cell? ⟨gb200, 7, none⟩ = some (.slice A0_7 l0_7.length c0_7) := (blk_cell BK200.out 7).trans rfl
                have hfz18_0 := blk_frozen BK200.out 0
                have hfz18_1 := blk_frozen BK200.out 1
                have hfz18_2 := blk_frozen BK200.out 2
                have hfz18_3 := blk_frozen BK200.out 3
                have hfz18_4 := blk_frozen BK200.out 4
                have hfz18_5 := blk_frozen BK200.out 5
                have hfz18_6 := blk_frozen BK200.out 6
                have hfz18_7 := blk_frozen BK200.out 7
                have p201 : 0 ≤ (x7_1 : Int) := of_decide_eq_true (by first | (with_reducible assumption) | assumption)
                have q201 : x7_1 < (l0_7.length : Int) := of_decide_eq_true (by first | (with_reducible assumption) | assumption)
                obtain ⟨ad201, A201_1, c201_1, A201_7, c201_7, e201, hx201_0, hx201_1, hx201_2, hx201_3, hx201_4, hx201_5, hx201_6, hx201_7, hl201_1, hi201_1, hl201_7, hi201_7⟩ := at_T25 HR0_7.out x7_1 p201 q201
                cases e201
                replace hx201_0 := (HB.out.cell (World.block_lt_of_cell? w _ hx201_0)).trans hx201_0
                replace hx201_1 := (HB.out.cell (World.block_lt_of_cell? w _ hx201_1)).trans hx201_1
                replace hx201_2 := (HB.out.cell (World.block_lt_of_cell? w _ hx201_2)).trans hx201_2
                replace hx201_3 := (HB.out.cell (World.block_lt_of_cell? w _ hx201_3)).trans hx201_3
                replace hx201_4 := (HB.out.cell (World.block_lt_of_cell? w _ hx201_4)).trans hx201_4
                replace hx201_5 := (HB.out.cell (World.block_lt_of_cell? w _ hx201_5)).trans hx201_5
                replace hx201_6 := (HB.out.cell (World.block_lt_of_cell? w _ hx201_6)).trans hx201_6
                replace hx201_7 := (HB.out.cell (World.block_lt_of_cell? w _ hx201_7)).trans hx201_7
                have HR201_1 := Aside0.mk hi201_1
                have HC201_1 := Aside0.mk hl201_1
                clear hi201_1 hl201_1
                have HR201_7 := Aside0.mk hi201_7
                have HC201_7 := Aside0.mk hl201_7
                clear hi201_7 hl201_7
                replace p201 := eq_true p201
                replace q201 := eq_true q201
                go_wp2_with (first | ((with_reducible refine gate_callee (f := 47) rfl ?_); refine goesL_ (some 25) rfl rfl Try.func47 (by kernel_rfl) rfl #[.agg #[.int .i64 ((rd_T25 l0_7 x7_1).f0), .slice A201_1 ((rd_T25 l0_7 x7_1).f1).length c201_1, .int .i64 ((rd_T25 l0_7 x7_1).f2), .string ((rd_T25 l0_7 x7_1).f3), .int .i64 ((rd_T25 l0_7 x7_1).f4), .int .i64 ((rd_T25 l0_7 x7_1).f5), .bool ((rd_T25 l0_7 x7_1).f6), .slice A201_7 ((rd_T25 l0_7 x7_1).f7).length c201_7], .int .i64 (wrap64 (a1 - 1))] rfl (by (try simp only [List.map_toArray, List.map_cons, List.map_nil]); first | done | rfl | (simp only [List.length_drop, List.length_take]; rfl)) ?_; (with_reducible refine (ih k1 (by have := HK1.out; omega) ((rd_T25 l0_7 x7_1).f0) _ _ ((rd_T25 l0_7 x7_1).f1) ((rd_T25 l0_7 x7_1).f2) ((rd_T25 l0_7 x7_1).f3) ((rd_T25 l0_7 x7_1).f4) ((rd_T25 l0_7 x7_1).f5) ((rd_T25 l0_7 x7_1).f6) _ _ ((rd_T25 l0_7 x7_1).f7) (wrap64 (a1 - 1)) t202 _ ?side1 ?side2 ?side3 ?side4 A8.out).mono ?_); (case side1 => repeat (first | exact (Kd.C_below HR201_1.out HB.out) | (with_reducible refine Kd.C_alloc ?_ _) | (with_reducible refine Kd.C_drewN ?_ _) | (with_reducible refine Kd.C_drew ?_))); (case side2 => exact HC201_1.out); (case side3 => repeat (first | exact (Kd.C_below HR201_7.out HB.out) | (with_reducible refine Kd.C_alloc ?_ _) | (with_reducible refine Kd.C_drewN ?_ _) | (with_reducible refine Kd.C_drew ?_))); (case side4 => exact HC201_7.out); rintro e w19 ⟨rfl, hb⟩; refine ⟨_, rfl, ?_⟩; have n0_ := Aside0.mk (blk_below (g := gb200) (o := .cells #[.int .i64 a0_0, .slice A0_1 l0_1.length c0_1, .int .i64 a0_2, .string a0_3, .int .i64 a0_4, .int .i64 a0_5, .bool a0_6, .slice (some ad201) l0_7.length c0_7] 25 (0, 0)) (by (with_reducible repeat (first | refine blk_drewN ?_ _ | refine blk_drew ?_ | refine blk_alloc ?_ _)); exact BK200.out) hb); have n1_ := Aside0.mk (below_step (by repeat (first | (with_reducible first | exact HB.out | apply below_alloc | apply pw_below_drewN | apply below_drew1 | refine below_set ?_ GE200.out) | exact HB.out)) hb); clear BK200; clear HB; have BK200 := n0_; have HB := n1_; clear n0_ n1_; (try clear hb); (try clear hb2); (try clear hk); (try clear hi)))
                go_roundg k1
                case measure => have := HK1.out; omega
                case rel => exact ⟨(false), (t202), (wrap64 (x7_1 + 1)), (by first | rfl | (simp; done) | (simp [*]; done)), (by first | rfl | (simp; done) | (simp [*]; done)), (by first | rfl | (simp; done) | (simp [*]; done)), H', ⟨by have := HK1.out; omega⟩, ⟨by (with_reducible repeat (first | refine blk_drewN ?_ _ | refine blk_drew ?_ | refine blk_alloc ?_ _)); exact BK200.out⟩, ⟨by repeat (first | (with_reducible first | exact HB.out | apply below_alloc | apply pw_below_drewN | apply below_drew1 | refine below_set ?_ GE200.out) | exact HB.out)⟩⟩
          · rw [if_neg c7] at H
            exact absurd H (by simp)
        · rw [if_neg c6] at H
          have c6b0 : decide (x7_1 < (l0_7.length : Int)) = false := decide_eq_false c6
          clear c6
          have HC20 := Aside0.mk H
          clear H
          have hcz21_0 : wr.cell? ⟨gb200, 0, none⟩ = some (.int .i64 a0_0) := (blk_cell BK200.out 0).trans rfl
          have hcz21_1 : wr.cell? ⟨gb200, 1, none⟩ = some (.slice A0_1 l0_1.length c0_1) := (blk_cell BK200.out 1).trans rfl
          have hcz21_2 : wr.cell? ⟨gb200, 2, none⟩ = some (.int .i64 a0_2) := (blk_cell BK200.out 2).trans rfl
          have hcz21_3 : wr.cell? ⟨gb200, 3, none⟩ = some (.string a0_3) := (blk_cell BK200.out 3).trans rfl
          have hcz21_4 : wr.cell? ⟨gb200, 4, none⟩ = some (.int .i64 a0_4) := (blk_cell BK200.out 4).trans rfl
          have hcz21_5 : wr.cell? ⟨gb200, 5, none⟩ = some (.int .i64 a0_5) := (blk_cell BK200.out 5).trans rfl
          have hcz21_6 : wr.cell? ⟨gb200, 6, none⟩ = some (.bool a0_6) := (blk_cell BK200.out 6).trans rfl
          have hcz21_7 : wr.cell? ⟨gb200, 7, none⟩ = some (.slice A0_7 l0_7.length c0_7) := (blk_cell BK200.out 7).trans rfl
          have hfz21_0 := blk_frozen BK200.out 0
          have hfz21_1 := blk_frozen BK200.out 1
          have hfz21_2 := blk_frozen BK200.out 2
          have hfz21_3 := blk_frozen BK200.out 3
          have hfz21_4 := blk_frozen BK200.out 4
          have hfz21_5 := blk_frozen BK200.out 5
          have hfz21_6 := blk_frozen BK200.out 6
          have hfz21_7 := blk_frozen BK200.out 7
          go_upto_if 36 with (fail)
          go_cut [36] (fun v36 wc => ∃ (kq : Nat) (x36_19 : Bool), v36 = .bool x36_19 ∧ Aside0 (burinref06_Nullable.j1 kq x5_1 x6_1 a0_0 x36_19 a0_0 l0_1 a0_2 a0_3 a0_4 a0_5 a0_6 l0_7 = some r) ∧ Aside0 (kq ≤ k1) ∧ Aside0 (wc.heap[gb200]? = some (.cells #[.int .i64 a0_0, (.slice A0_1 l0_1.length c0_1), .int .i64 a0_2, .string a0_3, .int .i64 a0_4, .int .i64 a0_5, .bool a0_6, (.slice A0_7 l0_7.length c0_7)] 25 (0, 0))) ∧ Aside0 (Below w.heap.size w wc))
          case first =>
            have H := HC20.out
            clear HC20
            by_cases c22 : a0_0 = 1
            · rw [if_pos c22] at H
              have c22b0 : (a0_0 == 1) = true := beq_iff_eq.mpr c22
              have c22b1 : (a0_0 != 1) = false := bne_eq_false_iff_eq.mpr c22
              clear c22
              (first | rw [c22b0] | (simp only [i64_w, i32_w]; rw [c22b0]) | skip)
              have H' := Aside0.mk H
              clear H
              go_wp2
              go_meet
              case rel => exact ⟨_, ((a0_0 == 1)), (by first | rfl | (simp; done) | (simp [*]; done)), H', ⟨by have := HK1.out; first | omega | exact Nat.le_refl _⟩, ⟨by (with_reducible repeat (first | refine blk_drewN ?_ _ | refine blk_drew ?_ | refine blk_alloc ?_ _)); exact BK200.out⟩, ⟨by repeat (first | (with_reducible first | exact HB.out | apply below_alloc | apply pw_below_drewN | apply below_drew1 | refine below_set ?_ GE200.out) | exact HB.out)⟩⟩
            · rw [if_neg c22] at H
              have c22b0 : (a0_0 == 1) = false := beq_eq_false_iff_ne.mpr c22
              have c22b1 : (a0_0 != 1) = true := bne_iff_ne.mpr c22
              (first | rw [c22b0] | (simp only [i64_w, i32_w]; rw [c22b0]) | skip)
              have H' := Aside0.mk H
              clear H
              go_wp2
              go_meet
              case rel => exact ⟨_, ((a0_0 == 5)), (by first | rfl | (simp; done) | (simp [*]; done)), H', ⟨by have := HK1.out; first | omega | exact Nat.le_refl _⟩, ⟨by (with_reducible repeat (first | refine blk_drewN ?_ _ | refine blk_drew ?_ | refine blk_alloc ?_ _)); exact BK200.out⟩, ⟨by repeat (first | (with_reducible first | exact HB.out | apply below_alloc | apply pw_below_drewN | apply below_drew1 | refine below_set ?_ GE200.out) | exact HB.out)⟩⟩
          case rest =>
            clear HC20
            try clear c1
            try clear c2
            try clear p2
            try clear q2
            try clear hx2
            try clear c3
            try clear c3b0
            try clear c4
            try clear c6
            try clear c6b0
            try clear p6
            try clear c7
            try clear c7b0
            try clear c9
            try clear c10
            try clear c15
            try clear c20
            try clear p20
            try clear q20
            try clear hx20
            try clear c22
            try clear c22b0
            try clear c22b1
            try clear hcz11_0
            try clear hcz11_1
            try clear hcz11_2
            try clear hcz11_3
            try clear hcz11_4
            try clear hcz11_5
            try clear hcz11_6
            try clear hcz11_7
            try clear hcz13_0
            try clear hcz13_1
            try clear hcz13_2
            try clear hcz13_3
            try clear hcz13_4
            try clear hcz13_5
            try clear hcz13_6
            try clear hcz13_7
            try clear hcz16_0
            try clear hcz16_1
            try clear hcz16_2
            try clear hcz16_3
            try clear hcz16_4
            try clear hcz16_5
            try clear hcz16_6
            try clear hcz16_7
            try clear hcz18_0
            try clear hcz18_1
            try clear hcz18_2
            try clear hcz18_3
            try clear hcz18_4
            try clear hcz18_5
            try clear hcz18_6
            try clear hcz18_7
            try clear hcz21_0
            try clear hcz21_1
            try clear hcz21_2
            try clear hcz21_3
            try clear hcz21_4
            try clear hcz21_5
            try clear hcz21_6
            try clear hcz21_7
            try clear hfz11_0
            try clear hfz11_1
            try clear hfz11_2
            try clear hfz11_3
            try clear hfz11_4
            try clear hfz11_5
            try clear hfz11_6
            try clear hfz11_7
            try clear hfz13_0
            try clear hfz13_1
            try clear hfz13_2
            try clear hfz13_3
            try clear hfz13_4
            try clear hfz13_5
            try clear hfz13_6
            try clear hfz13_7
            try clear hfz16_0
            try clear hfz16_1
            try clear hfz16_2
            try clear hfz16_3
            try clear hfz16_4
            try clear hfz16_5
            try clear hfz16_6
            try clear hfz16_7
            try clear hfz18_0
            try clear hfz18_1
            try clear hfz18_2
            try clear hfz18_3
            try clear hfz18_4
            try clear hfz18_5
            try clear hfz18_6
            try clear hfz18_7
            try clear hfz21_0
            try clear hfz21_1
            try clear hfz21_2
            try clear hfz21_3
            try clear hfz21_4
            try clear hfz21_5
            try clear hfz21_6
            try clear hfz21_7
            try clear hx201_0
            try clear hx201_1
            try clear hx201_2
            try clear hx201_3
            try clear hx201_4
            try clear hx201_5
            try clear hx201_6
            try clear hx201_7
            try clear p2
            try clear p201
            try clear q201
            obtain ⟨kq, x36_19, rfl, HA, HJ19, BK200, HB⟩ := hcut
            cases kq with
            | zero => exact absurd HA.out (by simp [burinref06_Nullable.j1])
            | succ kj19 =>
              have H := HA.out
              clear HA
              simp only [burinref06_Nullable.j1] at H
              by_cases c23 : x36_19 = true
              · subst c23
                have H1 : (some true) = some r := by rw [if_pos rfl] at H; exact H
                clear H
                have H := H1
                clear H1
                obtain rfl := Option.some.inj H
                go_wp2
                go_ret
                exact ⟨by first | rfl | (simp [errW_none, errW_some] <;> rfl) | (simp [*, errW_none, errW_some] <;> rfl), by repeat (first | (with_reducible first | exact HB.out | apply below_alloc | apply pw_below_drewN | apply below_drew1 | refine below_set ?_ GE200.out) | exact HB.out)⟩
              · replace c23 := Bool.eq_false_iff.mpr c23
                subst c23
                have H1 : (if a0_0 = 6 then (burinref06_Nullable.j2 kj19 x5_1 x6_1 a0_0 (a0_0 == 6) a0_0 l0_1 a0_2 a0_3 a0_4 a0_5 a0_6 l0_7) else (burinref06_Nullable.j2 kj19 x5_1 x6_1 a0_0 (a0_0 == 7) a0_0 l0_1 a0_2 a0_3 a0_4 a0_5 a0_6 l0_7)) = some r := by rw [if_neg (show ¬ (false = true) by decide)] at H; exact H
                clear H
                have H := H1
                clear H1
                have HC24 := Aside0.mk H
                clear H
                go_upto_if 39 with (fail)
                go_cut [39] (fun v39 wc => ∃ (kq : Nat) (x39_23 : Bool), v39 = .bool x39_23 ∧ Aside0 (burinref06_Nullable.j2 kq x5_1 x6_1 a0_0 x39_23 a0_0 l0_1 a0_2 a0_3 a0_4 a0_5 a0_6 l0_7 = some r) ∧ Aside0 (kq ≤ kj19) ∧ Aside0 (wc.heap[gb200]? = some (.cells #[.int .i64 a0_0, (.slice A0_1 l0_1.length c0_1), .int .i64 a0_2, .string a0_3, .int .i64 a0_4, .int .i64 a0_5, .bool a0_6, (.slice A0_7 l0_7.length c0_7)] 25 (0, 0))) ∧ Aside0 (Below w.heap.size w wc))
                case first =>
                  have H := HC24.out
                  clear HC24
                  by_cases c25 : a0_0 = 6
                  · rw [if_pos c25] at H
                    have c25b0 : (a0_0 == 6) = true := beq_iff_eq.mpr c25
                    have c25b1 : (a0_0 != 6) = false := bne_eq_false_iff_eq.mpr c25
                    clear c25
                    (first | rw [c25b0] | (simp only [i64_w, i32_w]; rw [c25b0]) | skip)
                    have H' := Aside0.mk H
                    clear H
                    go_wp2
                    go_meet
                    case rel => exact ⟨_, ((a0_0 == 6)), (by first | rfl | (simp; done) | (simp [*]; done)), H', ⟨by have := HK1.out; have := HJ19.out; first | omega | exact Nat.le_refl _⟩, ⟨by (with_reducible repeat (first | refine blk_drewN ?_ _ | refine blk_drew ?_ | refine blk_alloc ?_ _)); exact BK200.out⟩, ⟨by repeat (first | (with_reducible first | exact HB.out | apply below_alloc | apply pw_below_drewN | apply below_drew1 | refine below_set ?_ GE200.out) | exact HB.out)⟩⟩
                  · rw [if_neg c25] at H
                    have c25b0 : (a0_0 == 6) = false := beq_eq_false_iff_ne.mpr c25
                    have c25b1 : (a0_0 != 6) = true := bne_iff_ne.mpr c25
                    (first | rw [c25b0] | (simp only [i64_w, i32_w]; rw [c25b0]) | skip)
                    have H' := Aside0.mk H
                    clear H
                    go_wp2
                    go_meet
                    case rel => exact ⟨_, ((a0_0 == 7)), (by first | rfl | (simp; done) | (simp [*]; done)), H', ⟨by have := HK1.out; have := HJ19.out; first | omega | exact Nat.le_refl _⟩, ⟨by (with_reducible repeat (first | refine blk_drewN ?_ _ | refine blk_drew ?_ | refine blk_alloc ?_ _)); exact BK200.out⟩, ⟨by repeat (first | (with_reducible first | exact HB.out | apply below_alloc | apply pw_below_drewN | apply below_drew1 | refine below_set ?_ GE200.out) | exact HB.out)⟩⟩
                case rest =>
                  clear HC24
                  try clear c1
                  try clear c2
                  try clear p2
                  try clear q2
                  try clear hx2
                  try clear c3
                  try clear c3b0
                  try clear c4
                  try clear c6
                  try clear c6b0
                  try clear p6
                  try clear c7
                  try clear c7b0
                  try clear c9
                  try clear c10
                  try clear c15
                  try clear c20
                  try clear p20
                  try clear q20
                  try clear hx20
                  try clear c22
                  try clear c22b0
                  try clear c22b1
                  try clear c23
                  try clear c25
                  try clear c25b0
                  try clear c25b1
                  try clear hcz11_0
                  try clear hcz11_1
                  try clear hcz11_2
                  try clear hcz11_3
                  try clear hcz11_4
                  try clear hcz11_5
                  try clear hcz11_6
                  try clear hcz11_7
                  try clear hcz13_0
                  try clear hcz13_1
                  try clear hcz13_2
                  try clear hcz13_3
                  try clear hcz13_4
                  try clear hcz13_5
                  try clear hcz13_6
                  try clear hcz13_7
                  try clear hcz16_0
                  try clear hcz16_1
                  try clear hcz16_2
                  try clear hcz16_3
                  try clear hcz16_4
                  try clear hcz16_5
                  try clear hcz16_6
                  try clear hcz16_7
                  try clear hcz18_0
                  try clear hcz18_1
                  try clear hcz18_2
                  try clear hcz18_3
                  try clear hcz18_4
                  try clear hcz18_5
                  try clear hcz18_6
                  try clear hcz18_7
                  try clear hcz21_0
                  try clear hcz21_1
                  try clear hcz21_2
                  try clear hcz21_3
                  try clear hcz21_4
                  try clear hcz21_5
                  try clear hcz21_6
                  try clear hcz21_7
                  try clear hfz11_0
                  try clear hfz11_1
                  try clear hfz11_2
                  try clear hfz11_3
                  try clear hfz11_4
                  try clear hfz11_5
                  try clear hfz11_6
                  try clear hfz11_7
                  try clear hfz13_0
                  try clear hfz13_1
                  try clear hfz13_2
                  try clear hfz13_3
                  try clear hfz13_4
                  try clear hfz13_5
                  try clear hfz13_6
                  try clear hfz13_7
                  try clear hfz16_0
                  try clear hfz16_1
                  try clear hfz16_2
                  try clear hfz16_3
                  try clear hfz16_4
                  try clear hfz16_5
                  try clear hfz16_6
                  try clear hfz16_7
                  try clear hfz18_0
                  try clear hfz18_1
                  try clear hfz18_2
                  try clear hfz18_3
                  try clear hfz18_4
                  try clear hfz18_5
                  try clear hfz18_6
                  try clear hfz18_7
                  try clear hfz21_0
                  try clear hfz21_1
                  try clear hfz21_2
                  try clear hfz21_3
                  try clear hfz21_4
                  try clear hfz21_5
                  try clear hfz21_6
                  try clear hfz21_7
                  try clear hx201_0
                  try clear hx201_1
                  try clear hx201_2
                  try clear hx201_3
                  try clear hx201_4
                  try clear hx201_5
                  try clear hx201_6
                  try clear hx201_7
                  try clear p2
                  try clear p20
                  try clear p201
                  try clear p6
                  try clear q2
                  try clear q20
                  try clear q201
                  obtain ⟨kq, x39_23, rfl, HA, HJ23, BK200, HB⟩ := hcut
                  cases kq with
                  | zero => exact absurd HA.out (by simp [burinref06_Nullable.j2])
                  | succ kj23 =>
                    have H := HA.out
                    clear HA
                    simp only [burinref06_Nullable.j2] at H
                    by_cases c26 : x39_23 = true
                    · subst c26
                      have H1 : (some x5_1) = some r := by rw [if_pos rfl] at H; exact H
                      clear H
                      have H := H1
                      clear H1
                      obtain rfl := Option.some.inj H
                      go_wp2
                      go_ret
                      exact ⟨by first | rfl | (simp [errW_none, errW_some] <;> rfl) | (simp [*, errW_none, errW_some] <;> rfl), by repeat (first | (with_reducible first | exact HB.out | apply below_alloc | apply pw_below_drewN | apply below_drew1 | refine below_set ?_ GE200.out) | exact HB.out)⟩
                    · replace c26 := Bool.eq_false_iff.mpr c26
                      subst c26
                      have H1 : (if a0_0 = 8 then (some x6_1) else (if a0_0 = 9 then (if a0_4 = 0 then (some true) else (some x5_1)) else (some false))) = some r := by rw [if_neg (show ¬ (false = true) by decide)] at H; exact H
                      clear H
                      have H := H1
                      clear H1
                      by_cases c27 : a0_0 = 8
                      · rw [if_pos c27] at H
                        have c27b0 : (a0_0 == 8) = true := beq_iff_eq.mpr c27
                        have c27b1 : (a0_0 != 8) = false := bne_eq_false_iff_eq.mpr c27
                        clear c27
                        obtain rfl := Option.some.inj H
                        go_wp2
                        go_ret
                        exact ⟨by first | rfl | (simp [errW_none, errW_some] <;> rfl) | (simp [*, errW_none, errW_some] <;> rfl), by repeat (first | (with_reducible first | exact HB.out | apply below_alloc | apply pw_below_drewN | apply below_drew1 | refine below_set ?_ GE200.out) | exact HB.out)⟩
                      · rw [if_neg c27] at H
                        have c27b0 : (a0_0 == 8) = false := beq_eq_false_iff_ne.mpr c27
                        have c27b1 : (a0_0 != 8) = true := bne_iff_ne.mpr c27
                        by_cases c28 : a0_0 = 9
                        · rw [if_pos c28] at H
                          have c28b0 : (a0_0 == 9) = true := beq_iff_eq.mpr c28
                          have c28b1 : (a0_0 != 9) = false := bne_eq_false_iff_eq.mpr c28
                          clear c28
                          by_cases c29 : a0_4 = 0
                          · rw [if_pos c29] at H
                            have c29b0 : (a0_4 == 0) = true := beq_iff_eq.mpr c29
                            have c29b1 : (a0_4 != 0) = false := bne_eq_false_iff_eq.mpr c29
                            clear c29
                            obtain rfl := Option.some.inj H
                            have hcz30_0 : wc.cell? ⟨gb200, 0, none⟩ = some (.int .i64 a0_0) := (blk_cell BK200.out 0).trans rfl
                            have hcz30_1 : wc.cell? ⟨gb200, 1, none⟩ = some (.slice A0_1 l0_1.length c0_1) := (blk_cell BK200.out 1).trans rfl
                            have hcz30_2 : wc.cell? ⟨gb200, 2, none⟩ = some (.int .i64 a0_2) := (blk_cell BK200.out 2).trans rfl
                            have hcz30_3 : wc.cell? ⟨gb200, 3, none⟩ = some (.string a0_3) := (blk_cell BK200.out 3).trans rfl
                            have hcz30_4 : wc.cell? ⟨gb200, 4, none⟩ = some (.int .i64 a0_4) := (blk_cell BK200.out 4).trans rfl
                            have hcz30_5 : wc.cell? ⟨gb200, 5, none⟩ = some (.int .i64 a0_5) := (blk_cell BK200.out 5).trans rfl
                            have hcz30_6 : wc.cell? ⟨gb200, 6, none⟩ = some (.bool a0_6) := (blk_cell BK200.out 6).trans rfl
                            have hcz30_7 : wc.cell? ⟨gb200, 7, none⟩ = some (.slice A0_7 l0_7.length c0_7) := (blk_cell BK200.out 7).trans rfl
                            have hfz30_0 := blk_frozen BK200.out 0
                            have hfz30_1 := blk_frozen BK200.out 1
                            have hfz30_2 := blk_frozen BK200.out 2
                            have hfz30_3 := blk_frozen BK200.out 3
                            have hfz30_4 := blk_frozen BK200.out 4
                            have hfz30_5 := blk_frozen BK200.out 5
                            have hfz30_6 := blk_frozen BK200.out 6
                            have hfz30_7 := blk_frozen BK200.out 7
                            go_wp2
                            go_ret
                            exact ⟨by first | rfl | (simp [errW_none, errW_some] <;> rfl) | (simp [*, errW_none, errW_some] <;> rfl), by repeat (first | (with_reducible first | exact HB.out | apply below_alloc | apply pw_below_drewN | apply below_drew1 | refine below_set ?_ GE200.out) | exact HB.out)⟩
                          · rw [if_neg c29] at H
                            have c29b0 : (a0_4 == 0) = false := beq_eq_false_iff_ne.mpr c29
                            have c29b1 : (a0_4 != 0) = true := bne_iff_ne.mpr c29
                            obtain rfl := Option.some.inj H
                            have hcz31_0 : wc.cell? ⟨gb200, 0, none⟩ = some (.int .i64 a0_0) := (blk_cell BK200.out 0).trans rfl
                            have hcz31_1 : wc.cell? ⟨gb200, 1, none⟩ = some (.slice A0_1 l0_1.length c0_1) := (blk_cell BK200.out 1).trans rfl
                            have hcz31_2 : wc.cell? ⟨gb200, 2, none⟩ = some (.int .i64 a0_2) := (blk_cell BK200.out 2).trans rfl
                            have hcz31_3 : wc.cell? ⟨gb200, 3, none⟩ = some (.string a0_3) := (blk_cell BK200.out 3).trans rfl
                            have hcz31_4 : wc.cell? ⟨gb200, 4, none⟩ = some (.int .i64 a0_4) := (blk_cell BK200.out 4).trans rfl
                            have hcz31_5 : wc.cell? ⟨gb200, 5, none⟩ = some (.int .i64 a0_5) := (blk_cell BK200.out 5).trans rfl
                            have hcz31_6 : wc.cell? ⟨gb200, 6, none⟩ = some (.bool a0_6) := (blk_cell BK200.out 6).trans rfl
                            have hcz31_7 : wc.cell? ⟨gb200, 7, none⟩ = some (.slice A0_7 l0_7.length c0_7) := (blk_cell BK200.out 7).trans rfl
                            have hfz31_0 := blk_frozen BK200.out 0
                            have hfz31_1 := blk_frozen BK200.out 1
                            have hfz31_2 := blk_frozen BK200.out 2
                            have hfz31_3 := blk_frozen BK200.out 3
                            have hfz31_4 := blk_frozen BK200.out 4
                            have hfz31_5 := blk_frozen BK200.out 5
                            have hfz31_6 := blk_frozen BK200.out 6
                            have hfz31_7 := blk_frozen BK200.out 7
                            go_wp2
                            go_ret
                            exact ⟨by first | rfl | (simp [errW_none, errW_some] <;> rfl) | (simp [*, errW_none, errW_some] <;> rfl), by repeat (first | (with_reducible first | exact HB.out | apply below_alloc | apply pw_below_drewN | apply below_drew1 | refine below_set ?_ GE200.out) | exact HB.out)⟩
                        · rw [if_neg c28] at H
                          have c28b0 : (a0_0 == 9) = false := beq_eq_false_iff_ne.mpr c28
                          have c28b1 : (a0_0 != 9) = true := bne_iff_ne.mpr c28
                          obtain rfl := Option.some.inj H
                          go_wp2
                          go_ret
                          exact ⟨by first | rfl | (simp [errW_none, errW_some] <;> rfl) | (simp [*, errW_none, errW_some] <;> rfl), by repeat (first | (with_reducible first | exact HB.out | apply below_alloc | apply pw_below_drewN | apply below_drew1 | refine below_set ?_ GE200.out) | exact HB.out)⟩

end Go.Proofs.Ytojlhlepneefoaa.PAll
