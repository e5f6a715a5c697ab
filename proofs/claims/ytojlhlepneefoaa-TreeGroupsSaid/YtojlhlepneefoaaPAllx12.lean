-- Laid by print.py over several laws of the seat at once (wip/tools/printmany.sh): one namespace for all
import Derived.Test.YtojlhlepneefoaaPAllx0
import Derived.Test.YtojlhlepneefoaaPAllx10
import Derived.Test.YtojlhlepneefoaaPAllx11
namespace Go.Proofs.Ytojlhlepneefoaa.PAll
open Go.RowKit Go.Proofs.YtojlhlepneefoaaW.PrintWords Go.Proofs.YtojlhlepneefoaaW.PrintLast Go.Proofs.YtojlhlepneefoaaW.PrintMore
attribute [local go_sem] max2_int min2_int max_two min_two max_three min_three max_four min_four   -- for this text's walks alone
set_option linter.unusedVariables false
set_option linter.unusedSimpArgs false

/-! ### burinref06_Fits: function 77 -/
mutual
def burinref06_Fits.j0 : Nat → Bool → Bool → Bool → Bool → Bool → Int → Int → List (S103) → Int → ByteArray → Int → Int → Bool → List (S25) → Option (Bool)
  | 0, _, _, _, _, _, _, _, _, _, _, _, _, _, _ => none
  | k + 1, x3, x4, x5, x6, x7, x8, x188000, x188001, x188002, x188003, x188004, x188005, x188006, x188007 => if x188000 = 1 then (burinref06_Fits.j1 k x3 x4 x5 x6 x7 x8 x188000 (x188000 == 1) x188000 x188001 x188002 x188003 x188004 x188005 x188006 x188007) else (if x188000 = 2 then (burinref06_Fits.j1 k x3 x4 x5 x6 x7 x8 x188000 (x188000 == 2) x188000 x188001 x188002 x188003 x188004 x188005 x188006 x188007) else (burinref06_Fits.j1 k x3 x4 x5 x6 x7 x8 x188000 (x188000 == 4) x188000 x188001 x188002 x188003 x188004 x188005 x188006 x188007))
def burinref06_Fits.j1 : Nat → Bool → Bool → Bool → Bool → Bool → Int → Int → Bool → Int → List (S103) → Int → ByteArray → Int → Int → Bool → List (S25) → Option (Bool)
  | 0, _, _, _, _, _, _, _, _, _, _, _, _, _, _, _, _ => none
  | k + 1, x3, x4, x5, x6, x7, x8, x34, x35, x188000, x188001, x188002, x188003, x188004, x188005, x188006, x188007 => if x35 = true then (if x3 = true then (if x4 = true then (if x5 = true then (if x6 = true then (if x7 = true then (some (x8 == 0)) else (some false)) else (some false)) else (some false)) else (some false)) else (some false)) else (if x34 = 3 then (if x3 = true then (some false) else ((burinref02_Check.f k x188001).bind fun t188 => (if t188 = 0 then (if x4 = true then (if x5 = true then (if x6 = true then (if x7 = true then (some (x8 == 0)) else (some false)) else (some false)) else (some false)) else (some false)) else (some false)))) else (if x34 = 5 then (if x3 = true then (if x188002 ≥ 1 then (if x188002 ≤ 6 then (if x5 = true then (if x6 = true then (if x7 = true then (some (x8 == 0)) else (some false)) else (some false)) else (some false)) else (some false)) else (some false)) else (some false)) else (if x34 = 6 then (if x3 = true then (if x188002 ≥ 1 then (if x5 = true then (if x6 = true then (if x7 = true then (some (x8 == 1)) else (some false)) else (some false)) else ((burinref06_Name.f k x188003).bind fun t189 => (if t189 = true then (if x6 = true then (if x7 = true then (some (x8 == 1)) else (some false)) else (some false)) else (some false)))) else (some false)) else (some false)) else (if x34 = 7 then (burinref06_Fits.j2 k x3 x4 x5 x6 x7 x8 x34 (x34 == 7) x188000 x188001 x188002 x188003 x188004 x188005 x188006 x188007) else (burinref06_Fits.j2 k x3 x4 x5 x6 x7 x8 x34 (x34 == 8) x188000 x188001 x188002 x188003 x188004 x188005 x188006 x188007)))))
def burinref06_Fits.j2 : Nat → Bool → Bool → Bool → Bool → Bool → Int → Int → Bool → Int → List (S103) → Int → ByteArray → Int → Int → Bool → List (S25) → Option (Bool)
  | 0, _, _, _, _, _, _, _, _, _, _, _, _, _, _, _, _ => none
  | k + 1, x3, x4, x5, x6, x7, x8, x34, x134, x188000, x188001, x188002, x188003, x188004, x188005, x188006, x188007 => if x134 = true then (if x3 = true then (if x4 = true then (if x5 = true then (if x6 = true then (if x7 = true then (some (decide (x8 ≥ 2))) else (some false)) else (some false)) else (some false)) else (some false)) else (some false)) else (if x34 = 9 then (if x3 = true then (if x4 = true then (if x5 = true then (if x188004 ≥ 0 then (if x188004 ≤ 1000 then (if x188005 = (-1) then (some (x8 == 1)) else (if x188005 ≥ x188004 then (if x188005 ≤ 1000 then (some (x8 == 1)) else (some false)) else (some false))) else (some false)) else (some false)) else (some false)) else (some false)) else (some false)) else (some false))
end
def burinref06_Fits.f (k : Nat) (a0_0 : Int) (l0_1 : List (S103)) (a0_2 : Int) (a0_3 : ByteArray) (a0_4 : Int) (a0_5 : Int) (a0_6 : Bool) (l0_7 : List (S25)) : Option (Bool) := if a0_4 = 0 then (burinref06_Fits.j0 k ((l0_1.length : Int) == 0) (a0_2 == 0) (a0_3.toList == ([] : List UInt8)) (a0_5 == 0) (!a0_6) (l0_7.length : Int) a0_0 l0_1 a0_2 a0_3 a0_4 a0_5 a0_6 l0_7) else (burinref06_Fits.j0 k ((l0_1.length : Int) == 0) (a0_2 == 0) (a0_3.toList == ([] : List UInt8)) false (!a0_6) (l0_7.length : Int) a0_0 l0_1 a0_2 a0_3 a0_4 a0_5 a0_6 l0_7)
theorem burinref06_Fits.mono_l : ∀ k, (∀ y0 y1 y2 y3 y4 y5 y6 y7 y8 y9 y10 y11 y12 y13, LeO (burinref06_Fits.j0 k y0 y1 y2 y3 y4 y5 y6 y7 y8 y9 y10 y11 y12 y13) (burinref06_Fits.j0 (k + 1) y0 y1 y2 y3 y4 y5 y6 y7 y8 y9 y10 y11 y12 y13)) ∧ (∀ y0 y1 y2 y3 y4 y5 y6 y7 y8 y9 y10 y11 y12 y13 y14 y15, LeO (burinref06_Fits.j1 k y0 y1 y2 y3 y4 y5 y6 y7 y8 y9 y10 y11 y12 y13 y14 y15) (burinref06_Fits.j1 (k + 1) y0 y1 y2 y3 y4 y5 y6 y7 y8 y9 y10 y11 y12 y13 y14 y15)) ∧ (∀ y0 y1 y2 y3 y4 y5 y6 y7 y8 y9 y10 y11 y12 y13 y14 y15, LeO (burinref06_Fits.j2 k y0 y1 y2 y3 y4 y5 y6 y7 y8 y9 y10 y11 y12 y13 y14 y15) (burinref06_Fits.j2 (k + 1) y0 y1 y2 y3 y4 y5 y6 y7 y8 y9 y10 y11 y12 y13 y14 y15))
  | 0 => ⟨fun _ _ _ _ _ _ _ _ _ _ _ _ _ _ r h => by simp [burinref06_Fits.j0] at h, fun _ _ _ _ _ _ _ _ _ _ _ _ _ _ _ _ r h => by simp [burinref06_Fits.j1] at h, fun _ _ _ _ _ _ _ _ _ _ _ _ _ _ _ _ r h => by simp [burinref06_Fits.j2] at h⟩
  | k + 1 => by
    obtain ⟨ih0, ih1, ih2⟩ := burinref06_Fits.mono_l k
    refine ⟨?_, ?_, ?_⟩
    · intro y0 y1 y2 y3 y4 y5 y6 y7 y8 y9 y10 y11 y12 y13
      unfold burinref06_Fits.j0
      repeat' first
      | (with_reducible exact ih0 _ _ _ _ _ _ _ _ _ _ _ _ _ _)
      | (with_reducible exact ih1 _ _ _ _ _ _ _ _ _ _ _ _ _ _ _ _)
      | (with_reducible exact ih2 _ _ _ _ _ _ _ _ _ _ _ _ _ _ _ _)
      | (with_reducible exact burinref02_Check.mono _ _)
      | (with_reducible exact burinref06_Name.mono _ _)
      | (with_reducible exact LeO.refl _)
      | (with_reducible exact LeO.none _)
      | (with_reducible refine LeO.ite ?_ ?_)
      | (with_reducible refine LeO.bind ?_ (fun _ => ?_))
      | exact ih0 _ _ _ _ _ _ _ _ _ _ _ _ _ _
      | exact ih1 _ _ _ _ _ _ _ _ _ _ _ _ _ _ _ _
      | exact ih2 _ _ _ _ _ _ _ _ _ _ _ _ _ _ _ _
      | exact burinref02_Check.mono _ _
      | exact burinref06_Name.mono _ _
      | exact LeO.none _
      | refine LeO.ite ?_ ?_
      | refine LeO.bind ?_ (fun _ => ?_)
    · intro y0 y1 y2 y3 y4 y5 y6 y7 y8 y9 y10 y11 y12 y13 y14 y15
      unfold burinref06_Fits.j1
      repeat' first
      | (with_reducible exact ih0 _ _ _ _ _ _ _ _ _ _ _ _ _ _)
      | (with_reducible exact ih1 _ _ _ _ _ _ _ _ _ _ _ _ _ _ _ _)
      | (with_reducible exact ih2 _ _ _ _ _ _ _ _ _ _ _ _ _ _ _ _)
      | (with_reducible exact burinref02_Check.mono _ _)
      | (with_reducible exact burinref06_Name.mono _ _)
      | (with_reducible exact LeO.refl _)
      | (with_reducible exact LeO.none _)
      | (with_reducible refine LeO.ite ?_ ?_)
      | (with_reducible refine LeO.bind ?_ (fun _ => ?_))
      | exact ih0 _ _ _ _ _ _ _ _ _ _ _ _ _ _
      | exact ih1 _ _ _ _ _ _ _ _ _ _ _ _ _ _ _ _
      | exact ih2 _ _ _ _ _ _ _ _ _ _ _ _ _ _ _ _
      | exact burinref02_Check.mono _ _
      | exact burinref06_Name.mono _ _
      | exact LeO.none _
      | refine LeO.ite ?_ ?_
      | refine LeO.bind ?_ (fun _ => ?_)
    · intro y0 y1 y2 y3 y4 y5 y6 y7 y8 y9 y10 y11 y12 y13 y14 y15
      unfold burinref06_Fits.j2
      repeat' first
      | (with_reducible exact ih0 _ _ _ _ _ _ _ _ _ _ _ _ _ _)
      | (with_reducible exact ih1 _ _ _ _ _ _ _ _ _ _ _ _ _ _ _ _)
      | (with_reducible exact ih2 _ _ _ _ _ _ _ _ _ _ _ _ _ _ _ _)
      | (with_reducible exact burinref02_Check.mono _ _)
      | (with_reducible exact burinref06_Name.mono _ _)
      | (with_reducible exact LeO.refl _)
      | (with_reducible exact LeO.none _)
      | (with_reducible refine LeO.ite ?_ ?_)
      | (with_reducible refine LeO.bind ?_ (fun _ => ?_))
      | exact ih0 _ _ _ _ _ _ _ _ _ _ _ _ _ _
      | exact ih1 _ _ _ _ _ _ _ _ _ _ _ _ _ _ _ _
      | exact ih2 _ _ _ _ _ _ _ _ _ _ _ _ _ _ _ _
      | exact burinref02_Check.mono _ _
      | exact burinref06_Name.mono _ _
      | exact LeO.none _
      | refine LeO.ite ?_ ?_
      | refine LeO.bind ?_ (fun _ => ?_)
theorem burinref06_Fits.mono : ∀ a0 a1 a2 a3 a4 a5 a6 a7 k, LeO (burinref06_Fits.f k a0 a1 a2 a3 a4 a5 a6 a7) (burinref06_Fits.f (k + 1) a0 a1 a2 a3 a4 a5 a6 a7) := by
  intro a0 a1 a2 a3 a4 a5 a6 a7 k
  obtain ⟨ih0, ih1, ih2⟩ := burinref06_Fits.mono_l k
  unfold burinref06_Fits.f
  repeat' first
      | (with_reducible exact ih0 _ _ _ _ _ _ _ _ _ _ _ _ _ _)
      | (with_reducible exact ih1 _ _ _ _ _ _ _ _ _ _ _ _ _ _ _ _)
      | (with_reducible exact ih2 _ _ _ _ _ _ _ _ _ _ _ _ _ _ _ _)
      | (with_reducible exact burinref02_Check.mono _ _)
      | (with_reducible exact burinref06_Name.mono _ _)
      | (with_reducible exact LeO.refl _)
      | (with_reducible exact LeO.none _)
      | (with_reducible refine LeO.ite ?_ ?_)
      | (with_reducible refine LeO.bind ?_ (fun _ => ?_))
      | exact ih0 _ _ _ _ _ _ _ _ _ _ _ _ _ _
      | exact ih1 _ _ _ _ _ _ _ _ _ _ _ _ _ _ _ _
      | exact ih2 _ _ _ _ _ _ _ _ _ _ _ _ _ _ _ _
      | exact burinref02_Check.mono _ _
      | exact burinref06_Name.mono _ _
      | exact LeO.none _
      | refine LeO.ite ?_ ?_
      | refine LeO.bind ?_ (fun _ => ?_)
set_option maxHeartbeats 8000000 in
set_option maxRecDepth 100000 in
theorem burinref06_Fits.calls (k : Nat) (a0_0 : Int) (A0_1 : Option Addr) (c0_1 : Nat) (l0_1 : List (S103)) (a0_2 : Int) (a0_3 : ByteArray) (a0_4 : Int) (a0_5 : Int) (a0_6 : Bool) (A0_7 : Option Addr) (c0_7 : Nat) (l0_7 : List (S25)) (r : Bool) (w : World) (hr0_1 : Kd.C k103 w A0_1 l0_1.length l0_1) (hc0_1 : l0_1.length ≤ c0_1) (hr0_7 : Kd.C k25 w A0_7 l0_7.length l0_7) (hc0_7 : l0_7.length ≤ c0_7) (h : burinref06_Fits.f k a0_0 l0_1 a0_2 a0_3 a0_4 a0_5 a0_6 l0_7 = some r) :
    Calls Try.prog 77 #[.agg #[.int .i64 a0_0, .slice A0_1 l0_1.length c0_1, .int .i64 a0_2, .string a0_3, .int .i64 a0_4, .int .i64 a0_5, .bool a0_6, .slice A0_7 l0_7.length c0_7]] w fun e w' => e = .returned (.bool r) ∧ Below w.heap.size w w' := by
  have hu25 := Try.underlying25
  have HR0_1 := Aside0.mk hr0_1
  have HC0_1 := Aside0.mk hc0_1
  clear hr0_1 hc0_1
  have HR0_7 := Aside0.mk hr0_7
  have HC0_7 := Aside0.mk hc0_7
  clear hr0_7 hc0_7
  have HB := Aside0.mk (Below.refl w.heap.size w)
  have H : (if a0_4 = 0 then (burinref06_Fits.j0 k ((l0_1.length : Int) == 0) (a0_2 == 0) (a0_3.toList == ([] : List UInt8)) (a0_5 == 0) (!a0_6) (l0_7.length : Int) a0_0 l0_1 a0_2 a0_3 a0_4 a0_5 a0_6 l0_7) else (burinref06_Fits.j0 k ((l0_1.length : Int) == 0) (a0_2 == 0) (a0_3.toList == ([] : List UInt8)) false (!a0_6) (l0_7.length : Int) a0_0 l0_1 a0_2 a0_3 a0_4 a0_5 a0_6 l0_7)) = some r := h
  clear h
  have HC2 := Aside0.mk H
  clear H
  go_enter Try.func77, Try.ntmps77
  go_upto_region 1 with (first | ((with_reducible refine gate_dst (N := 1) rfl ?_); refine box_event ?hg (N := 1) ?hd (cs := #[.int .i64 a0_0, .slice A0_1 l0_1.length c0_1, .int .i64 a0_2, .string a0_3, .int .i64 a0_4, .int .i64 a0_5, .bool a0_6, .slice A0_7 l0_7.length c0_7]) (t := 25) ?hr ?_; (case hd => rfl); (case hg => rfl); (case hr => first | (go_simp; done) | (go_simp; rfl)); intro gb187 hg w3 hbox hb; have n0_ := Aside0.mk (below_step (by repeat (first | (with_reducible first | exact HB.out | apply below_alloc | apply pw_below_drewN | apply below_drew1) | exact HB.out)) hb); have n1_ := Aside0.mk (hbox); have n2_ := Aside0.mk ((by rw [hg]; exact (below_size (by repeat (first | (with_reducible first | exact HB.out | apply below_alloc | apply pw_below_drewN | apply below_drew1) | exact HB.out))) : w.heap.size ≤ gb187)); have n3_ := Aside0.mk ((by rw [hg]; exact (below_size (by repeat (first | (with_reducible first | exact HB.out | apply below_alloc | apply pw_below_drewN | apply below_drew1) | exact HB.out))) : w.heap.size ≤ gb187)); clear HB; have HB := n0_; have BK187 := n1_; have GW187 := n2_; have GE187 := n3_; clear n0_ n1_ n2_ n3_; clear hb hbox hg))
  repeat (go_quiet (first | ((with_reducible refine gate_dst (N := 1) rfl ?_); refine box_event ?hg (N := 1) ?hd (cs := #[.int .i64 a0_0, .slice A0_1 l0_1.length c0_1, .int .i64 a0_2, .string a0_3, .int .i64 a0_4, .int .i64 a0_5, .bool a0_6, .slice A0_7 l0_7.length c0_7]) (t := 25) ?hr ?_; (case hd => rfl); (case hg => rfl); (case hr => first | (go_simp; done) | (go_simp; rfl)); intro gb187 hg w3 hbox hb; have n0_ := Aside0.mk (below_step (by repeat (first | (with_reducible first | exact HB.out | apply below_alloc | apply pw_below_drewN | apply below_drew1) | exact HB.out)) hb); have n1_ := Aside0.mk (hbox); have n2_ := Aside0.mk ((by rw [hg]; exact (below_size (by repeat (first | (with_reducible first | exact HB.out | apply below_alloc | apply pw_below_drewN | apply below_drew1) | exact HB.out))) : w.heap.size ≤ gb187)); have n3_ := Aside0.mk ((by rw [hg]; exact (below_size (by repeat (first | (with_reducible first | exact HB.out | apply below_alloc | apply pw_below_drewN | apply below_drew1) | exact HB.out))) : w.heap.size ≤ gb187)); clear HB; have HB := n0_; have BK187 := n1_; have GW187 := n2_; have GE187 := n3_; clear n0_ n1_ n2_ n3_; clear hb hbox hg)); go_upto_region 1 with (first | ((with_reducible refine gate_dst (N := 1) rfl ?_); refine box_event ?hg (N := 1) ?hd (cs := #[.int .i64 a0_0, .slice A0_1 l0_1.length c0_1, .int .i64 a0_2, .string a0_3, .int .i64 a0_4, .int .i64 a0_5, .bool a0_6, .slice A0_7 l0_7.length c0_7]) (t := 25) ?hr ?_; (case hd => rfl); (case hg => rfl); (case hr => first | (go_simp; done) | (go_simp; rfl)); intro gb187 hg w3 hbox hb; have n0_ := Aside0.mk (below_step (by repeat (first | (with_reducible first | exact HB.out | apply below_alloc | apply pw_below_drewN | apply below_drew1) | exact HB.out)) hb); have n1_ := Aside0.mk (hbox); have n2_ := Aside0.mk ((by rw [hg]; exact (below_size (by repeat (first | (with_reducible first | exact HB.out | apply below_alloc | apply pw_below_drewN | apply below_drew1) | exact HB.out))) : w.heap.size ≤ gb187)); have n3_ := Aside0.mk ((by rw [hg]; exact (below_size (by repeat (first | (with_reducible first | exact HB.out | apply below_alloc | apply pw_below_drewN | apply below_drew1) | exact HB.out))) : w.heap.size ≤ gb187)); clear HB; have HB := n0_; have BK187 := n1_; have GW187 := n2_; have GE187 := n3_; clear n0_ n1_ n2_ n3_; clear hb hbox hg)))
  (try simp only [Act.put, List.setIfInBounds_toArray, List.set_cons_zero, List.set_cons_succ])
  go_cut [3, 4, 5, 6, 7, 8] (fun v3 v4 v5 v6 v7 v8 wc => ∃ (kq : Nat) (x3_1 : Bool) (x4_1 : Bool) (x5_1 : Bool) (x6_1 : Bool) (x7_1 : Bool) (x8_1 : Int), v3 = .bool x3_1 ∧ v4 = .bool x4_1 ∧ v5 = .bool x5_1 ∧ v6 = .bool x6_1 ∧ v7 = .bool x7_1 ∧ v8 = .int .i64 x8_1 ∧ Aside0 (burinref06_Fits.j0 kq x3_1 x4_1 x5_1 x6_1 x7_1 x8_1 a0_0 l0_1 a0_2 a0_3 a0_4 a0_5 a0_6 l0_7 = some r) ∧ Aside0 (kq ≤ k) ∧ Aside0 (wc.heap[gb187]? = some (.cells #[.int .i64 a0_0, (.slice A0_1 l0_1.length c0_1), .int .i64 a0_2, .string a0_3, .int .i64 a0_4, .int .i64 a0_5, .bool a0_6, (.slice A0_7 l0_7.length c0_7)] 25 (0, 0))) ∧ Aside0 (Below w.heap.size w wc))
  case first =>
    have H := HC2.out
    clear HC2
    by_cases c4 : a0_4 = 0
    · rw [if_pos c4] at H
      have c4b0 : (a0_4 == 0) = true := beq_iff_eq.mpr c4
      have c4b1 : (a0_4 != 0) = false := bne_eq_false_iff_eq.mpr c4
      clear c4
      (first | rw [c4b0] | (simp only [i64_w, i32_w]; rw [c4b0]) | skip)
      have H' := Aside0.mk H
      clear H
      have hcz5_0 : w3.cell? ⟨gb187, 0, none⟩ = some (.int .i64 a0_0) := (blk_cell BK187.out 0).trans rfl
      have hcz5_1 : w3.cell? ⟨gb187, 1, none⟩ = some (.slice A0_1 l0_1.length c0_1) := (blk_cell BK187.out 1).trans rfl
      have hcz5_2 : w3.cell? ⟨gb187, 2, none⟩ = some (.int .i64 a0_2) := (blk_cell BK187.out 2).trans rfl
      have hcz5_3 : w3.cell? ⟨gb187, 3, none⟩ = some (.string a0_3) := (blk_cell BK187.out 3).trans rfl
      have hcz5_4 : w3.cell? ⟨gb187, 4, none⟩ = some (.int .i64 a0_4) := (blk_cell BK187.out 4).trans rfl
      have hcz5_5 : w3.cell? ⟨gb187, 5, none⟩ = some (.int .i64 a0_5) := (blk_cell BK187.out 5).trans rfl
      have hcz5_6 : w3.cell? ⟨gb187, 6, none⟩ = some (.bool a0_6) := (blk_cell BK187.out 6).trans rfl
      have hcz5_7 : w3.cell? ⟨gb187, 7, none⟩ = some (.slice A0_7 l0_7.length c0_7) := (blk_cell BK187.out 7).trans rfl
      have hfz5_0 := blk_frozen BK187.out 0
      have hfz5_1 := blk_frozen BK187.out 1
      have hfz5_2 := blk_frozen BK187.out 2
      have hfz5_3 := blk_frozen BK187.out 3
      have hfz5_4 := blk_frozen BK187.out 4
      have hfz5_5 := blk_frozen BK187.out 5
      have hfz5_6 := blk_frozen BK187.out 6
      have hfz5_7 := blk_frozen BK187.out 7
      go_wp2
      repeat (go_quiet (fail); try go_wp2)
      go_meet
      case rel => exact ⟨_, (((l0_1.length : Int) == 0)), ((a0_2 == 0)), ((a0_3.toList == ([] : List UInt8))), ((a0_5 == 0)), (!a0_6), ((l0_7.length : Int)), (by first | rfl | (simp; done) | (simp [*]; done)), (by first | rfl | (simp; done) | (simp [*]; done)), (by first | rfl | (simp; done) | (simp [*]; done)), (by first | rfl | (simp; done) | (simp [*]; done)), (by first | rfl | (simp; done) | (simp [*]; done)), (by first | rfl | (simp; done) | (simp [*]; done)), H', ⟨by first | omega | exact Nat.le_refl _⟩, ⟨by (with_reducible repeat (first | refine blk_drewN ?_ _ | refine blk_drew ?_ | refine blk_alloc ?_ _)); exact BK187.out⟩, ⟨by repeat (first | (with_reducible first | exact HB.out | apply below_alloc | apply pw_below_drewN | apply below_drew1 | refine below_set ?_ GE187.out) | exact HB.out)⟩⟩
    · rw [if_neg c4] at H
      have c4b0 : (a0_4 == 0) = false := beq_eq_false_iff_ne.mpr c4
      have c4b1 : (a0_4 != 0) = true := bne_iff_ne.mpr c4
      (first | rw [c4b0] | (simp only [i64_w, i32_w]; rw [c4b0]) | skip)
      have H' := Aside0.mk H
      clear H
      have hcz6_0 : w3.cell? ⟨gb187, 0, none⟩ = some (.int .i64 a0_0) := (blk_cell BK187.out 0).trans rfl
      have hcz6_1 : w3.cell? ⟨gb187, 1, none⟩ = some (.slice A0_1 l0_1.length c0_1) := (blk_cell BK187.out 1).trans rfl
      have hcz6_2 : w3.cell? ⟨gb187, 2, none⟩ = some (.int .i64 a0_2) := (blk_cell BK187.out 2).trans rfl
      have hcz6_3 : w3.cell? ⟨gb187, 3, none⟩ = some (.string a0_3) := (blk_cell BK187.out 3).trans rfl
      have hcz6_4 : w3.cell? ⟨gb187, 4, none⟩ = some (.int .i64 a0_4) := (blk_cell BK187.out 4).trans rfl
      have hcz6_5 : w3.cell? ⟨gb187, 5, none⟩ = some (.int .i64 a0_5) := (blk_cell BK187.out 5).trans rfl
      have hcz6_6 : w3.cell? ⟨gb187, 6, none⟩ = some (.bool a0_6) := (blk_cell BK187.out 6).trans rfl
      have hcz6_7 : w3.cell? ⟨gb187, 7, none⟩ = some (.slice A0_7 l0_7.length c0_7) := (blk_cell BK187.out 7).trans rfl
      have hfz6_0 := blk_frozen BK187.out 0
      have hfz6_1 := blk_frozen BK187.out 1
      have hfz6_2 := blk_frozen BK187.out 2
      have hfz6_3 := blk_frozen BK187.out 3
      have hfz6_4 := blk_frozen BK187.out 4
      have hfz6_5 := blk_frozen BK187.out 5
      have hfz6_6 := blk_frozen BK187.out 6
      have hfz6_7 := blk_frozen BK187.out 7
      go_wp2
      repeat (go_quiet (fail); try go_wp2)
      go_meet
      case rel => exact ⟨_, (((l0_1.length : Int) == 0)), ((a0_2 == 0)), ((a0_3.toList == ([] : List UInt8))), (false), (!a0_6), ((l0_7.length : Int)), (by first | rfl | (simp; done) | (simp [*]; done)), (by first | rfl | (simp; done) | (simp [*]; done)), (by first | rfl | (simp; done) | (simp [*]; done)), (by first | rfl | (simp; done) | (simp [*]; done)), (by first | rfl | (simp; done) | (simp [*]; done)), (by first | rfl | (simp; done) | (simp [*]; done)), H', ⟨by first | omega | exact Nat.le_refl _⟩, ⟨by (with_reducible repeat (first | refine blk_drewN ?_ _ | refine blk_drew ?_ | refine blk_alloc ?_ _)); exact BK187.out⟩, ⟨by repeat (first | (with_reducible first | exact HB.out | apply below_alloc | apply pw_below_drewN | apply below_drew1 | refine below_set ?_ GE187.out) | exact HB.out)⟩⟩
  case rest =>
    clear HC2
    try clear p2
    try clear c4
    try clear c4b0
    try clear c4b1
    try clear hcz5_0
    try clear hcz5_1
    try clear hcz5_2
    try clear hcz5_3
    try clear hcz5_4
    try clear hcz5_5
    try clear hcz5_6
    try clear hcz5_7
    try clear hcz6_0
    try clear hcz6_1
    try clear hcz6_2
    try clear hcz6_3
    try clear hcz6_4
    try clear hcz6_5
    try clear hcz6_6
    try clear hcz6_7
    try clear hfz5_0
    try clear hfz5_1
    try clear hfz5_2
    try clear hfz5_3
    try clear hfz5_4
    try clear hfz5_5
    try clear hfz5_6
    try clear hfz5_7
    try clear hfz6_0
    try clear hfz6_1
    try clear hfz6_2
    try clear hfz6_3
    try clear hfz6_4
    try clear hfz6_5
    try clear hfz6_6
    try clear hfz6_7
    obtain ⟨kq, x3_1, x4_1, x5_1, x6_1, x7_1, x8_1, rfl, rfl, rfl, rfl, rfl, rfl, HA, HJ1, BK187, HB⟩ := hcut
    cases kq with
    | zero => exact absurd HA.out (by simp [burinref06_Fits.j0])
    | succ kj1 =>
      have H := HA.out
      clear HA
      simp only [burinref06_Fits.j0] at H
      have HC7 := Aside0.mk H
      clear H
      have hcz8_0 : wc.cell? ⟨gb187, 0, none⟩ = some (.int .i64 a0_0) := (blk_cell BK187.out 0).trans rfl
      have hcz8_1 : wc.cell? ⟨gb187, 1, none⟩ = some (.slice A0_1 l0_1.length c0_1) := (blk_cell BK187.out 1).trans rfl
      have hcz8_2 : wc.cell? ⟨gb187, 2, none⟩ = some (.int .i64 a0_2) := (blk_cell BK187.out 2).trans rfl
      have hcz8_3 : wc.cell? ⟨gb187, 3, none⟩ = some (.string a0_3) := (blk_cell BK187.out 3).trans rfl
      have hcz8_4 : wc.cell? ⟨gb187, 4, none⟩ = some (.int .i64 a0_4) := (blk_cell BK187.out 4).trans rfl
      have hcz8_5 : wc.cell? ⟨gb187, 5, none⟩ = some (.int .i64 a0_5) := (blk_cell BK187.out 5).trans rfl
      have hcz8_6 : wc.cell? ⟨gb187, 6, none⟩ = some (.bool a0_6) := (blk_cell BK187.out 6).trans rfl
      have hcz8_7 : wc.cell? ⟨gb187, 7, none⟩ = some (.slice A0_7 l0_7.length c0_7) := (blk_cell BK187.out 7).trans rfl
      have hfz8_0 := blk_frozen BK187.out 0
      have hfz8_1 := blk_frozen BK187.out 1
      have hfz8_2 := blk_frozen BK187.out 2
      have hfz8_3 := blk_frozen BK187.out 3
      have hfz8_4 := blk_frozen BK187.out 4
      have hfz8_5 := blk_frozen BK187.out 5
      have hfz8_6 := blk_frozen BK187.out 6
      have hfz8_7 := blk_frozen BK187.out 7
      go_upto_if 35 with (fail)
      repeat (go_quiet (fail); go_upto_if 35 with (fail))
      go_cut [35] (fun v35 wc => ∃ (kq : Nat) (x35_6 : Bool), v35 = .bool x35_6 ∧ Aside0 (burinref06_Fits.j1 kq x3_1 x4_1 x5_1 x6_1 x7_1 x8_1 a0_0 x35_6 a0_0 l0_1 a0_2 a0_3 a0_4 a0_5 a0_6 l0_7 = some r) ∧ Aside0 (kq ≤ kj1) ∧ Aside0 (wc.heap[gb187]? = some (.cells #[.int .i64 a0_0, (.slice A0_1 l0_1.length c0_1), .int .i64 a0_2, .string a0_3, .int .i64 a0_4, .int .i64 a0_5, .bool a0_6, (.slice A0_7 l0_7.length c0_7)] 25 (0, 0))) ∧ Aside0 (Below w.heap.size w wc))
      case first =>
        have H := HC7.out
        clear HC7
        by_cases c9 : a0_0 = 1
        · rw [if_pos c9] at H
          have c9b0 : (a0_0 == 1) = true := beq_iff_eq.mpr c9
          have c9b1 : (a0_0 != 1) = false := bne_eq_false_iff_eq.mpr c9
          clear c9
          (first | rw [c9b0] | (simp only [i64_w, i32_w]; rw [c9b0]) | skip)
          have H' := Aside0.mk H
          clear H
          go_wp2
          repeat (go_quiet (fail); try go_wp2)
          go_meet
          case rel => exact ⟨_, ((a0_0 == 1)), (by first | rfl | (simp; done) | (simp [*]; done)), H', ⟨by have := HJ1.out; first | omega | exact Nat.le_refl _⟩, ⟨by (with_reducible repeat (first | refine blk_drewN ?_ _ | refine blk_drew ?_ | refine blk_alloc ?_ _)); exact BK187.out⟩, ⟨by repeat (first | (with_reducible first | exact HB.out | apply below_alloc | apply pw_below_drewN | apply below_drew1 | refine below_set ?_ GE187.out) | exact HB.out)⟩⟩
        · rw [if_neg c9] at H
          have c9b0 : (a0_0 == 1) = false := beq_eq_false_iff_ne.mpr c9
          have c9b1 : (a0_0 != 1) = true := bne_iff_ne.mpr c9
          (first | rw [c9b0] | (simp only [i64_w, i32_w]; rw [c9b0]) | skip)
          by_cases c10 : a0_0 = 2
          · rw [if_pos c10] at H
            have c10b0 : (a0_0 == 2) = true := beq_iff_eq.mpr c10
            have c10b1 : (a0_0 != 2) = false := bne_eq_false_iff_eq.mpr c10
            clear c10
            have H' := Aside0.mk H
            clear H
            go_wp2
            repeat (go_quiet (fail); try go_wp2)
            go_meet
            case rel => exact ⟨_, ((a0_0 == 2)), (by first | rfl | (simp; done) | (simp [*]; done)), H', ⟨by have := HJ1.out; first | omega | exact Nat.le_refl _⟩, ⟨by (with_reducible repeat (first | refine blk_drewN ?_ _ | refine blk_drew ?_ | refine blk_alloc ?_ _)); exact BK187.out⟩, ⟨by repeat (first | (with_reducible first | exact HB.out | apply below_alloc | apply pw_below_drewN | apply below_drew1 | refine below_set ?_ GE187.out) | exact HB.out)⟩⟩
          · rw [if_neg c10] at H
            have c10b0 : (a0_0 == 2) = false := beq_eq_false_iff_ne.mpr c10
            have c10b1 : (a0_0 != 2) = true := bne_iff_ne.mpr c10
            have H' := Aside0.mk H
            clear H
            go_wp2
            repeat (go_quiet (fail); try go_wp2)
            go_meet
            case rel => exact ⟨_, ((a0_0 == 4)), (by first | rfl | (simp; done) | (simp [*]; done)), H', ⟨by have := HJ1.out; first | omega | exact Nat.le_refl _⟩, ⟨by (with_reducible repeat (first | refine blk_drewN ?_ _ | refine blk_drew ?_ | refine blk_alloc ?_ _)); exact BK187.out⟩, ⟨by repeat (first | (with_reducible first | exact HB.out | apply below_alloc | apply pw_below_drewN | apply below_drew1 | refine below_set ?_ GE187.out) | exact HB.out)⟩⟩
      case rest =>
        clear HC7
        try clear c1
        try clear p2
        try clear c4
        try clear c4b0
        try clear c4b1
        try clear c7
        try clear c9
        try clear c9b0
        try clear c9b1
        try clear c10
        try clear c10b0
        try clear c10b1
        try clear hcz5_0
        try clear hcz5_1
        try clear hcz5_2
        try clear hcz5_3
        try clear hcz5_4
        try clear hcz5_5
        try clear hcz5_6
        try clear hcz5_7
        try clear hcz6_0
        try clear hcz6_1
        try clear hcz6_2
        try clear hcz6_3
        try clear hcz6_4
        try clear hcz6_5
        try clear hcz6_6
        try clear hcz6_7
        try clear hcz8_0
        try clear hcz8_1
        try clear hcz8_2
        try clear hcz8_3
        try clear hcz8_4
        try clear hcz8_5
        try clear hcz8_6
        try clear hcz8_7
        try clear hfz5_0
        try clear hfz5_1
        try clear hfz5_2
        try clear hfz5_3
        try clear hfz5_4
        try clear hfz5_5
        try clear hfz5_6
        try clear hfz5_7
        try clear hfz6_0
        try clear hfz6_1
        try clear hfz6_2
        try clear hfz6_3
        try clear hfz6_4
        try clear hfz6_5
        try clear hfz6_6
        try clear hfz6_7
        try clear hfz8_0
        try clear hfz8_1
        try clear hfz8_2
        try clear hfz8_3
        try clear hfz8_4
        try clear hfz8_5
        try clear hfz8_6
        try clear hfz8_7
        try clear p2
        obtain ⟨kq, x35_6, rfl, HA, HJ6, BK187, HB⟩ := hcut
        cases kq with
        | zero => exact absurd HA.out (by simp [burinref06_Fits.j1])
        | succ kj6 =>
          have H := HA.out
          clear HA
          simp only [burinref06_Fits.j1] at H
          by_cases c11 : x35_6 = true
          · subst c11
            have H1 : (if x3_1 = true then (if x4_1 = true then (if x5_1 = true then (if x6_1 = true then (if x7_1 = true then (some (x8_1 == 0)) else (some false)) else (some false)) else (some false)) else (some false)) else (some false)) = some r := by rw [if_pos rfl] at H; exact H
            clear H
            have H := H1
            clear H1
            by_cases c12 : x3_1 = true
            · subst c12
              have H1 : (if x4_1 = true then (if x5_1 = true then (if x6_1 = true then (if x7_1 = true then (some (x8_1 == 0)) else (some false)) else (some false)) else (some false)) else (some false)) = some r := by rw [if_pos rfl] at H; exact H
              clear H
              have H := H1
              clear H1
              by_cases c13 : x4_1 = true
              · subst c13
                have H1 : (if x5_1 = true then (if x6_1 = true then (if x7_1 = true then (some (x8_1 == 0)) else (some false)) else (some false)) else (some false)) = some r := by rw [if_pos rfl] at H; exact H
                clear H
                have H := H1
                clear H1
                by_cases c14 : x5_1 = true
                · subst c14
                  have H1 : (if x6_1 = true then (if x7_1 = true then (some (x8_1 == 0)) else (some false)) else (some false)) = some r := by rw [if_pos rfl] at H; exact H
                  clear H
                  have H := H1
                  clear H1
                  by_cases c15 : x6_1 = true
                  · subst c15
                    have H1 : (if x7_1 = true then (some (x8_1 == 0)) else (some false)) = some r := by rw [if_pos rfl] at H; exact H
                    clear H
                    have H := H1
                    clear H1
                    by_cases c16 : x7_1 = true
                    · subst c16
                      have H1 : (some (x8_1 == 0)) = some r := by rw [if_pos rfl] at H; exact H
                      clear H
                      have H := H1
                      clear H1
                      obtain rfl := Option.some.inj H
                      go_wp2
                      repeat (go_quiet (fail); try go_wp2)
                      go_ret
                      exact ⟨by first | rfl | (simp [errW_none, errW_some] <;> rfl) | (simp [*, errW_none, errW_some] <;> rfl), by repeat (first | (with_reducible first | exact HB.out | apply below_alloc | apply pw_below_drewN | apply below_drew1 | refine below_set ?_ GE187.out) | exact HB.out)⟩
                    · replace c16 := Bool.eq_false_iff.mpr c16
                      subst c16
                      have H1 : (some false) = some r := by rw [if_neg (show ¬ (false = true) by decide)] at H; exact H
                      clear H
                      have H := H1
                      clear H1
                      obtain rfl := Option.some.inj H
                      go_wp2
                      repeat (go_quiet (fail); try go_wp2)
                      go_ret
                      exact ⟨by first | rfl | (simp [errW_none, errW_some] <;> rfl) | (simp [*, errW_none, errW_some] <;> rfl), by repeat (first | (with_reducible first | exact HB.out | apply below_alloc | apply pw_below_drewN | apply below_drew1 | refine below_set ?_ GE187.out) | exact HB.out)⟩
                  · replace c15 := Bool.eq_false_iff.mpr c15
                    subst c15
                    have H1 : (some false) = some r := by rw [if_neg (show ¬ (false = true) by decide)] at H; exact H
                    clear H
                    have H := H1
                    clear H1
                    obtain rfl := Option.some.inj H
                    go_wp2
                    repeat (go_quiet (fail); try go_wp2)
                    go_ret
                    exact ⟨by first | rfl | (simp [errW_none, errW_some] <;> rfl) | (simp [*, errW_none, errW_some] <;> rfl), by repeat (first | (with_reducible first | exact HB.out | apply below_alloc | apply pw_below_drewN | apply below_drew1 | refine below_set ?_ GE187.out) | exact HB.out)⟩
                · replace c14 := Bool.eq_false_iff.mpr c14
                  subst c14
                  have H1 : (some false) = some r := by rw [if_neg (show ¬ (false = true) by decide)] at H; exact H
                  clear H
                  have H := H1
                  clear H1
                  obtain rfl := Option.some.inj H
                  go_wp2
                  repeat (go_quiet (fail); try go_wp2)
                  go_ret
                  exact ⟨by first | rfl | (simp [errW_none, errW_some] <;> rfl) | (simp [*, errW_none, errW_some] <;> rfl), by repeat (first | (with_reducible first | exact HB.out | apply below_alloc | apply pw_below_drewN | apply below_drew1 | refine below_set ?_ GE187.out) | exact HB.out)⟩
              · replace c13 := Bool.eq_false_iff.mpr c13
                subst c13
                have H1 : (some false) = some r := by rw [if_neg (show ¬ (false = true) by decide)] at H; exact H
                clear H
                have H := H1
                clear H1
                obtain rfl := Option.some.inj H
                go_wp2
                repeat (go_quiet (fail); try go_wp2)
                go_ret
                exact ⟨by first | rfl | (simp [errW_none, errW_some] <;> rfl) | (simp [*, errW_none, errW_some] <;> rfl), by repeat (first | (with_reducible first | exact HB.out | apply below_alloc | apply pw_below_drewN | apply below_drew1 | refine below_set ?_ GE187.out) | exact HB.out)⟩
            · replace c12 := Bool.eq_false_iff.mpr c12
              subst c12
              have H1 : (some false) = some r := by rw [if_neg (show ¬ (false = true) by decide)] at H; exact H
              clear H
              have H := H1
              clear H1
              obtain rfl := Option.some.inj H
              go_wp2
              repeat (go_quiet (fail); try go_wp2)
              go_ret
              exact ⟨by first | rfl | (simp [errW_none, errW_some] <;> rfl) | (simp [*, errW_none, errW_some] <;> rfl), by repeat (first | (with_reducible first | exact HB.out | apply below_alloc | apply pw_below_drewN | apply below_drew1 | refine below_set ?_ GE187.out) | exact HB.out)⟩
          · replace c11 := Bool.eq_false_iff.mpr c11
            subst c11
            have H1 : (if a0_0 = 3 then (if x3_1 = true then (some false) else ((burinref02_Check.f kj6 l0_1).bind fun t188 => (if t188 = 0 then (if x4_1 = true then (if x5_1 = true then (if x6_1 = true then (if x7_1 = true then (some (x8_1 == 0)) else (some false)) else (some false)) else (some false)) else (some false)) else (some false)))) else (if a0_0 = 5 then (if x3_1 = true then (if a0_2 ≥ 1 then (if a0_2 ≤ 6 then (if x5_1 = true then (if x6_1 = true then (if x7_1 = true then (some (x8_1 == 0)) else (some false)) else (some false)) else (some false)) else (some false)) else (some false)) else (some false)) else (if a0_0 = 6 then (if x3_1 = true then (if a0_2 ≥ 1 then (if x5_1 = true then (if x6_1 = true then (if x7_1 = true then (some (x8_1 == 1)) else (some false)) else (some false)) else ((burinref06_Name.f kj6 a0_3).bind fun t189 => (if t189 = true then (if x6_1 = true then (if x7_1 = true then (some (x8_1 == 1)) else (some false)) else (some false)) else (some false)))) else (some false)) else (some false)) else (if a0_0 = 7 then (burinref06_Fits.j2 kj6 x3_1 x4_1 x5_1 x6_1 x7_1 x8_1 a0_0 (a0_0 == 7) a0_0 l0_1 a0_2 a0_3 a0_4 a0_5 a0_6 l0_7) else (burinref06_Fits.j2 kj6 x3_1 x4_1 x5_1 x6_1 x7_1 x8_1 a0_0 (a0_0 == 8) a0_0 l0_1 a0_2 a0_3 a0_4 a0_5 a0_6 l0_7))))) = some r := by rw [if_neg (show ¬ (false = true) by decide)] at H; exact H
            clear H
            have H := H1
            clear H1
            by_cases c17 : a0_0 = 3
            · rw [if_pos c17] at H
              have c17b0 : (a0_0 == 3) = true := beq_iff_eq.mpr c17
              have c17b1 : (a0_0 != 3) = false := bne_eq_false_iff_eq.mpr c17
              clear c17
              by_cases c18 : x3_1 = true
              · subst c18
                have H1 : (some false) = some r := by rw [if_pos rfl] at H; exact H
                clear H
                have H := H1
                clear H1
                obtain rfl := Option.some.inj H
                go_wp2
                repeat (go_quiet (fail); try go_wp2)
                go_ret
                exact ⟨by first | rfl | (simp [errW_none, errW_some] <;> rfl) | (simp [*, errW_none, errW_some] <;> rfl), by repeat (first | (with_reducible first | exact HB.out | apply below_alloc | apply pw_below_drewN | apply below_drew1 | refine below_set ?_ GE187.out) | exact HB.out)⟩
              · replace c18 := Bool.eq_false_iff.mpr c18
                subst c18
                have H1 : ((burinref02_Check.f kj6 l0_1).bind fun t188 => (if t188 = 0 then (if x4_1 = true then (if x5_1 = true then (if x6_1 = true then (if x7_1 = true then (some (x8_1 == 0)) else (some false)) else (some false)) else (some false)) else (some false)) else (some false))) = some r := by rw [if_neg (show ¬ (false = true) by decide)] at H; exact H
                clear H
                have H := H1
                clear H1
                replace H := Option.bind_eq_some_iff.mp H
                obtain ⟨t188, A190, H⟩ := H
                replace H : (if t188 = 0 then (if x4_1 = true then (if x5_1 = true then (if x6_1 = true then (if x7_1 = true then (some (x8_1 == 0)) else (some false)) else (some false)) else (some false)) else (some false)) else (some false)) = some r := H
                have A19 := Aside0.mk A190
                clear A190
                by_cases c20 : t188 = 0
                · rw [if_pos c20] at H
                  have c20b0 : (t188 == 0) = true := beq_iff_eq.mpr c20
                  have c20b1 : (t188 != 0) = false := bne_eq_false_iff_eq.mpr c20
                  clear c20
                  by_cases c21 : x4_1 = true
                  · subst c21
                    have H1 : (if x5_1 = true then (if x6_1 = true then (if x7_1 = true then (some (x8_1 == 0)) else (some false)) else (some false)) else (some false)) = some r := by rw [if_pos rfl] at H; exact H
                    clear H
                    have H := H1
                    clear H1
                    by_cases c22 : x5_1 = true
                    · subst c22
                      have H1 : (if x6_1 = true then (if x7_1 = true then (some (x8_1 == 0)) else (some false)) else (some false)) = some r := by rw [if_pos rfl] at H; exact H
                      clear H
                      have H := H1
                      clear H1
                      by_cases c23 : x6_1 = true
                      · subst c23
                        have H1 : (if x7_1 = true then (some (x8_1 == 0)) else (some false)) = some r := by rw [if_pos rfl] at H; exact H
                        clear H
                        have H := H1
                        clear H1
                        by_cases c24 : x7_1 = true
                        · subst c24
                          have H1 : (some (x8_1 == 0)) = some r := by rw [if_pos rfl] at H; exact H
                          clear H
                          have H := H1
                          clear H1
                          obtain rfl := Option.some.inj H
                          have hcz25_0 : wc.cell? ⟨gb187, 0, none⟩ = some (.int .i64 a0_0) := (blk_cell BK187.out 0).trans rfl
                          have hcz25_1 : wc.cell? ⟨gb187, 1, none⟩ = some (.slice A0_1 l0_1.length c0_1) := (blk_cell BK187.out 1).trans rfl
                          have hcz25_2 : wc.cell? ⟨gb187, 2, none⟩ = some (.int .i64 a0_2) := (blk_cell BK187.out 2).trans rfl
                          have hcz25_3 : wc.cell? ⟨gb187, 3, none⟩ = some (.string a0_3) := (blk_cell BK187.out 3).trans rfl
                          have hcz25_4 : wc.cell? ⟨gb187, 4, none⟩ = some (.int .i64 a0_4) := (blk_cell BK187.out 4).trans rfl
                          have hcz25_5 : wc.cell? ⟨gb187, 5, none⟩ = some (.int .i64 a0_5) := (blk_cell BK187.out 5).trans rfl
                          have hcz25_6 : wc.cell? ⟨gb187, 6, none⟩ = some (.bool a0_6) := (blk_cell BK187.out 6).trans rfl
                          have hcz25_7 : wc.cell? ⟨gb187, 7, none⟩ = some (.slice A0_7 l0_7.length c0_7) := (blk_cell BK187.out 7).trans rfl
                          have hfz25_0 := blk_frozen BK187.out 0
                          have hfz25_1 := blk_frozen BK187.out 1
                          have hfz25_2 := blk_frozen BK187.out 2
                          have hfz25_3 := blk_frozen BK187.out 3
                          have hfz25_4 := blk_frozen BK187.out 4
                          have hfz25_5 := blk_frozen BK187.out 5
                          have hfz25_6 := blk_frozen BK187.out 6
                          have hfz25_7 := blk_frozen BK187.out 7
                          go_wp2_with (first | (go_at_call 108; (with_reducible refine (burinref02_Check.calls kj6 _ _ l0_1 t188 _ ?side1 ?side2 A19.out).mono ?_); (case side1 => repeat (first | exact (Kd.C_below HR0_1.out HB.out) | (with_reducible refine Kd.C_alloc ?_ _) | (with_reducible refine Kd.C_drewN ?_ _) | (with_reducible refine Kd.C_drew ?_))); (case side2 => exact HC0_1.out); rintro e w' ⟨rfl, ⟨nd, rfl⟩⟩; (try first | exact ⟨rfl, _, World.drewN_drewN _ _ _⟩ | exact ⟨rfl, _, Eq.trans (World.drewN_drewN _ _ _) (congrArg (World.drewN _) (Nat.add_assoc _ _ _))⟩)))
                          repeat (go_quiet (first | (go_at_call 108; (with_reducible refine (burinref02_Check.calls kj6 _ _ l0_1 t188 _ ?side1 ?side2 A19.out).mono ?_); (case side1 => repeat (first | exact (Kd.C_below HR0_1.out HB.out) | (with_reducible refine Kd.C_alloc ?_ _) | (with_reducible refine Kd.C_drewN ?_ _) | (with_reducible refine Kd.C_drew ?_))); (case side2 => exact HC0_1.out); rintro e w' ⟨rfl, ⟨nd, rfl⟩⟩; (try first | exact ⟨rfl, _, World.drewN_drewN _ _ _⟩ | exact ⟨rfl, _, Eq.trans (World.drewN_drewN _ _ _) (congrArg (World.drewN _) (Nat.add_assoc _ _ _))⟩))); try go_wp2_with (first | (go_at_call 108; (with_reducible refine (burinref02_Check.calls kj6 _ _ l0_1 t188 _ ?side1 ?side2 A19.out).mono ?_); (case side1 => repeat (first | exact (Kd.C_below HR0_1.out HB.out) | (with_reducible refine Kd.C_alloc ?_ _) | (with_reducible refine Kd.C_drewN ?_ _) | (with_reducible refine Kd.C_drew ?_))); (case side2 => exact HC0_1.out); rintro e w' ⟨rfl, ⟨nd, rfl⟩⟩; (try first | exact ⟨rfl, _, World.drewN_drewN _ _ _⟩ | exact ⟨rfl, _, Eq.trans (World.drewN_drewN _ _ _) (congrArg (World.drewN _) (Nat.add_assoc _ _ _))⟩))))
                          go_ret
                          exact ⟨by first | rfl | (simp [errW_none, errW_some] <;> rfl) | (simp [*, errW_none, errW_some] <;> rfl), by repeat (first | (with_reducible first | exact HB.out | apply below_alloc | apply pw_below_drewN | apply below_drew1 | refine below_set ?_ GE187.out) | exact HB.out)⟩
                        · replace c24 := Bool.eq_false_iff.mpr c24
                          subst c24
                          have H1 : (some false) = some r := by rw [if_neg (show ¬ (false = true) by decide)] at H; exact H
                          clear H
                          have H := H1
                          clear H1
                          obtain rfl := Option.some.inj H
                          have hcz26_0 : wc.cell? ⟨gb187, 0, none⟩ = some (.int .i64 a0_0) := (blk_cell BK187.out 0).trans rfl
                          have hcz26_1 : wc.cell? ⟨gb187, 1, none⟩ = some (.slice A0_1 l0_1.length c0_1) := (blk_cell BK187.out 1).trans rfl
                          have hcz26_2 : wc.cell? ⟨gb187, 2, none⟩ = some (.int .i64 a0_2) := (blk_cell BK187.out 2).trans rfl
                          have hcz26_3 : wc.cell? ⟨gb187, 3, none⟩ = some (.string a0_3) := (blk_cell BK187.out 3).trans rfl
                          have hcz26_4 : wc.cell? ⟨gb187, 4, none⟩ = some (.int .i64 a0_4) := (blk_cell BK187.out 4).trans rfl
                          have hcz26_5 : wc.cell? ⟨gb187, 5, none⟩ = some (.int .i64 a0_5) := (blk_cell BK187.out 5).trans rfl
                          have hcz26_6 : wc.cell? ⟨gb187, 6, none⟩ = some (.bool a0_6) := (blk_cell BK187.out 6).trans rfl
                          have hcz26_7 : wc.cell? ⟨gb187, 7, none⟩ = some (.slice A0_7 l0_7.length c0_7) := (blk_cell BK187.out 7).trans rfl
                          have hfz26_0 := blk_frozen BK187.out 0
                          have hfz26_1 := blk_frozen BK187.out 1
                          have hfz26_2 := blk_frozen BK187.out 2
                          have hfz26_3 := blk_frozen BK187.out 3
                          have hfz26_4 := blk_frozen BK187.out 4
                          have hfz26_5 := blk_frozen BK187.out 5
                          have hfz26_6 := blk_frozen BK187.out 6
                          have hfz26_7 := blk_frozen BK187.out 7
                          go_wp2_with (first | (go_at_call 108; (with_reducible refine (burinref02_Check.calls kj6 _ _ l0_1 t188 _ ?side1 ?side2 A19.out).mono ?_); (case side1 => repeat (first | exact (Kd.C_below HR0_1.out HB.out) | (with_reducible refine Kd.C_alloc ?_ _) | (with_reducible refine Kd.C_drewN ?_ _) | (with_reducible refine Kd.C_drew ?_))); (case side2 => exact HC0_1.out); rintro e w' ⟨rfl, ⟨nd, rfl⟩⟩; (try first | exact ⟨rfl, _, World.drewN_drewN _ _ _⟩ | exact ⟨rfl, _, Eq.trans (World.drewN_drewN _ _ _) (congrArg (World.drewN _) (Nat.add_assoc _ _ _))⟩)))
                          repeat (go_quiet (first | (go_at_call 108; (with_reducible refine (burinref02_Check.calls kj6 _ _ l0_1 t188 _ ?side1 ?side2 A19.out).mono ?_); (case side1 => repeat (first | exact (Kd.C_below HR0_1.out HB.out) | (with_reducible refine Kd.C_alloc ?_ _) | (with_reducible refine Kd.C_drewN ?_ _) | (with_reducible refine Kd.C_drew ?_))); (case side2 => exact HC0_1.out); rintro e w' ⟨rfl, ⟨nd, rfl⟩⟩; (try first | exact ⟨rfl, _, World.drewN_drewN _ _ _⟩ | exact ⟨rfl, _, Eq.trans (World.drewN_drewN _ _ _) (congrArg (World.drewN _) (Nat.add_assoc _ _ _))⟩))); try go_wp2_with (first | (go_at_call 108; (with_reducible refine (burinref02_Check.calls kj6 _ _ l0_1 t188 _ ?side1 ?side2 A19.out).mono ?_); (case side1 => repeat (first | exact (Kd.C_below HR0_1.out HB.out) | (with_reducible refine Kd.C_alloc ?_ _) | (with_reducible refine Kd.C_drewN ?_ _) | (with_reducible refine Kd.C_drew ?_))); (case side2 => exact HC0_1.out); rintro e w' ⟨rfl, ⟨nd, rfl⟩⟩; (try first | exact ⟨rfl, _, World.drewN_drewN _ _ _⟩ | exact ⟨rfl, _, Eq.trans (World.drewN_drewN _ _ _) (congrArg (World.drewN _) (Nat.add_assoc _ _ _))⟩))))
                          go_ret
                          exact ⟨by first | rfl | (simp [errW_none, errW_some] <;> rfl) | (simp [*, errW_none, errW_some] <;> rfl), by repeat (first | (with_reducible first | exact HB.out | apply below_alloc | apply pw_below_drewN | apply below_drew1 | refine below_set ?_ GE187.out) | exact HB.out)⟩
                      · replace c23 := Bool.eq_false_iff.mpr c23
                        subst c23
                        have H1 : (some false) = some r := by rw [if_neg (show ¬ (false = true) by decide)] at H; exact H
                        clear H
                        have H := H1
                        clear H1
                        obtain rfl := Option.some.inj H
                        have hcz27_0 : wc.cell? ⟨gb187, 0, none⟩ = some (.int .i64 a0_0) := (blk_cell BK187.out 0).trans rfl
                        have hcz27_1 : wc.cell? ⟨gb187, 1, none⟩ = some (.slice A0_1 l0_1.length c0_1) := (blk_cell BK187.out 1).trans rfl
                        have hcz27_2 : wc.cell? ⟨gb187, 2, none⟩ = some (.int .i64 a0_2) := (blk_cell BK187.out 2).trans rfl
                        have hcz27_3 : wc.cell? ⟨gb187, 3, none⟩ = some (.string a0_3) := (blk_cell BK187.out 3).trans rfl
                        have hcz27_4 : wc.cell? ⟨gb187, 4, none⟩ = some (.int .i64 a0_4) := (blk_cell BK187.out 4).trans rfl
                        have hcz27_5 : wc.cell? ⟨gb187, 5, none⟩ = some (.int .i64 a0_5) := (blk_cell BK187.out 5).trans rfl
                        have hcz27_6 : wc.cell? ⟨gb187, 6, none⟩ = some (.bool a0_6) := (blk_cell BK187.out 6).trans rfl
                        have hcz27_7 : wc.cell? ⟨gb187, 7, none⟩ = some (.slice A0_7 l0_7.length c0_7) := (blk_cell BK187.out 7).trans rfl
                        have hfz27_0 := blk_frozen BK187.out 0
                        have hfz27_1 := blk_frozen BK187.out 1
                        have hfz27_2 := blk_frozen BK187.out 2
                        have hfz27_3 := blk_frozen BK187.out 3
                        have hfz27_4 := blk_frozen BK187.out 4
                        have hfz27_5 := blk_frozen BK187.out 5
                        have hfz27_6 := blk_frozen BK187.out 6
                        have hfz27_7 := blk_frozen BK187.out 7
                        go_wp2_with (first | (go_at_call 108; (with_reducible refine (burinref02_Check.calls kj6 _ _ l0_1 t188 _ ?side1 ?side2 A19.out).mono ?_); (case side1 => repeat (first | exact (Kd.C_below HR0_1.out HB.out) | (with_reducible refine Kd.C_alloc ?_ _) | (with_reducible refine Kd.C_drewN ?_ _) | (with_reducible refine Kd.C_drew ?_))); (case side2 => exact HC0_1.out); rintro e w' ⟨rfl, ⟨nd, rfl⟩⟩; (try first | exact ⟨rfl, _, World.drewN_drewN _ _ _⟩ | exact ⟨rfl, _, Eq.trans (World.drewN_drewN _ _ _) (congrArg (World.drewN _) (Nat.add_assoc _ _ _))⟩)))
                        repeat (go_quiet (first | (go_at_call 108; (with_reducible refine (burinref02_Check.calls kj6 _ _ l0_1 t188 _ ?side1 ?side2 A19.out).mono ?_); (case side1 => repeat (first | exact (Kd.C_below HR0_1.out HB.out) | (with_reducible refine Kd.C_alloc ?_ _) | (with_reducible refine Kd.C_drewN ?_ _) | (with_reducible refine Kd.C_drew ?_))); (case side2 => exact HC0_1.out); rintro e w' ⟨rfl, ⟨nd, rfl⟩⟩; (try first | exact ⟨rfl, _, World.drewN_drewN _ _ _⟩ | exact ⟨rfl, _, Eq.trans (World.drewN_drewN _ _ _) (congrArg (World.drewN _) (Nat.add_assoc _ _ _))⟩))); try go_wp2_with (first | (go_at_call 108; (with_reducible refine (burinref02_Check.calls kj6 _ _ l0_1 t188 _ ?side1 ?side2 A19.out).mono ?_); (case side1 => repeat (first | exact (Kd.C_below HR0_1.out HB.out) | (with_reducible refine Kd.C_alloc ?_ _) | (with_reducible refine Kd.C_drewN ?_ _) | (with_reducible refine Kd.C_drew ?_))); (case side2 => exact HC0_1.out); rintro e w' ⟨rfl, ⟨nd, rfl⟩⟩; (try first | exact ⟨rfl, _, World.drewN_drewN _ _ _⟩ | exact ⟨rfl, _, Eq.trans (World.drewN_drewN _ _ _) (congrArg (World.drewN _) (Nat.add_assoc _ _ _))⟩))))
                        go_ret
                        exact ⟨by first | rfl | (simp [errW_none, errW_some] <;> rfl) | (simp [*, errW_none, errW_some] <;> rfl), by repeat (first | (with_reducible first | exact HB.out | apply below_alloc | apply pw_below_drewN | apply below_drew1 | refine below_set ?_ GE187.out) | exact HB.out)⟩
                    · replace c22 := Bool.eq_false_iff.mpr c22
                      subst c22
                      have H1 : (some false) = some r := by rw [if_neg (show ¬ (false = true) by decide)] at H; exact H
                      clear H
                      have H := H1
                      clear H1
                      obtain rfl := Option.some.inj H
                      have hcz28_0 : wc.cell? ⟨gb187, 0, none⟩ = some (.int .i64 a0_0) := (blk_cell BK187.out 0).trans rfl
                      have hcz28_1 : wc.cell? ⟨gb187, 1, none⟩ = some (.slice A0_1 l0_1.length c0_1) := (blk_cell BK187.out 1).trans rfl
                      have hcz28_2 : wc.cell? ⟨gb187, 2, none⟩ = some (.int .i64 a0_2) := (blk_cell BK187.out 2).trans rfl
                      have hcz28_3 : wc.cell? ⟨gb187, 3, none⟩ = some (.string a0_3) := (blk_cell BK187.out 3).trans rfl
                      have hcz28_4 : wc.cell? ⟨gb187, 4, none⟩ = some (.int .i64 a0_4) := (blk_cell BK187.out 4).trans rfl
                      have hcz28_5 : wc.cell? ⟨gb187, 5, none⟩ = some (.int .i64 a0_5) := (blk_cell BK187.out 5).trans rfl
                      have hcz28_6 : wc.cell? ⟨gb187, 6, none⟩ = some (.bool a0_6) := (blk_cell BK187.out 6).trans rfl
                      have hcz28_7 : wc.cell? ⟨gb187, 7, none⟩ = some (.slice A0_7 l0_7.length c0_7) := (blk_cell BK187.out 7).trans rfl
                      have hfz28_0 := blk_frozen BK187.out 0
                      have hfz28_1 := blk_frozen BK187.out 1
                      have hfz28_2 := blk_frozen BK187.out 2
                      have hfz28_3 := blk_frozen BK187.out 3
                      have hfz28_4 := blk_frozen BK187.out 4
                      have hfz28_5 := blk_frozen BK187.out 5
                      have hfz28_6 := blk_frozen BK187.out 6
                      have hfz28_7 := blk_frozen BK187.out 7
                      go_wp2_with (first | (go_at_call 108; (with_reducible refine (burinref02_Check.calls kj6 _ _ l0_1 t188 _ ?side1 ?side2 A19.out).mono ?_); (case side1 => repeat (first | exact (Kd.C_below HR0_1.out HB.out) | (with_reducible refine Kd.C_alloc ?_ _) | (with_reducible refine Kd.C_drewN ?_ _) | (with_reducible refine Kd.C_drew ?_))); (case side2 => exact HC0_1.out); rintro e w' ⟨rfl, ⟨nd, rfl⟩⟩; (try first | exact ⟨rfl, _, World.drewN_drewN _ _ _⟩ | exact ⟨rfl, _, Eq.trans (World.drewN_drewN _ _ _) (congrArg (World.drewN _) (Nat.add_assoc _ _ _))⟩)))
                      repeat (go_quiet (first | (go_at_call 108; (with_reducible refine (burinref02_Check.calls kj6 _ _ l0_1 t188 _ ?side1 ?side2 A19.out).mono ?_); (case side1 => repeat (first | exact (Kd.C_below HR0_1.out HB.out) | (with_reducible refine Kd.C_alloc ?_ _) | (with_reducible refine Kd.C_drewN ?_ _) | (with_reducible refine Kd.C_drew ?_))); (case side2 => exact HC0_1.out); rintro e w' ⟨rfl, ⟨nd, rfl⟩⟩; (try first | exact ⟨rfl, _, World.drewN_drewN _ _ _⟩ | exact ⟨rfl, _, Eq.trans (World.drewN_drewN _ _ _) (congrArg (World.drewN _) (Nat.add_assoc _ _ _))⟩))); try go_wp2_with (first | (go_at_call 108; (with_reducible refine (burinref02_Check.calls kj6 _ _ l0_1 t188 _ ?side1 ?side2 A19.out).mono ?_); (case side1 => repeat (first | exact (Kd.C_below HR0_1.out HB.out) | (with_reducible refine Kd.C_alloc ?_ _) | (with_reducible refine Kd.C_drewN ?_ _) | (with_reducible refine Kd.C_drew ?_))); (case side2 => exact HC0_1.out); rintro e w' ⟨rfl, ⟨nd, rfl⟩⟩; (try first | exact ⟨rfl, _, World.drewN_drewN _ _ _⟩ | exact ⟨rfl, _, Eq.trans (World.drewN_drewN _ _ _) (congrArg (World.drewN _) (Nat.add_assoc _ _ _))⟩))))
                      go_ret
                      exact ⟨by first | rfl | (simp [errW_none, errW_some] <;> rfl) | (simp [*, errW_none, errW_some] <;> rfl), by repeat (first | (with_reducible first | exact HB.out | apply below_alloc | apply pw_below_drewN | apply below_drew1 | refine below_set ?_ GE187.out) | exact HB.out)⟩
                  · replace c21 := Bool.eq_false_iff.mpr c21
                    subst c21
                    have H1 : (some false) = some r := by rw [if_neg (show ¬ (false = true) by decide)] at H; exact H
                    clear H
                    have H := H1
                    clear H1
                    obtain rfl := Option.some.inj H
                    have hcz29_0 : wc.cell? ⟨gb187, 0, none⟩ = some (.int .i64 a0_0) := (blk_cell BK187.out 0).trans rfl
                    have hcz29_1 : wc.cell? ⟨gb187, 1, none⟩ = some (.slice A0_1 l0_1.length c0_1) := (blk_cell BK187.out 1).trans rfl
                    have hcz29_2 : wc.cell? ⟨gb187, 2, none⟩ = some (.int .i64 a0_2) := (blk_cell BK187.out 2).trans rfl
                    have hcz29_3 : wc.cell? ⟨gb187, 3, none⟩ = some (.string a0_3) := (blk_cell BK187.out 3).trans rfl
                    have hcz29_4 : wc.cell? ⟨gb187, 4, none⟩ = some (.int .i64 a0_4) := (blk_cell BK187.out 4).trans rfl
                    have hcz29_5 : wc.cell? ⟨gb187, 5, none⟩ = some (.int .i64 a0_5) := (blk_cell BK187.out 5).trans rfl
                    have hcz29_6 : wc.cell? ⟨gb187, 6, none⟩ = some (.bool a0_6) := (blk_cell BK187.out 6).trans rfl
                    have hcz29_7 : wc.cell? ⟨gb187, 7, none⟩ = some (.slice A0_7 l0_7.length c0_7) := (blk_cell BK187.out 7).trans rfl
                    have hfz29_0 := blk_frozen BK187.out 0
                    have hfz29_1 := blk_frozen BK187.out 1
                    have hfz29_2 := blk_frozen BK187.out 2
                    have hfz29_3 := blk_frozen BK187.out 3
                    have hfz29_4 := blk_frozen BK187.out 4
                    have hfz29_5 := blk_frozen BK187.out 5
                    have hfz29_6 := blk_frozen BK187.out 6
                    have hfz29_7 := blk_frozen BK187.out 7
                    go_wp2_with (first | (go_at_call 108; (with_reducible refine (burinref02_Check.calls kj6 _ _ l0_1 t188 _ ?side1 ?side2 A19.out).mono ?_); (case side1 => repeat (first | exact (Kd.C_below HR0_1.out HB.out) | (with_reducible refine Kd.C_alloc ?_ _) | (with_reducible refine Kd.C_drewN ?_ _) | (with_reducible refine Kd.C_drew ?_))); (case side2 => exact HC0_1.out); rintro e w' ⟨rfl, ⟨nd, rfl⟩⟩; (try first | exact ⟨rfl, _, World.drewN_drewN _ _ _⟩ | exact ⟨rfl, _, Eq.trans (World.drewN_drewN _ _ _) (congrArg (World.drewN _) (Nat.add_assoc _ _ _))⟩)))
                    repeat (go_quiet (first | (go_at_call 108; (with_reducible refine (burinref02_Check.calls kj6 _ _ l0_1 t188 _ ?side1 ?side2 A19.out).mono ?_); (case side1 => repeat (first | exact (Kd.C_below HR0_1.out HB.out) | (with_reducible refine Kd.C_alloc ?_ _) | (with_reducible refine Kd.C_drewN ?_ _) | (with_reducible refine Kd.C_drew ?_))); (case side2 => exact HC0_1.out); rintro e w' ⟨rfl, ⟨nd, rfl⟩⟩; (try first | exact ⟨rfl, _, World.drewN_drewN _ _ _⟩ | exact ⟨rfl, _, Eq.trans (World.drewN_drewN _ _ _) (congrArg (World.drewN _) (Nat.add_assoc _ _ _))⟩))); try go_wp2_with (first | (go_at_call 108; (with_reducible refine (burinref02_Check.calls kj6 _ _ l0_1 t188 _ ?side1 ?side2 A19.out).mono ?_); (case side1 => repeat (first | exact (Kd.C_below HR0_1.out HB.out) | (with_reducible refine Kd.C_alloc ?_ _) | (with_reducible refine Kd.C_drewN ?_ _) | (with_reducible refine Kd.C_drew ?_))); (case side2 => exact HC0_1.out); rintro e w' ⟨rfl, ⟨nd, rfl⟩⟩; (try first | exact ⟨rfl, _, World.drewN_drewN _ _ _⟩ | exact ⟨rfl, _, Eq.trans (World.drewN_drewN _ _ _) (congrArg (World.drewN _) (Nat.add_assoc _ _ _))⟩))))
                    go_ret
                    exact ⟨by first | rfl | (simp [errW_none, errW_some] <;> rfl) | (simp [*, errW_none, errW_some] <;> rfl), by repeat (first | (with_reducible first | exact HB.out | apply below_alloc | apply pw_below_drewN | apply below_drew1 | refine below_set ?_ GE187.out) | exact HB.out)⟩
                · rw [if_neg c20] at H
                  have c20b0 : (t188 == 0) = false := beq_eq_false_iff_ne.mpr c20
                  have c20b1 : (t188 != 0) = true := bne_iff_ne.mpr c20
                  obtain rfl := Option.some.inj H
                  have hcz30_0 : wc.cell? ⟨gb187, 0, none⟩ = some (.int .i64 a0_0) := (blk_cell BK187.out 0).trans rfl
                  have hcz30_1 : wc.cell? ⟨gb187, 1, none⟩ = some (.slice A0_1 l0_1.length c0_1) := (blk_cell BK187.out 1).trans rfl
                  have hcz30_2 : wc.cell? ⟨gb187, 2, none⟩ = some (.int .i64 a0_2) := (blk_cell BK187.out 2).trans rfl
                  have hcz30_3 : wc.cell? ⟨gb187, 3, none⟩ = some (.string a0_3) := (blk_cell BK187.out 3).trans rfl
                  have hcz30_4 : wc.cell? ⟨gb187, 4, none⟩ = some (.int .i64 a0_4) := (blk_cell BK187.out 4).trans rfl
                  have hcz30_5 : wc.cell? ⟨gb187, 5, none⟩ = some (.int .i64 a0_5) := (blk_cell BK187.out 5).trans rfl
                  have hcz30_6 : wc.cell? ⟨gb187, 6, none⟩ = some (.bool a0_6) := (blk_cell BK187.out 6).trans rfl
                  have hcz30_7 : wc.cell? ⟨gb187, 7, none⟩ = some (.slice A0_7 l0_7.length c0_7) := (blk_cell BK187.out 7).trans rfl
                  have hfz30_0 := blk_frozen BK187.out 0
                  have hfz30_1 := blk_frozen BK187.out 1
                  have hfz30_2 := blk_frozen BK187.out 2
                  have hfz30_3 := blk_frozen BK187.out 3
                  have hfz30_4 := blk_frozen BK187.out 4
                  have hfz30_5 := blk_frozen BK187.out 5
                  have hfz30_6 := blk_frozen BK187.out 6
                  have hfz30_7 := blk_frozen BK187.out 7
                  go_wp2_with (first | (go_at_call 108; (with_reducible refine (burinref02_Check.calls kj6 _ _ l0_1 t188 _ ?side1 ?side2 A19.out).mono ?_); (case side1 => repeat (first | exact (Kd.C_below HR0_1.out HB.out) | (with_reducible refine Kd.C_alloc ?_ _) | (with_reducible refine Kd.C_drewN ?_ _) | (with_reducible refine Kd.C_drew ?_))); (case side2 => exact HC0_1.out); rintro e w' ⟨rfl, ⟨nd, rfl⟩⟩; (try first | exact ⟨rfl, _, World.drewN_drewN _ _ _⟩ | exact ⟨rfl, _, Eq.trans (World.drewN_drewN _ _ _) (congrArg (World.drewN _) (Nat.add_assoc _ _ _))⟩)))
                  repeat (go_quiet (first | (go_at_call 108; (with_reducible refine (burinref02_Check.calls kj6 _ _ l0_1 t188 _ ?side1 ?side2 A19.out).mono ?_); (case side1 => repeat (first | exact (Kd.C_below HR0_1.out HB.out) | (with_reducible refine Kd.C_alloc ?_ _) | (with_reducible refine Kd.C_drewN ?_ _) | (with_reducible refine Kd.C_drew ?_))); (case side2 => exact HC0_1.out); rintro e w' ⟨rfl, ⟨nd, rfl⟩⟩; (try first | exact ⟨rfl, _, World.drewN_drewN _ _ _⟩ | exact ⟨rfl, _, Eq.trans (World.drewN_drewN _ _ _) (congrArg (World.drewN _) (Nat.add_assoc _ _ _))⟩))); try go_wp2_with (first | (go_at_call 108; (with_reducible refine (burinref02_Check.calls kj6 _ _ l0_1 t188 _ ?side1 ?side2 A19.out).mono ?_); (case side1 => repeat (first | exact (Kd.C_below HR0_1.out HB.out) | (with_reducible refine Kd.C_alloc ?_ _) | (with_reducible refine Kd.C_drewN ?_ _) | (with_reducible refine Kd.C_drew ?_))); (case side2 => exact HC0_1.out); rintro e w' ⟨rfl, ⟨nd, rfl⟩⟩; (try first | exact ⟨rfl, _, World.drewN_drewN _ _ _⟩ | exact ⟨rfl, _, Eq.trans (World.drewN_drewN _ _ _) (congrArg (World.drewN _) (Nat.add_assoc _ _ _))⟩))))
                  go_ret
                  exact ⟨by first | rfl | (simp [errW_none, errW_some] <;> rfl) | (simp [*, errW_none, errW_some] <;> rfl), by repeat (first | (with_reducible first | exact HB.out | apply below_alloc | apply pw_below_drewN | apply below_drew1 | refine below_set ?_ GE187.out) | exact HB.out)⟩
            · rw [if_neg c17] at H
              have c17b0 : (a0_0 == 3) = false := beq_eq_false_iff_ne.mpr c17
              have c17b1 : (a0_0 != 3) = true := bne_iff_ne.mpr c17
              by_cases c31 : a0_0 = 5
              · rw [if_pos c31] at H
                have c31b0 : (a0_0 == 5) = true := beq_iff_eq.mpr c31
                have c31b1 : (a0_0 != 5) = false := bne_eq_false_iff_eq.mpr c31
                clear c31
                by_cases c32 : x3_1 = true
                · subst c32
                  have H1 : (if a0_2 ≥ 1 then (if a0_2 ≤ 6 then (if x5_1 = true then (if x6_1 = true then (if x7_1 = true then (some (x8_1 == 0)) else (some false)) else (some false)) else (some false)) else (some false)) else (some false)) = some r := by rw [if_pos rfl] at H; exact H
                  clear H
                  have H := H1
                  clear H1
                  by_cases c33 : a0_2 ≥ 1
                  · rw [if_pos c33] at H
                    have c33b0 : decide (1 ≤ a0_2) = true := decide_eq_true c33
                    clear c33
                    by_cases c34 : a0_2 ≤ 6
                    · rw [if_pos c34] at H
                      have c34b0 : decide (a0_2 ≤ 6) = true := decide_eq_true c34
                      clear c34
                      by_cases c35 : x5_1 = true
                      · subst c35
                        have H1 : (if x6_1 = true then (if x7_1 = true then (some (x8_1 == 0)) else (some false)) else (some false)) = some r := by rw [if_pos rfl] at H; exact H
                        clear H
                        have H := H1
                        clear H1
                        by_cases c36 : x6_1 = true
                        · subst c36
                          have H1 : (if x7_1 = true then (some (x8_1 == 0)) else (some false)) = some r := by rw [if_pos rfl] at H; exact H
                          clear H
                          have H := H1
                          clear H1
                          by_cases c37 : x7_1 = true
                          · subst c37
                            have H1 : (some (x8_1 == 0)) = some r := by rw [if_pos rfl] at H; exact H
                            clear H
                            have H := H1
                            clear H1
                            obtain rfl := Option.some.inj H
                            have hcz38_0 : wc.cell? ⟨gb187, 0, none⟩ = some (.int .i64 a0_0) := (blk_cell BK187.out 0).trans rfl
                            have hcz38_1 : wc.cell? ⟨gb187, 1, none⟩ = some (.slice A0_1 l0_1.length c0_1) := (blk_cell BK187.out 1).trans rfl
                            have hcz38_2 : wc.cell? ⟨gb187, 2, none⟩ = some (.int .i64 a0_2) := (blk_cell BK187.out 2).trans rfl
                            have hcz38_3 : wc.cell? ⟨gb187, 3, none⟩ = some (.string a0_3) := (blk_cell BK187.out 3).trans rfl
                            have hcz38_4 : wc.cell? ⟨gb187, 4, none⟩ = some (.int .i64 a0_4) := (blk_cell BK187.out 4).trans rfl
                            have hcz38_5 : wc.cell? ⟨gb187, 5, none⟩ = some (.int .i64 a0_5) := (blk_cell BK187.out 5).trans rfl
                            have hcz38_6 : wc.cell? ⟨gb187, 6, none⟩ = some (.bool a0_6) := (blk_cell BK187.out 6).trans rfl
                            have hcz38_7 : wc.cell? ⟨gb187, 7, none⟩ = some (.slice A0_7 l0_7.length c0_7) := (blk_cell BK187.out 7).trans rfl
                            have hfz38_0 := blk_frozen BK187.out 0
                            have hfz38_1 := blk_frozen BK187.out 1
                            have hfz38_2 := blk_frozen BK187.out 2
                            have hfz38_3 := blk_frozen BK187.out 3
                            have hfz38_4 := blk_frozen BK187.out 4
                            have hfz38_5 := blk_frozen BK187.out 5
                            have hfz38_6 := blk_frozen BK187.out 6
                            have hfz38_7 := blk_frozen BK187.out 7
                            go_wp2
                            repeat (go_quiet (fail); try go_wp2)
                            go_ret
                            exact ⟨by first | rfl | (simp [errW_none, errW_some] <;> rfl) | (simp [*, errW_none, errW_some] <;> rfl), by repeat (first | (with_reducible first | exact HB.out | apply below_alloc | apply pw_below_drewN | apply below_drew1 | refine below_set ?_ GE187.out) | exact HB.out)⟩
                          · replace c37 := Bool.eq_false_iff.mpr c37
                            subst c37
                            have H1 : (some false) = some r := by rw [if_neg (show ¬ (false = true) by decide)] at H; exact H
                            clear H
                            have H := H1
                            clear H1
                            obtain rfl := Option.some.inj H
                            have hcz39_0 : wc.cell? ⟨gb187, 0, none⟩ = some (.int .i64 a0_0) := (blk_cell BK187.out 0).trans rfl
                            have hcz39_1 : wc.cell? ⟨gb187, 1, none⟩ = some (.slice A0_1 l0_1.length c0_1) := (blk_cell BK187.out 1).trans rfl
                            have hcz39_2 : wc.cell? ⟨gb187, 2, none⟩ = some (.int .i64 a0_2) := (blk_cell BK187.out 2).trans rfl
                            have hcz39_3 : wc.cell? ⟨gb187, 3, none⟩ = some (.string a0_3) := (blk_cell BK187.out 3).trans rfl
                            have hcz39_4 : wc.cell? ⟨gb187, 4, none⟩ = some (.int .i64 a0_4) := (blk_cell BK187.out 4).trans rfl
                            have hcz39_5 : wc.cell? ⟨gb187, 5, none⟩ = some (.int .i64 a0_5) := (blk_cell BK187.out 5).trans rfl
                            have hcz39_6 : wc.cell? ⟨gb187, 6, none⟩ = some (.bool a0_6) := (blk_cell BK187.out 6).trans rfl
                            have hcz39_7 : wc.cell? ⟨gb187, 7, none⟩ = some (.slice A0_7 l0_7.length c0_7) := (blk_cell BK187.out 7).trans rfl
                            have hfz39_0 := blk_frozen BK187.out 0
                            have hfz39_1 := blk_frozen BK187.out 1
                            have hfz39_2 := blk_frozen BK187.out 2
                            have hfz39_3 := blk_frozen BK187.out 3
                            have hfz39_4 := blk_frozen BK187.out 4
                            have hfz39_5 := blk_frozen BK187.out 5
                            have hfz39_6 := blk_frozen BK187.out 6
                            have hfz39_7 := blk_frozen BK187.out 7
                            go_wp2
                            repeat (go_quiet (fail); try go_wp2)
                            go_ret
                            exact ⟨by first | rfl | (simp [errW_none, errW_some] <;> rfl) | (simp [*, errW_none, errW_some] <;> rfl), by repeat (first | (with_reducible first | exact HB.out | apply below_alloc | apply pw_below_drewN | apply below_drew1 | refine below_set ?_ GE187.out) | exact HB.out)⟩
                        · replace c36 := Bool.eq_false_iff.mpr c36
                          subst c36
                          have H1 : (some false) = some r := by rw [if_neg (show ¬ (false = true) by decide)] at H; exact H
                          clear H
                          have H := H1
                          clear H1
                          obtain rfl := Option.some.inj H
                          have hcz40_0 : wc.cell? ⟨gb187, 0, none⟩ = some (.int .i64 a0_0) := (blk_cell BK187.out 0).trans rfl
                          have hcz40_1 : wc.cell? ⟨gb187, 1, none⟩ = some (.slice A0_1 l0_1.length c0_1) := (blk_cell BK187.out 1).trans rfl
                          have hcz40_2 : wc.cell? ⟨gb187, 2, none⟩ = some (.int .i64 a0_2) := (blk_cell BK187.out 2).trans rfl
                          have hcz40_3 : wc.cell? ⟨gb187, 3, none⟩ = some (.string a0_3) := (blk_cell BK187.out 3).trans rfl
                          have hcz40_4 : wc.cell? ⟨gb187, 4, none⟩ = some (.int .i64 a0_4) := (blk_cell BK187.out 4).trans rfl
                          have hcz40_5 : wc.cell? ⟨gb187, 5, none⟩ = some (.int .i64 a0_5) := (blk_cell BK187.out 5).trans rfl
                          have hcz40_6 : wc.cell? ⟨gb187, 6, none⟩ = some (.bool a0_6) := (blk_cell BK187.out 6).trans rfl
                          have hcz40_7 : wc.cell? ⟨gb187, 7, none⟩ = some (.slice A0_7 l0_7.length c0_7) := (blk_cell BK187.out 7).trans rfl
                          have hfz40_0 := blk_frozen BK187.out 0
                          have hfz40_1 := blk_frozen BK187.out 1
                          have hfz40_2 := blk_frozen BK187.out 2
                          have hfz40_3 := blk_frozen BK187.out 3
                          have hfz40_4 := blk_frozen BK187.out 4
                          have hfz40_5 := blk_frozen BK187.out 5
                          have hfz40_6 := blk_frozen BK187.out 6
                          have hfz40_7 := blk_frozen BK187.out 7
                          go_wp2
                          repeat (go_quiet (fail); try go_wp2)
                          go_ret
                          exact ⟨by first | rfl | (simp [errW_none, errW_some] <;> rfl) | (simp [*, errW_none, errW_some] <;> rfl), by repeat (first | (with_reducible first | exact HB.out | apply below_alloc | apply pw_below_drewN | apply below_drew1 | refine below_set ?_ GE187.out) | exact HB.out)⟩
                      · replace c35 := Bool.eq_false_iff.mpr c35
                        subst c35
                        have H1 : (some false) = some r := by rw [if_neg (show ¬ (false = true) by decide)] at H; exact H
                        clear H
                        have H := H1
                        clear H1
                        obtain rfl := Option.some.inj H
                        have hcz41_0 : wc.cell? ⟨gb187, 0, none⟩ = some (.int .i64 a0_0) := (blk_cell BK187.out 0).trans rfl
                        have hcz41_1 : wc.cell? ⟨gb187, 1, none⟩ = some (.slice A0_1 l0_1.length c0_1) := (blk_cell BK187.out 1).trans rfl
                        have hcz41_2 : wc.cell? ⟨gb187, 2, none⟩ = some (.int .i64 a0_2) := (blk_cell BK187.out 2).trans rfl
                        have hcz41_3 : wc.cell? ⟨gb187, 3, none⟩ = some (.string a0_3) := (blk_cell BK187.out 3).trans rfl
                        have hcz41_4 : wc.cell? ⟨gb187, 4, none⟩ = some (.int .i64 a0_4) := (blk_cell BK187.out 4).trans rfl
                        have hcz41_5 : wc.cell? ⟨gb187, 5, none⟩ = some (.int .i64 a0_5) := (blk_cell BK187.out 5).trans rfl
                        have hcz41_6 : wc.cell? ⟨gb187, 6, none⟩ = some (.bool a0_6) := (blk_cell BK187.out 6).trans rfl
                        have hcz41_7 : wc.cell? ⟨gb187, 7, none⟩ = some (.slice A0_7 l0_7.length c0_7) := (blk_cell BK187.out 7).trans rfl
                        have hfz41_0 := blk_frozen BK187.out 0
                        have hfz41_1 := blk_frozen BK187.out 1
                        have hfz41_2 := blk_frozen BK187.out 2
                        have hfz41_3 := blk_frozen BK187.out 3
                        have hfz41_4 := blk_frozen BK187.out 4
                        have hfz41_5 := blk_frozen BK187.out 5
                        have hfz41_6 := blk_frozen BK187.out 6
                        have hfz41_7 := blk_frozen BK187.out 7
                        go_wp2
                        repeat (go_quiet (fail); try go_wp2)
                        go_ret
                        exact ⟨by first | rfl | (simp [errW_none, errW_some] <;> rfl) | (simp [*, errW_none, errW_some] <;> rfl), by repeat (first | (with_reducible first | exact HB.out | apply below_alloc | apply pw_below_drewN | apply below_drew1 | refine below_set ?_ GE187.out) | exact HB.out)⟩
                    · rw [if_neg c34] at H
                      have c34b0 : decide (a0_2 ≤ 6) = false := decide_eq_false c34
                      clear c34
                      obtain rfl := Option.some.inj H
                      have hcz42_0 : wc.cell? ⟨gb187, 0, none⟩ = some (.int .i64 a0_0) := (blk_cell BK187.out 0).trans rfl
                      have hcz42_1 : wc.cell? ⟨gb187, 1, none⟩ = some (.slice A0_1 l0_1.length c0_1) := (blk_cell BK187.out 1).trans rfl
                      have hcz42_2 : wc.cell? ⟨gb187, 2, none⟩ = some (.int .i64 a0_2) := (blk_cell BK187.out 2).trans rfl
                      have hcz42_3 : wc.cell? ⟨gb187, 3, none⟩ = some (.string a0_3) := (blk_cell BK187.out 3).trans rfl
                      have hcz42_4 : wc.cell? ⟨gb187, 4, none⟩ = some (.int .i64 a0_4) := (blk_cell BK187.out 4).trans rfl
                      have hcz42_5 : wc.cell? ⟨gb187, 5, none⟩ = some (.int .i64 a0_5) := (blk_cell BK187.out 5).trans rfl
                      have hcz42_6 : wc.cell? ⟨gb187, 6, none⟩ = some (.bool a0_6) := (blk_cell BK187.out 6).trans rfl
                      have hcz42_7 : wc.cell? ⟨gb187, 7, none⟩ = some (.slice A0_7 l0_7.length c0_7) := (blk_cell BK187.out 7).trans rfl
                      have hfz42_0 := blk_frozen BK187.out 0
                      have hfz42_1 := blk_frozen BK187.out 1
                      have hfz42_2 := blk_frozen BK187.out 2
                      have hfz42_3 := blk_frozen BK187.out 3
                      have hfz42_4 := blk_frozen BK187.out 4
                      have hfz42_5 := blk_frozen BK187.out 5
                      have hfz42_6 := blk_frozen BK187.out 6
                      have hfz42_7 := blk_frozen BK187.out 7
                      go_wp2
                      repeat (go_quiet (fail); try go_wp2)
                      go_ret
                      exact ⟨by first | rfl | (simp [errW_none, errW_some] <;> rfl) | (simp [*, errW_none, errW_some] <;> rfl), by repeat (first | (with_reducible first | exact HB.out | apply below_alloc | apply pw_below_drewN | apply below_drew1 | refine below_set ?_ GE187.out) | exact HB.out)⟩
                  · rw [if_neg c33] at H
                    have c33b0 : decide (1 ≤ a0_2) = false := decide_eq_false c33
                    clear c33
                    obtain rfl := Option.some.inj H
                    have hcz43_0 : wc.cell? ⟨gb187, 0, none⟩ = some (.int .i64 a0_0) := (blk_cell BK187.out 0).trans rfl
                    have hcz43_1 : wc.cell? ⟨gb187, 1, none⟩ = some (.slice A0_1 l0_1.length c0_1) := (blk_cell BK187.out 1).trans rfl
                    have hcz43_2 : wc.cell? ⟨gb187, 2, none⟩ = some (.int .i64 a0_2) := (blk_cell BK187.out 2).trans rfl
                    have hcz43_3 : wc.cell? ⟨gb187, 3, none⟩ = some (.string a0_3) := (blk_cell BK187.out 3).trans rfl
                    have hcz43_4 : wc.cell? ⟨gb187, 4, none⟩ = some (.int .i64 a0_4) := (blk_cell BK187.out 4).trans rfl
                    have hcz43_5 : wc.cell? ⟨gb187, 5, none⟩ = some (.int .i64 a0_5) := (blk_cell BK187.out 5).trans rfl
                    have hcz43_6 : wc.cell? ⟨gb187, 6, none⟩ = some (.bool a0_6) := (blk_cell BK187.out 6).trans rfl
                    have hcz43_7 : wc.cell? ⟨gb187, 7, none⟩ = some (.slice A0_7 l0_7.length c0_7) := (blk_cell BK187.out 7).trans rfl
                    have hfz43_0 := blk_frozen BK187.out 0
                    have hfz43_1 := blk_frozen BK187.out 1
                    have hfz43_2 := blk_frozen BK187.out 2
                    have hfz43_3 := blk_frozen BK187.out 3
                    have hfz43_4 := blk_frozen BK187.out 4
                    have hfz43_5 := blk_frozen BK187.out 5
                    have hfz43_6 := blk_frozen BK187.out 6
                    have hfz43_7 := blk_frozen BK187.out 7
                    go_wp2
                    repeat (go_quiet (fail); try go_wp2)
                    go_ret
                    exact ⟨by first | rfl | (simp [errW_none, errW_some] <;> rfl) | (simp [*, errW_none, errW_some] <;> rfl), by repeat (first | (with_reducible first | exact HB.out | apply below_alloc | apply pw_below_drewN | apply below_drew1 | refine below_set ?_ GE187.out) | exact HB.out)⟩
                · replace c32 := Bool.eq_false_iff.mpr c32
                  subst c32
                  have H1 : (some false) = some r := by rw [if_neg (show ¬ (false = true) by decide)] at H; exact H
                  clear H
                  have H := H1
                  clear H1
                  obtain rfl := Option.some.inj H
                  go_wp2
                  repeat (go_quiet (fail); try go_wp2)
                  go_ret
                  exact ⟨by first | rfl | (simp [errW_none, errW_some] <;> rfl) | (simp [*, errW_none, errW_some] <;> rfl), by repeat (first | (with_reducible first | exact HB.out | apply below_alloc | apply pw_below_drewN | apply below_drew1 | refine below_set ?_ GE187.out) | exact HB.out)⟩
              · rw [if_neg c31] at H
                have c31b0 : (a0_0 == 5) = false := beq_eq_false_iff_ne.mpr c31
                have c31b1 : (a0_0 != 5) = true := bne_iff_ne.mpr c31
                by_cases c44 : a0_0 = 6
                · rw [if_pos c44] at H
                  have c44b0 : (a0_0 == 6) = true := beq_iff_eq.mpr c44
                  have c44b1 : (a0_0 != 6) = false := bne_eq_false_iff_eq.mpr c44
                  clear c44
                  by_cases c45 : x3_1 = true
                  · subst c45
                    have H1 : (if a0_2 ≥ 1 then (if x5_1 = true then (if x6_1 = true then (if x7_1 = true then (some (x8_1 == 1)) else (some false)) else (some false)) else ((burinref06_Name.f kj6 a0_3).bind fun t189 => (if t189 = true then (if x6_1 = true then (if x7_1 = true then (some (x8_1 == 1)) else (some false)) else (some false)) else (some false)))) else (some false)) = some r := by rw [if_pos rfl] at H; exact H
                    clear H
                    have H := H1
                    clear H1
                    by_cases c46 : a0_2 ≥ 1
                    · rw [if_pos c46] at H
                      have c46b0 : decide (1 ≤ a0_2) = true := decide_eq_true c46
                      clear c46
                      by_cases c47 : x5_1 = true
                      · subst c47
                        have H1 : (if x6_1 = true then (if x7_1 = true then (some (x8_1 == 1)) else (some false)) else (some false)) = some r := by rw [if_pos rfl] at H; exact H
                        clear H
                        have H := H1
                        clear H1
                        by_cases c48 : x6_1 = true
                        · subst c48
                          have H1 : (if x7_1 = true then (some (x8_1 == 1)) else (some false)) = some r := by rw [if_pos rfl] at H; exact H
                          clear H
                          have H := H1
                          clear H1
                          by_cases c49 : x7_1 = true
                          · subst c49
                            have H1 : (some (x8_1 == 1)) = some r := by rw [if_pos rfl] at H; exact H
                            clear H
                            have H := H1
                            clear H1
                            obtain rfl := Option.some.inj H
                            have hcz50_0 : wc.cell? ⟨gb187, 0, none⟩ = some (.int .i64 a0_0) := (blk_cell BK187.out 0).trans rfl
                            have hcz50_1 : wc.cell? ⟨gb187, 1, none⟩ = some (.slice A0_1 l0_1.length c0_1) := (blk_cell BK187.out 1).trans rfl
                            have hcz50_2 : wc.cell? ⟨gb187, 2, none⟩ = some (.int .i64 a0_2) := (blk_cell BK187.out 2).trans rfl
                            have hcz50_3 : wc.cell? ⟨gb187, 3, none⟩ = some (.string a0_3) := (blk_cell BK187.out 3).trans rfl
                            have hcz50_4 : wc.cell? ⟨gb187, 4, none⟩ = some (.int .i64 a0_4) := (blk_cell BK187.out 4).trans rfl
                            have hcz50_5 : wc.cell? ⟨gb187, 5, none⟩ = some (.int .i64 a0_5) := (blk_cell BK187.out 5).trans rfl
                            have hcz50_6 : wc.cell? ⟨gb187, 6, none⟩ = some (.bool a0_6) := (blk_cell BK187.out 6).trans rfl
                            have hcz50_7 : wc.cell? ⟨gb187, 7, none⟩ = some (.slice A0_7 l0_7.length c0_7) := (blk_cell BK187.out 7).trans rfl
                            have hfz50_0 := blk_frozen BK187.out 0
                            have hfz50_1 := blk_frozen BK187.out 1
                            have hfz50_2 := blk_frozen BK187.out 2
                            have hfz50_3 := blk_frozen BK187.out 3
                            have hfz50_4 := blk_frozen BK187.out 4
                            have hfz50_5 := blk_frozen BK187.out 5
                            have hfz50_6 := blk_frozen BK187.out 6
                            have hfz50_7 := blk_frozen BK187.out 7
                            go_wp2
                            repeat (go_quiet (fail); try go_wp2)
                            go_ret
                            exact ⟨by first | rfl | (simp [errW_none, errW_some] <;> rfl) | (simp [*, errW_none, errW_some] <;> rfl), by repeat (first | (with_reducible first | exact HB.out | apply below_alloc | apply pw_below_drewN | apply below_drew1 | refine below_set ?_ GE187.out) | exact HB.out)⟩
                          · replace c49 := Bool.eq_false_iff.mpr c49
                            subst c49
                            have H1 : (some false) = some r := by rw [if_neg (show ¬ (false = true) by decide)] at H; exact H
                            clear H
                            have H := H1
                            clear H1
                            obtain rfl := Option.some.inj H
                            have hcz51_0 : wc.cell? ⟨gb187, 0, none⟩ = some (.int .i64 a0_0) := (blk_cell BK187.out 0).trans rfl
                            have hcz51_1 : wc.cell? ⟨gb187, 1, none⟩ = some (.slice A0_1 l0_1.length c0_1) := (blk_cell BK187.out 1).trans rfl
                            have hcz51_2 : wc.cell? ⟨gb187, 2, none⟩ = some (.int .i64 a0_2) := (blk_cell BK187.out 2).trans rfl
                            have hcz51_3 : wc.cell? ⟨gb187, 3, none⟩ = some (.string a0_3) := (blk_cell BK187.out 3).trans rfl
                            have hcz51_4 : wc.cell? ⟨gb187, 4, none⟩ = some (.int .i64 a0_4) := (blk_cell BK187.out 4).trans rfl
                            have hcz51_5 : wc.cell? ⟨gb187, 5, none⟩ = some (.int .i64 a0_5) := (blk_cell BK187.out 5).trans rfl
                            have hcz51_6 : wc.cell? ⟨gb187, 6, none⟩ = some (.bool a0_6) := (blk_cell BK187.out 6).trans rfl
                            have hcz51_7 : wc.cell? ⟨gb187, 7, none⟩ = some (.slice A0_7 l0_7.length c0_7) := (blk_cell BK187.out 7).trans rfl
                            have hfz51_0 := blk_frozen BK187.out 0
                            have hfz51_1 := blk_frozen BK187.out 1
                            have hfz51_2 := blk_frozen BK187.out 2
                            have hfz51_3 := blk_frozen BK187.out 3
                            have hfz51_4 := blk_frozen BK187.out 4
                            have hfz51_5 := blk_frozen BK187.out 5
                            have hfz51_6 := blk_frozen BK187.out 6
                            have hfz51_7 := blk_frozen BK187.out 7
                            go_wp2
                            repeat (go_quiet (fail); try go_wp2)
                            go_ret
                            exact ⟨by first | rfl | (simp [errW_none, errW_some] <;> rfl) | (simp [*, errW_none, errW_some] <;> rfl), by repeat (first | (with_reducible first | exact HB.out | apply below_alloc | apply pw_below_drewN | apply below_drew1 | refine below_set ?_ GE187.out) | exact HB.out)⟩
                        · replace c48 := Bool.eq_false_iff.mpr c48
                          subst c48
                          have H1 : (some false) = some r := by rw [if_neg (show ¬ (false = true) by decide)] at H; exact H
                          clear H
                          have H := H1
                          clear H1
                          obtain rfl := Option.some.inj H
                          have hcz52_0 : wc.cell? ⟨gb187, 0, none⟩ = some (.int .i64 a0_0) := (blk_cell BK187.out 0).trans rfl
                          have hcz52_1 : wc.cell? ⟨gb187, 1, none⟩ = some (.slice A0_1 l0_1.length c0_1) := (blk_cell BK187.out 1).trans rfl
                          have hcz52_2 : wc.cell? ⟨gb187, 2, none⟩ = some (.int .i64 a0_2) := (blk_cell BK187.out 2).trans rfl
                          have hcz52_3 : wc.cell? ⟨gb187, 3, none⟩ = some (.string a0_3) := (blk_cell BK187.out 3).trans rfl
                          have hcz52_4 : wc.cell? ⟨gb187, 4, none⟩ = some (.int .i64 a0_4) := (blk_cell BK187.out 4).trans rfl
                          have hcz52_5 : wc.cell? ⟨gb187, 5, none⟩ = some (.int .i64 a0_5) := (blk_cell BK187.out 5).trans rfl
                          have hcz52_6 : wc.cell? ⟨gb187, 6, none⟩ = some (.bool a0_6) := (blk_cell BK187.out 6).trans rfl
                          have hcz52_7 : wc.cell? ⟨gb187, 7, none⟩ = some (.slice A0_7 l0_7.length c0_7) := (blk_cell BK187.out 7).trans rfl
                          have hfz52_0 := blk_frozen BK187.out 0
                          have hfz52_1 := blk_frozen BK187.out 1
                          have hfz52_2 := blk_frozen BK187.out 2
                          have hfz52_3 := blk_frozen BK187.out 3
                          have hfz52_4 := blk_frozen BK187.out 4
                          have hfz52_5 := blk_frozen BK187.out 5
                          have hfz52_6 := blk_frozen BK187.out 6
                          have hfz52_7 := blk_frozen BK187.out 7
                          go_wp2
                          repeat (go_quiet (fail); try go_wp2)
                          go_ret
                          exact ⟨by first | rfl | (simp [errW_none, errW_some] <;> rfl) | (simp [*, errW_none, errW_some] <;> rfl), by repeat (first | (with_reducible first | exact HB.out | apply below_alloc | apply pw_below_drewN | apply below_drew1 | refine below_set ?_ GE187.out) | exact HB.out)⟩
                      · replace c47 := Bool.eq_false_iff.mpr c47
                        subst c47
                        have H1 : ((burinref06_Name.f kj6 a0_3).bind fun t189 => (if t189 = true then (if x6_1 = true then (if x7_1 = true then (some (x8_1 == 1)) else (some false)) else (some false)) else (some false))) = some r := by rw [if_neg (show ¬ (false = true) by decide)] at H; exact H
                        clear H
                        have H := H1
                        clear H1
                        replace H := Option.bind_eq_some_iff.mp H
                        obtain ⟨t189, A530, H⟩ := H
                        replace H : (if t189 = true then (if x6_1 = true then (if x7_1 = true then (some (x8_1 == 1)) else (some false)) else (some false)) else (some false)) = some r := H
                        have A53 := Aside0.mk A530
                        clear A530
                        by_cases c54 : t189 = true
                        · subst c54
                          have H1 : (if x6_1 = true then (if x7_1 = true then (some (x8_1 == 1)) else (some false)) else (some false)) = some r := by rw [if_pos rfl] at H; exact H
                          clear H
                          have H := H1
                          clear H1
                          by_cases c55 : x6_1 = true
                          · subst c55
                            have H1 : (if x7_1 = true then (some (x8_1 == 1)) else (some false)) = some r := by rw [if_pos rfl] at H; exact H
                            clear H
                            have H := H1
                            clear H1
                            by_cases c56 : x7_1 = true
                            · subst c56
                              have H1 : (some (x8_1 == 1)) = some r := by rw [if_pos rfl] at H; exact H
                              clear H
                              have H := H1
                              clear H1
                              obtain rfl := Option.some.inj H
                              have hcz57_0 : wc.cell? ⟨gb187, 0, none⟩ = some (.int .i64 a0_0) := (blk_cell BK187.out 0).trans rfl
                              have hcz57_1 : wc.cell? ⟨gb187, 1, none⟩ = some (.slice A0_1 l0_1.length c0_1) := (blk_cell BK187.out 1).trans rfl
                              have hcz57_2 : wc.cell? ⟨gb187, 2, none⟩ = some (.int .i64 a0_2) := (blk_cell BK187.out 2).trans rfl
                              have hcz57_3 : wc.cell? ⟨gb187, 3, none⟩ = some (.string a0_3) := (blk_cell BK187.out 3).trans rfl
                              have hcz57_4 : wc.cell? ⟨gb187, 4, none⟩ = some (.int .i64 a0_4) := (blk_cell BK187.out 4).trans rfl
                              have hcz57_5 : wc.cell? ⟨gb187, 5, none⟩ = some (.int .i64 a0_5) := (blk_cell BK187.out 5).trans rfl
                              have hcz57_6 : wc.cell? ⟨gb187, 6, none⟩ = some (.bool a0_6) := (blk_cell BK187.out 6).trans rfl
                              have hcz57_7 : wc.cell? ⟨gb187, 7, none⟩ = some (.slice A0_7 l0_7.length c0_7) := (blk_cell BK187.out 7).trans rfl
                              have hfz57_0 := blk_frozen BK187.out 0
                              have hfz57_1 := blk_frozen BK187.out 1
                              have hfz57_2 := blk_frozen BK187.out 2
                              have hfz57_3 := blk_frozen BK187.out 3
                              have hfz57_4 := blk_frozen BK187.out 4
                              have hfz57_5 := blk_frozen BK187.out 5
                              have hfz57_6 := blk_frozen BK187.out 6
                              have hfz57_7 := blk_frozen BK187.out 7
                              go_wp2_with (first | (go_at_call 35; (with_reducible refine (burinref06_Name.calls kj6 a0_3 true _ A53.out).mono ?_); rintro e w' ⟨rfl, ⟨nd, rfl⟩⟩; (try first | exact ⟨rfl, _, World.drewN_drewN _ _ _⟩ | exact ⟨rfl, _, Eq.trans (World.drewN_drewN _ _ _) (congrArg (World.drewN _) (Nat.add_assoc _ _ _))⟩)))
                              repeat (go_quiet (first | (go_at_call 35; (with_reducible refine (burinref06_Name.calls kj6 a0_3 true _ A53.out).mono ?_); rintro e w' ⟨rfl, ⟨nd, rfl⟩⟩; (try first | exact ⟨rfl, _, World.drewN_drewN _ _ _⟩ | exact ⟨rfl, _, Eq.trans (World.drewN_drewN _ _ _) (congrArg (World.drewN _) (Nat.add_assoc _ _ _))⟩))); try go_wp2_with (first | (go_at_call 35; (with_reducible refine (burinref06_Name.calls kj6 a0_3 true _ A53.out).mono ?_); rintro e w' ⟨rfl, ⟨nd, rfl⟩⟩; (try first | exact ⟨rfl, _, World.drewN_drewN _ _ _⟩ | exact ⟨rfl, _, Eq.trans (World.drewN_drewN _ _ _) (congrArg (World.drewN _) (Nat.add_assoc _ _ _))⟩))))
                              go_ret
                              exact ⟨by first | rfl | (simp [errW_none, errW_some] <;> rfl) | (simp [*, errW_none, errW_some] <;> rfl), by repeat (first | (with_reducible first | exact HB.out | apply below_alloc | apply pw_below_drewN | apply below_drew1 | refine below_set ?_ GE187.out) | exact HB.out)⟩
                            · replace c56 := Bool.eq_false_iff.mpr c56
                              subst c56
                              have H1 : (some false) = some r := by rw [if_neg (show ¬ (false = true) by decide)] at H; exact H
                              clear H
                              have H := H1
                              clear H1
                              obtain rfl := Option.some.inj H
                              have hcz58_0 : wc.cell? ⟨gb187, 0, none⟩ = some (.int .i64 a0_0) := (blk_cell BK187.out 0).trans rfl
                              have hcz58_1 : wc.cell? ⟨gb187, 1, none⟩ = some (.slice A0_1 l0_1.length c0_1) := (blk_cell BK187.out 1).trans rfl
                              have hcz58_2 : wc.cell? ⟨gb187, 2, none⟩ = some (.int .i64 a0_2) := (blk_cell BK187.out 2).trans rfl
                              have hcz58_3 : wc.cell? ⟨gb187, 3, none⟩ = some (.string a0_3) := (blk_cell BK187.out 3).trans rfl
                              have hcz58_4 : wc.cell? ⟨gb187, 4, none⟩ = some (.int .i64 a0_4) := (blk_cell BK187.out 4).trans rfl
                              have hcz58_5 : wc.cell? ⟨gb187, 5, none⟩ = some (.int .i64 a0_5) := (blk_cell BK187.out 5).trans rfl
                              have hcz58_6 : wc.cell? ⟨gb187, 6, none⟩ = some (.bool a0_6) := (blk_cell BK187.out 6).trans rfl
                              have hcz58_7 : wc.cell? ⟨gb187, 7, none⟩ = some (.slice A0_7 l0_7.length c0_7) := (blk_cell BK187.out 7).trans rfl
                              have hfz58_0 := blk_frozen BK187.out 0
                              have hfz58_1 := blk_frozen BK187.out 1
                              have hfz58_2 := blk_frozen BK187.out 2
                              have hfz58_3 := blk_frozen BK187.out 3
                              have hfz58_4 := blk_frozen BK187.out 4
                              have hfz58_5 := blk_frozen BK187.out 5
                              have hfz58_6 := blk_frozen BK187.out 6
                              have hfz58_7 := blk_frozen BK187.out 7
                              go_wp2_with (first | (go_at_call 35; (with_reducible refine (burinref06_Name.calls kj6 a0_3 true _ A53.out).mono ?_); rintro e w' ⟨rfl, ⟨nd, rfl⟩⟩; (try first | exact ⟨rfl, _, World.drewN_drewN _ _ _⟩ | exact ⟨rfl, _, Eq.trans (World.drewN_drewN _ _ _) (congrArg (World.drewN _) (Nat.add_assoc _ _ _))⟩)))
                              repeat (go_quiet (first | (go_at_call 35; (with_reducible refine (burinref06_Name.calls kj6 a0_3 true _ A53.out).mono ?_); rintro e w' ⟨rfl, ⟨nd, rfl⟩⟩; (try first | exact ⟨rfl, _, World.drewN_drewN _ _ _⟩ | exact ⟨rfl, _, Eq.trans (World.drewN_drewN _ _ _) (congrArg (World.drewN _) (Nat.add_assoc _ _ _))⟩))); try go_wp2_with (first | (go_at_call 35; (with_reducible refine (burinref06_Name.calls kj6 a0_3 true _ A53.out).mono ?_); rintro e w' ⟨rfl, ⟨nd, rfl⟩⟩; (try first | exact ⟨rfl, _, World.drewN_drewN _ _ _⟩ | exact ⟨rfl, _, Eq.trans (World.drewN_drewN _ _ _) (congrArg (World.drewN _) (Nat.add_assoc _ _ _))⟩))))
                              go_ret
                              exact ⟨by first | rfl | (simp [errW_none, errW_some] <;> rfl) | (simp [*, errW_none, errW_some] <;> rfl), by repeat (first | (with_reducible first | exact HB.out | apply below_alloc | apply pw_below_drewN | apply below_drew1 | refine below_set ?_ GE187.out) | exact HB.out)⟩
                          · replace c55 := Bool.eq_false_iff.mpr c55
                            subst c55
                            have H1 : (some false) = some r := by rw [if_neg (show ¬ (false = true) by decide)] at H; exact H
                            clear H
                            have H := H1
                            clear H1
                            obtain rfl := Option.some.inj H
                            have hcz59_0 : wc.cell? ⟨gb187, 0, none⟩ = some (.int .i64 a0_0) := (blk_cell BK187.out 0).trans rfl
                            have hcz59_1 : wc.cell? ⟨gb187, 1, none⟩ = some (.slice A0_1 l0_1.length c0_1) := (blk_cell BK187.out 1).trans rfl
                            have hcz59_2 : wc.cell? ⟨gb187, 2, none⟩ = some (.int .i64 a0_2) := (blk_cell BK187.out 2).trans rfl
                            have hcz59_3 : wc.cell? ⟨gb187, 3, none⟩ = some (.string a0_3) := (blk_cell BK187.out 3).trans rfl
                            have hcz59_4 : wc.cell? ⟨gb187, 4, none⟩ = some (.int .i64 a0_4) := (blk_cell BK187.out 4).trans rfl
                            have hcz59_5 : wc.cell? ⟨gb187, 5, none⟩ = some (.int .i64 a0_5) := (blk_cell BK187.out 5).trans rfl
                            have hcz59_6 : wc.cell? ⟨gb187, 6, none⟩ = some (.bool a0_6) := (blk_cell BK187.out 6).trans rfl
                            have hcz59_7 : wc.cell? ⟨gb187, 7, none⟩ = some (.slice A0_7 l0_7.length c0_7) := (blk_cell BK187.out 7).trans rfl
                            have hfz59_0 := blk_frozen BK187.out 0
                            have hfz59_1 := blk_frozen BK187.out 1
                            have hfz59_2 := blk_frozen BK187.out 2
                            have hfz59_3 := blk_frozen BK187.out 3
                            have hfz59_4 := blk_frozen BK187.out 4
                            have hfz59_5 := blk_frozen BK187.out 5
                            have hfz59_6 := blk_frozen BK187.out 6
                            have hfz59_7 := blk_frozen BK187.out 7
                            go_wp2_with (first | (go_at_call 35; (with_reducible refine (burinref06_Name.calls kj6 a0_3 true _ A53.out).mono ?_); rintro e w' ⟨rfl, ⟨nd, rfl⟩⟩; (try first | exact ⟨rfl, _, World.drewN_drewN _ _ _⟩ | exact ⟨rfl, _, Eq.trans (World.drewN_drewN _ _ _) (congrArg (World.drewN _) (Nat.add_assoc _ _ _))⟩)))
                            repeat (go_quiet (first | (go_at_call 35; (with_reducible refine (burinref06_Name.calls kj6 a0_3 true _ A53.out).mono ?_); rintro e w' ⟨rfl, ⟨nd, rfl⟩⟩; (try first | exact ⟨rfl, _, World.drewN_drewN _ _ _⟩ | exact ⟨rfl, _, Eq.trans (World.drewN_drewN _ _ _) (congrArg (World.drewN _) (Nat.add_assoc _ _ _))⟩))); try go_wp2_with (first | (go_at_call 35; (with_reducible refine (burinref06_Name.calls kj6 a0_3 true _ A53.out).mono ?_); rintro e w' ⟨rfl, ⟨nd, rfl⟩⟩; (try first | exact ⟨rfl, _, World.drewN_drewN _ _ _⟩ | exact ⟨rfl, _, Eq.trans (World.drewN_drewN _ _ _) (congrArg (World.drewN _) (Nat.add_assoc _ _ _))⟩))))
                            go_ret
                            exact ⟨by first | rfl | (simp [errW_none, errW_some] <;> rfl) | (simp [*, errW_none, errW_some] <;> rfl), by repeat (first | (with_reducible first | exact HB.out | apply below_alloc | apply pw_below_drewN | apply below_drew1 | refine below_set ?_ GE187.out) | exact HB.out)⟩
                        · replace c54 := Bool.eq_false_iff.mpr c54
                          subst c54
                          have H1 : (some false) = some r := by rw [if_neg (show ¬ (false = true) by decide)] at H; exact H
                          clear H
                          have H := H1
                          clear H1
                          obtain rfl := Option.some.inj H
                          have hcz60_0 : wc.cell? ⟨gb187, 0, none⟩ = some (.int .i64 a0_0) := (blk_cell BK187.out 0).trans rfl
                          have hcz60_1 : wc.cell? ⟨gb187, 1, none⟩ = some (.slice A0_1 l0_1.length c0_1) := (blk_cell BK187.out 1).trans rfl
                          have hcz60_2 : wc.cell? ⟨gb187, 2, none⟩ = some (.int .i64 a0_2) := (blk_cell BK187.out 2).trans rfl
                          have hcz60_3 : wc.cell? ⟨gb187, 3, none⟩ = some (.string a0_3) := (blk_cell BK187.out 3).trans rfl
                          have hcz60_4 : wc.cell? ⟨gb187, 4, none⟩ = some (.int .i64 a0_4) := (blk_cell BK187.out 4).trans rfl
                          have hcz60_5 : wc.cell? ⟨gb187, 5, none⟩ = some (.int .i64 a0_5) := (blk_cell BK187.out 5).trans rfl
                          have hcz60_6 : wc.cell? ⟨gb187, 6, none⟩ = some (.bool a0_6) := (blk_cell BK187.out 6).trans rfl
                          have hcz60_7 : wc.cell? ⟨gb187, 7, none⟩ = some (.slice A0_7 l0_7.length c0_7) := (blk_cell BK187.out 7).trans rfl
                          have hfz60_0 := blk_frozen BK187.out 0
                          have hfz60_1 := blk_frozen BK187.out 1
                          have hfz60_2 := blk_frozen BK187.out 2
                          have hfz60_3 := blk_frozen BK187.out 3
                          have hfz60_4 := blk_frozen BK187.out 4
                          have hfz60_5 := blk_frozen BK187.out 5
                          have hfz60_6 := blk_frozen BK187.out 6
                          have hfz60_7 := blk_frozen BK187.out 7
                          go_wp2_with (first | (go_at_call 35; (with_reducible refine (burinref06_Name.calls kj6 a0_3 false _ A53.out).mono ?_); rintro e w' ⟨rfl, ⟨nd, rfl⟩⟩; (try first | exact ⟨rfl, _, World.drewN_drewN _ _ _⟩ | exact ⟨rfl, _, Eq.trans (World.drewN_drewN _ _ _) (congrArg (World.drewN _) (Nat.add_assoc _ _ _))⟩)))
                          repeat (go_quiet (first | (go_at_call 35; (with_reducible refine (burinref06_Name.calls kj6 a0_3 false _ A53.out).mono ?_); rintro e w' ⟨rfl, ⟨nd, rfl⟩⟩; (try first | exact ⟨rfl, _, World.drewN_drewN _ _ _⟩ | exact ⟨rfl, _, Eq.trans (World.drewN_drewN _ _ _) (congrArg (World.drewN _) (Nat.add_assoc _ _ _))⟩))); try go_wp2_with (first | (go_at_call 35; (with_reducible refine (burinref06_Name.calls kj6 a0_3 false _ A53.out).mono ?_); rintro e w' ⟨rfl, ⟨nd, rfl⟩⟩; (try first | exact ⟨rfl, _, World.drewN_drewN _ _ _⟩ | exact ⟨rfl, _, Eq.trans (World.drewN_drewN _ _ _) (congrArg (World.drewN _) (Nat.add_assoc _ _ _))⟩))))
                          go_ret
                          exact ⟨by first | rfl | (simp [errW_none, errW_some] <;> rfl) | (simp [*, errW_none, errW_some] <;> rfl), by repeat (first | (with_reducible first | exact HB.out | apply below_alloc | apply pw_below_drewN | apply below_drew1 | refine below_set ?_ GE187.out) | exact HB.out)⟩
                    · rw [if_neg c46] at H
                      have c46b0 : decide (1 ≤ a0_2) = false := decide_eq_false c46
                      clear c46
                      obtain rfl := Option.some.inj H
                      have hcz61_0 : wc.cell? ⟨gb187, 0, none⟩ = some (.int .i64 a0_0) := (blk_cell BK187.out 0).trans rfl
                      have hcz61_1 : wc.cell? ⟨gb187, 1, none⟩ = some (.slice A0_1 l0_1.length c0_1) := (blk_cell BK187.out 1).trans rfl
                      have hcz61_2 : wc.cell? ⟨gb187, 2, none⟩ = some (.int .i64 a0_2) := (blk_cell BK187.out 2).trans rfl
                      have hcz61_3 : wc.cell? ⟨gb187, 3, none⟩ = some (.string a0_3) := (blk_cell BK187.out 3).trans rfl
                      have hcz61_4 : wc.cell? ⟨gb187, 4, none⟩ = some (.int .i64 a0_4) := (blk_cell BK187.out 4).trans rfl
                      have hcz61_5 : wc.cell? ⟨gb187, 5, none⟩ = some (.int .i64 a0_5) := (blk_cell BK187.out 5).trans rfl
                      have hcz61_6 : wc.cell? ⟨gb187, 6, none⟩ = some (.bool a0_6) := (blk_cell BK187.out 6).trans rfl
                      have hcz61_7 : wc.cell? ⟨gb187, 7, none⟩ = some (.slice A0_7 l0_7.length c0_7) := (blk_cell BK187.out 7).trans rfl
                      have hfz61_0 := blk_frozen BK187.out 0
                      have hfz61_1 := blk_frozen BK187.out 1
                      have hfz61_2 := blk_frozen BK187.out 2
                      have hfz61_3 := blk_frozen BK187.out 3
                      have hfz61_4 := blk_frozen BK187.out 4
                      have hfz61_5 := blk_frozen BK187.out 5
                      have hfz61_6 := blk_frozen BK187.out 6
                      have hfz61_7 := blk_frozen BK187.out 7
                      go_wp2
                      repeat (go_quiet (fail); try go_wp2)
                      go_ret
                      exact ⟨by first | rfl | (simp [errW_none, errW_some] <;> rfl) | (simp [*, errW_none, errW_some] <;> rfl), by repeat (first | (with_reducible first | exact HB.out | apply below_alloc | apply pw_below_drewN | apply below_drew1 | refine below_set ?_ GE187.out) | exact HB.out)⟩
                  · replace c45 := Bool.eq_false_iff.mpr c45
                    subst c45
                    have H1 : (some false) = some r := by rw [if_neg (show ¬ (false = true) by decide)] at H; exact H
                    clear H
                    have H := H1
                    clear H1
                    obtain rfl := Option.some.inj H
                    go_wp2
                    repeat (go_quiet (fail); try go_wp2)
                    go_ret
                    exact ⟨by first | rfl | (simp [errW_none, errW_some] <;> rfl) | (simp [*, errW_none, errW_some] <;> rfl), by repeat (first | (with_reducible first | exact HB.out | apply below_alloc | apply pw_below_drewN | apply below_drew1 | refine below_set ?_ GE187.out) | exact HB.out)⟩
                · rw [if_neg c44] at H
                  have c44b0 : (a0_0 == 6) = false := beq_eq_false_iff_ne.mpr c44
                  have c44b1 : (a0_0 != 6) = true := bne_iff_ne.mpr c44
                  have HC62 := Aside0.mk H
                  clear H
                  go_upto_if 134 with (fail)
                  repeat (go_quiet (fail); go_upto_if 134 with (fail))
                  go_cut [134] (fun v134 wc => ∃ (kq : Nat) (x134_61 : Bool), v134 = .bool x134_61 ∧ Aside0 (burinref06_Fits.j2 kq x3_1 x4_1 x5_1 x6_1 x7_1 x8_1 a0_0 x134_61 a0_0 l0_1 a0_2 a0_3 a0_4 a0_5 a0_6 l0_7 = some r) ∧ Aside0 (kq ≤ kj6) ∧ Aside0 (wc.heap[gb187]? = some (.cells #[.int .i64 a0_0, (.slice A0_1 l0_1.length c0_1), .int .i64 a0_2, .string a0_3, .int .i64 a0_4, .int .i64 a0_5, .bool a0_6, (.slice A0_7 l0_7.length c0_7)] 25 (0, 0))) ∧ Aside0 (Below w.heap.size w wc))
                  case first =>
                    have H := HC62.out
                    clear HC62
                    by_cases c63 : a0_0 = 7
                    · rw [if_pos c63] at H
                      have c63b0 : (a0_0 == 7) = true := beq_iff_eq.mpr c63
                      have c63b1 : (a0_0 != 7) = false := bne_eq_false_iff_eq.mpr c63
                      clear c63
                      (first | rw [c63b0] | (simp only [i64_w, i32_w]; rw [c63b0]) | skip)
                      have H' := Aside0.mk H
                      clear H
                      go_wp2
                      repeat (go_quiet (fail); try go_wp2)
                      go_meet
                      case rel => exact ⟨_, ((a0_0 == 7)), (by first | rfl | (simp; done) | (simp [*]; done)), H', ⟨by have := HJ1.out; have := HJ6.out; first | omega | exact Nat.le_refl _⟩, ⟨by (with_reducible repeat (first | refine blk_drewN ?_ _ | refine blk_drew ?_ | refine blk_alloc ?_ _)); exact BK187.out⟩, ⟨by repeat (first | (with_reducible first | exact HB.out | apply below_alloc | apply pw_below_drewN | apply below_drew1 | refine below_set ?_ GE187.out) | exact HB.out)⟩⟩
                    · rw [if_neg c63] at H
                      have c63b0 : (a0_0 == 7) = false := beq_eq_false_iff_ne.mpr c63
                      have c63b1 : (a0_0 != 7) = true := bne_iff_ne.mpr c63
                      (first | rw [c63b0] | (simp only [i64_w, i32_w]; rw [c63b0]) | skip)
                      have H' := Aside0.mk H
                      clear H
                      go_wp2
                      repeat (go_quiet (fail); try go_wp2)
                      go_meet
                      case rel => exact ⟨_, ((a0_0 == 8)), (by first | rfl | (simp; done) | (simp [*]; done)), H', ⟨by have := HJ1.out; have := HJ6.out; first | omega | exact Nat.le_refl _⟩, ⟨by (with_reducible repeat (first | refine blk_drewN ?_ _ | refine blk_drew ?_ | refine blk_alloc ?_ _)); exact BK187.out⟩, ⟨by repeat (first | (with_reducible first | exact HB.out | apply below_alloc | apply pw_below_drewN | apply below_drew1 | refine below_set ?_ GE187.out) | exact HB.out)⟩⟩
                  case rest =>
                    clear HC62
                    try clear c1
                    try clear c2
                    try clear p2
                    try clear c3
                    try clear c4
                    try clear c5
                    try clear c6
                    try clear c17
                    try clear c17b0
                    try clear c17b1
                    try clear c20
                    try clear c20b0
                    try clear c20b1
                    try clear c21
                    try clear c22
                    try clear c31
                    try clear c31b0
                    try clear c31b1
                    try clear c32
                    try clear c33
                    try clear c33b0
                    try clear c34
                    try clear c34b0
                    try clear c35
                    try clear c36
                    try clear c37
                    try clear c44
                    try clear c44b0
                    try clear c44b1
                    try clear c45
                    try clear c46
                    try clear c46b0
                    try clear c47
                    try clear c48
                    try clear c49
                    try clear c54
                    try clear c55
                    try clear c56
                    try clear c63
                    try clear c63b0
                    try clear c63b1
                    try clear hcz28_0
                    try clear hcz28_1
                    try clear hcz28_2
                    try clear hcz28_3
                    try clear hcz28_4
                    try clear hcz28_5
                    try clear hcz28_6
                    try clear hcz28_7
                    try clear hcz29_0
                    try clear hcz29_1
                    try clear hcz29_2
                    try clear hcz29_3
                    try clear hcz29_4
                    try clear hcz29_5
                    try clear hcz29_6
                    try clear hcz29_7
                    try clear hcz30_0
                    try clear hcz30_1
                    try clear hcz30_2
                    try clear hcz30_3
                    try clear hcz30_4
                    try clear hcz30_5
                    try clear hcz30_6
                    try clear hcz30_7
                    try clear hcz38_0
                    try clear hcz38_1
                    try clear hcz38_2
                    try clear hcz38_3
                    try clear hcz38_4
                    try clear hcz38_5
                    try clear hcz38_6
                    try clear hcz38_7
                    try clear hcz39_0
                    try clear hcz39_1
                    try clear hcz39_2
                    try clear hcz39_3
                    try clear hcz39_4
                    try clear hcz39_5
                    try clear hcz39_6
                    try clear hcz39_7
                    try clear hcz40_0
                    try clear hcz40_1
                    try clear hcz40_2
                    try clear hcz40_3
                    try clear hcz40_4
                    try clear hcz40_5
                    try clear hcz40_6
                    try clear hcz40_7
                    try clear hcz41_0
                    try clear hcz41_1
                    try clear hcz41_2
                    try clear hcz41_3
                    try clear hcz41_4
                    try clear hcz41_5
                    try clear hcz41_6
                    try clear hcz41_7
                    try clear hcz42_0
                    try clear hcz42_1
                    try clear hcz42_2
                    try clear hcz42_3
                    try clear hcz42_4
                    try clear hcz42_5
                    try clear hcz42_6
                    try clear hcz42_7
                    try clear hcz43_0
                    try clear hcz43_1
                    try clear hcz43_2
                    try clear hcz43_3
                    try clear hcz43_4
                    try clear hcz43_5
                    try clear hcz43_6
                    try clear hcz43_7
                    try clear hcz50_0
                    try clear hcz50_1
                    try clear hcz50_2
                    try clear hcz50_3
                    try clear hcz50_4
                    try clear hcz50_5
                    try clear hcz50_6
                    try clear hcz50_7
                    try clear hcz51_0
                    try clear hcz51_1
                    try clear hcz51_2
                    try clear hcz51_3
                    try clear hcz51_4
                    try clear hcz51_5
                    try clear hcz51_6
                    try clear hcz51_7
                    try clear hcz52_0
                    try clear hcz52_1
                    try clear hcz52_2
                    try clear hcz52_3
                    try clear hcz52_4
                    try clear hcz52_5
                    try clear hcz52_6
                    try clear hcz52_7
                    try clear hcz57_0
                    try clear hcz57_1
                    try clear hcz57_2
                    try clear hcz57_3
                    try clear hcz57_4
                    try clear hcz57_5
                    try clear hcz57_6
                    try clear hcz57_7
                    try clear hcz58_0
                    try clear hcz58_1
                    try clear hcz58_2
                    try clear hcz58_3
                    try clear hcz58_4
                    try clear hcz58_5
                    try clear hcz58_6
                    try clear hcz58_7
                    try clear hcz59_0
                    try clear hcz59_1
                    try clear hcz59_2
                    try clear hcz59_3
                    try clear hcz59_4
                    try clear hcz59_5
                    try clear hcz59_6
                    try clear hcz59_7
                    try clear hcz60_0
                    try clear hcz60_1
                    try clear hcz60_2
                    try clear hcz60_3
                    try clear hcz60_4
                    try clear hcz60_5
                    try clear hcz60_6
                    try clear hcz60_7
                    try clear hcz61_0
                    try clear hcz61_1
                    try clear hcz61_2
                    try clear hcz61_3
                    try clear hcz61_4
                    try clear hcz61_5
                    try clear hcz61_6
                    try clear hcz61_7
                    try clear hfz27_3
                    try clear hfz27_4
                    try clear hfz27_5
                    try clear hfz27_6
                    try clear hfz27_7
                    try clear hfz28_0
                    try clear hfz28_1
                    try clear hfz28_2
                    try clear hfz28_3
                    try clear hfz28_4
                    try clear hfz28_5
                    try clear hfz28_6
                    try clear hfz28_7
                    try clear hfz29_0
                    try clear hfz29_1
                    try clear hfz29_2
                    try clear hfz29_3
                    try clear hfz29_4
                    try clear hfz29_5
                    try clear hfz29_6
                    try clear hfz29_7
                    try clear hfz30_0
                    try clear hfz30_1
                    try clear hfz30_2
                    try clear hfz30_3
                    try clear hfz30_4
                    try clear hfz30_5
                    try clear hfz30_6
                    try clear hfz30_7
                    try clear hfz38_0
                    try clear hfz38_1
                    try clear hfz38_2
                    try clear hfz38_3
                    try clear hfz38_4
                    try clear hfz38_5
                    try clear hfz38_6
                    try clear hfz38_7
                    try clear hfz39_0
                    try clear hfz39_1
                    try clear hfz39_2
                    try clear hfz39_3
                    try clear hfz39_4
                    try clear hfz39_5
                    try clear hfz39_6
                    try clear hfz39_7
                    try clear hfz40_0
                    try clear hfz40_1
                    try clear hfz40_2
                    try clear hfz40_3
                    try clear hfz40_4
                    try clear hfz40_5
                    try clear hfz40_6
                    try clear hfz40_7
                    try clear hfz41_0
                    try clear hfz41_1
                    try clear hfz41_2
                    try clear hfz41_3
                    try clear hfz41_4
                    try clear hfz41_5
                    try clear hfz41_6
                    try clear hfz41_7
                    try clear hfz42_0
                    try clear hfz42_1
                    try clear hfz42_2
                    try clear hfz42_3
                    try clear hfz42_4
                    try clear hfz42_5
                    try clear hfz42_6
                    try clear hfz42_7
                    try clear hfz43_0
                    try clear hfz43_1
                    try clear hfz43_2
                    try clear hfz43_3
                    try clear hfz43_4
                    try clear hfz43_5
                    try clear hfz43_6
                    try clear hfz43_7
                    try clear hfz50_0
                    try clear hfz50_1
                    try clear hfz50_2
                    try clear hfz50_3
                    try clear hfz50_4
                    try clear hfz50_5
                    try clear hfz50_6
                    try clear hfz50_7
                    try clear hfz51_0
                    try clear hfz51_1
                    try clear hfz51_2
                    try clear hfz51_3
                    try clear hfz51_4
                    try clear hfz51_5
                    try clear hfz51_6
                    try clear hfz51_7
                    try clear hfz52_0
                    try clear hfz52_1
                    try clear hfz52_2
                    try clear hfz52_3
                    try clear hfz52_4
                    try clear hfz52_5
                    try clear hfz52_6
                    try clear hfz52_7
                    try clear hfz57_0
                    try clear hfz57_1
                    try clear hfz57_2
                    try clear hfz57_3
                    try clear hfz57_4
                    try clear hfz57_5
                    try clear hfz57_6
                    try clear hfz57_7
                    try clear hfz58_0
                    try clear hfz58_1
                    try clear hfz58_2
                    try clear hfz58_3
                    try clear hfz58_4
                    try clear hfz58_5
                    try clear hfz58_6
                    try clear hfz58_7
                    try clear hfz59_0
                    try clear hfz59_1
                    try clear hfz59_2
                    try clear hfz59_3
                    try clear hfz59_4
                    try clear hfz59_5
                    try clear hfz59_6
                    try clear hfz59_7
                    try clear hfz60_0
                    try clear hfz60_1
                    try clear hfz60_2
                    try clear hfz60_3
                    try clear hfz60_4
                    try clear hfz60_5
                    try clear hfz60_6
                    try clear hfz60_7
                    try clear hfz61_0
                    try clear hfz61_1
                    try clear hfz61_2
                    try clear hfz61_3
                    try clear hfz61_4
                    try clear hfz61_5
                    try clear hfz61_6
                    try clear hfz61_7
                    obtain ⟨kq, x134_61, rfl, HA, HJ61, BK187, HB⟩ := hcut
                    cases kq with
                    | zero => exact absurd HA.out (by simp [burinref06_Fits.j2])
                    | succ kj61 =>
                      have H := HA.out
                      clear HA
                      simp only [burinref06_Fits.j2] at H
                      by_cases c64 : x134_61 = true
                      · subst c64
                        have H1 : (if x3_1 = true then (if x4_1 = true then (if x5_1 = true then (if x6_1 = true then (if x7_1 = true then (some (decide (x8_1 ≥ 2))) else (some false)) else (some false)) else (some false)) else (some false)) else (some false)) = some r := by rw [if_pos rfl] at H; exact H
                        clear H
                        have H := H1
                        clear H1
                        by_cases c65 : x3_1 = true
                        · subst c65
                          have H1 : (if x4_1 = true then (if x5_1 = true then (if x6_1 = true then (if x7_1 = true then (some (decide (x8_1 ≥ 2))) else (some false)) else (some false)) else (some false)) else (some false)) = some r := by rw [if_pos rfl] at H; exact H
                          clear H
                          have H := H1
                          clear H1
                          by_cases c66 : x4_1 = true
                          · subst c66
                            have H1 : (if x5_1 = true then (if x6_1 = true then (if x7_1 = true then (some (decide (x8_1 ≥ 2))) else (some false)) else (some false)) else (some false)) = some r := by rw [if_pos rfl] at H; exact H
                            clear H
                            have H := H1
                            clear H1
                            by_cases c67 : x5_1 = true
                            · subst c67
                              have H1 : (if x6_1 = true then (if x7_1 = true then (some (decide (x8_1 ≥ 2))) else (some false)) else (some false)) = some r := by rw [if_pos rfl] at H; exact H
                              clear H
                              have H := H1
                              clear H1
                              by_cases c68 : x6_1 = true
                              · subst c68
                                have H1 : (if x7_1 = true then (some (decide (x8_1 ≥ 2))) else (some false)) = some r := by rw [if_pos rfl] at H; exact H
                                clear H
                                have H := H1
                                clear H1
                                by_cases c69 : x7_1 = true
                                · subst c69
                                  have H1 : (some (decide (x8_1 ≥ 2))) = some r := by rw [if_pos rfl] at H; exact H
                                  clear H
                                  have H := H1
                                  clear H1
                                  obtain rfl := Option.some.inj H
                                  go_wp2
                                  repeat (go_quiet (fail); try go_wp2)
                                  go_ret
                                  exact ⟨by first | rfl | (simp [errW_none, errW_some] <;> rfl) | (simp [*, errW_none, errW_some] <;> rfl), by repeat (first | (with_reducible first | exact HB.out | apply below_alloc | apply pw_below_drewN | apply below_drew1 | refine below_set ?_ GE187.out) | exact HB.out)⟩
                                · replace c69 := Bool.eq_false_iff.mpr c69
                                  subst c69
                                  have H1 : (some false) = some r := by rw [if_neg (show ¬ (false = true) by decide)] at H; exact H
                                  clear H
                                  have H := H1
                                  clear H1
                                  obtain rfl := Option.some.inj H
                                  go_wp2
                                  repeat (go_quiet (fail); try go_wp2)
                                  go_ret
                                  exact ⟨by first | rfl | (simp [errW_none, errW_some] <;> rfl) | (simp [*, errW_none, errW_some] <;> rfl), by repeat (first | (with_reducible first | exact HB.out | apply below_alloc | apply pw_below_drewN | apply below_drew1 | refine below_set ?_ GE187.out) | exact HB.out)⟩
                              · replace c68 := Bool.eq_false_iff.mpr c68
                                subst c68
                                have H1 : (some false) = some r := by rw [if_neg (show ¬ (false = true) by decide)] at H; exact H
                                clear H
                                have H := H1
                                clear H1
                                obtain rfl := Option.some.inj H
                                go_wp2
                                repeat (go_quiet (fail); try go_wp2)
                                go_ret
                                exact ⟨by first | rfl | (simp [errW_none, errW_some] <;> rfl) | (simp [*, errW_none, errW_some] <;> rfl), by repeat (first | (with_reducible first | exact HB.out | apply below_alloc | apply pw_below_drewN | apply below_drew1 | refine below_set ?_ GE187.out) | exact HB.out)⟩
                            · replace c67 := Bool.eq_false_iff.mpr c67
                              subst c67
                              have H1 : (some false) = some r := by rw [if_neg (show ¬ (false = true) by decide)] at H; exact H
                              clear H
                              have H := H1
                              clear H1
                              obtain rfl := Option.some.inj H
                              go_wp2
                              repeat (go_quiet (fail); try go_wp2)
                              go_ret
                              exact ⟨by first | rfl | (simp [errW_none, errW_some] <;> rfl) | (simp [*, errW_none, errW_some] <;> rfl), by repeat (first | (with_reducible first | exact HB.out | apply below_alloc | apply pw_below_drewN | apply below_drew1 | refine below_set ?_ GE187.out) | exact HB.out)⟩
                          · replace c66 := Bool.eq_false_iff.mpr c66
                            subst c66
                            have H1 : (some false) = some r := by rw [if_neg (show ¬ (false = true) by decide)] at H; exact H
                            clear H
                            have H := H1
                            clear H1
                            obtain rfl := Option.some.inj H
                            go_wp2
                            repeat (go_quiet (fail); try go_wp2)
                            go_ret
                            exact ⟨by first | rfl | (simp [errW_none, errW_some] <;> rfl) | (simp [*, errW_none, errW_some] <;> rfl), by repeat (first | (with_reducible first | exact HB.out | apply below_alloc | apply pw_below_drewN | apply below_drew1 | refine below_set ?_ GE187.out) | exact HB.out)⟩
                        · replace c65 := Bool.eq_false_iff.mpr c65
                          subst c65
                          have H1 : (some false) = some r := by rw [if_neg (show ¬ (false = true) by decide)] at H; exact H
                          clear H
                          have H := H1
                          clear H1
                          obtain rfl := Option.some.inj H
                          go_wp2
                          repeat (go_quiet (fail); try go_wp2)
                          go_ret
                          exact ⟨by first | rfl | (simp [errW_none, errW_some] <;> rfl) | (simp [*, errW_none, errW_some] <;> rfl), by repeat (first | (with_reducible first | exact HB.out | apply below_alloc | apply pw_below_drewN | apply below_drew1 | refine below_set ?_ GE187.out) | exact HB.out)⟩
                      · replace c64 := Bool.eq_false_iff.mpr c64
                        subst c64
                        have H1 : (if a0_0 = 9 then (if x3_1 = true then (if x4_1 = true then (if x5_1 = true then (if a0_4 ≥ 0 then (if a0_4 ≤ 1000 then (if a0_5 = (-1) then (some (x8_1 == 1)) else (if a0_5 ≥ a0_4 then (if a0_5 ≤ 1000 then (some (x8_1 == 1)) else (some false)) else (some false))) else (some false)) else (some false)) else (some false)) else (some false)) else (some false)) else (some false)) = some r := by rw [if_neg (show ¬ (false = true) by decide)] at H; exact H
                        clear H
                        have H := H1
                        clear H1
                        by_cases c70 : a0_0 = 9
                        · rw [if_pos c70] at H
                          have c70b0 : (a0_0 == 9) = true := beq_iff_eq.mpr c70
                          have c70b1 : (a0_0 != 9) = false := bne_eq_false_iff_eq.mpr c70
                          clear c70
                          by_cases c71 : x3_1 = true
                          · subst c71
                            have H1 : (if x4_1 = true then (if x5_1 = true then (if a0_4 ≥ 0 then (if a0_4 ≤ 1000 then (if a0_5 = (-1) then (some (x8_1 == 1)) else (if a0_5 ≥ a0_4 then (if a0_5 ≤ 1000 then (some (x8_1 == 1)) else (some false)) else (some false))) else (some false)) else (some false)) else (some false)) else (some false)) = some r := by rw [if_pos rfl] at H; exact H
                            clear H
                            have H := H1
                            clear H1
                            by_cases c72 : x4_1 = true
                            · subst c72
                              have H1 : (if x5_1 = true then (if a0_4 ≥ 0 then (if a0_4 ≤ 1000 then (if a0_5 = (-1) then (some (x8_1 == 1)) else (if a0_5 ≥ a0_4 then (if a0_5 ≤ 1000 then (some (x8_1 == 1)) else (some false)) else (some false))) else (some false)) else (some false)) else (some false)) = some r := by rw [if_pos rfl] at H; exact H
                              clear H
                              have H := H1
                              clear H1
                              by_cases c73 : x5_1 = true
                              · subst c73
                                have H1 : (if a0_4 ≥ 0 then (if a0_4 ≤ 1000 then (if a0_5 = (-1) then (some (x8_1 == 1)) else (if a0_5 ≥ a0_4 then (if a0_5 ≤ 1000 then (some (x8_1 == 1)) else (some false)) else (some false))) else (some false)) else (some false)) = some r := by rw [if_pos rfl] at H; exact H
                                clear H
                                have H := H1
                                clear H1
                                by_cases c74 : a0_4 ≥ 0
                                · rw [if_pos c74] at H
                                  have c74b0 : decide (0 ≤ a0_4) = true := decide_eq_true c74
                                  clear c74
                                  by_cases c75 : a0_4 ≤ 1000
                                  · rw [if_pos c75] at H
                                    have c75b0 : decide (a0_4 ≤ 1000) = true := decide_eq_true c75
                                    clear c75
                                    by_cases c76 : a0_5 = (-1)
                                    · rw [if_pos c76] at H
                                      have c76b0 : (a0_5 == (-1)) = true := beq_iff_eq.mpr c76
                                      have c76b1 : (a0_5 != (-1)) = false := bne_eq_false_iff_eq.mpr c76
                                      clear c76
                                      obtain rfl := Option.some.inj H
                                      have hcz77_0 : wc.cell? ⟨gb187, 0, none⟩ = some (.int .i64 a0_0) := (blk_cell BK187.out 0).trans rfl
                                      have hcz77_1 : wc.cell? ⟨gb187, 1, none⟩ = some (.slice A0_1 l0_1.length c0_1) := (blk_cell BK187.out 1).trans rfl
                                      have hcz77_2 : wc.cell? ⟨gb187, 2, none⟩ = some (.int .i64 a0_2) := (blk_cell BK187.out 2).trans rfl
                                      have hcz77_3 : wc.cell? ⟨gb187, 3, none⟩ = some (.string a0_3) := (blk_cell BK187.out 3).trans rfl
                                      have hcz77_4 : wc.cell? ⟨gb187, 4, none⟩ = some (.int .i64 a0_4) := (blk_cell BK187.out 4).trans rfl
                                      have hcz77_5 : wc.cell? ⟨gb187, 5, none⟩ = some (.int .i64 a0_5) := (blk_cell BK187.out 5).trans rfl
                                      have hcz77_6 : wc.cell? ⟨gb187, 6, none⟩ = some (.bool a0_6) := (blk_cell BK187.out 6).trans rfl
                                      have hcz77_7 : wc.cell? ⟨gb187, 7, none⟩ = some (.slice A0_7 l0_7.length c0_7) := (blk_cell BK187.out 7).trans rfl
                                      have hfz77_0 := blk_frozen BK187.out 0
                                      have hfz77_1 := blk_frozen BK187.out 1
                                      have hfz77_2 := blk_frozen BK187.out 2
                                      have hfz77_3 := blk_frozen BK187.out 3
                                      have hfz77_4 := blk_frozen BK187.out 4
                                      have hfz77_5 := blk_frozen BK187.out 5
                                      have hfz77_6 := blk_frozen BK187.out 6
                                      have hfz77_7 := blk_frozen BK187.out 7
                                      go_wp2
                                      repeat (go_quiet (fail); try go_wp2)
                                      go_ret
                                      exact ⟨by first | rfl | (simp [errW_none, errW_some] <;> rfl) | (simp [*, errW_none, errW_some] <;> rfl), by repeat (first | (with_reducible first | exact HB.out | apply below_alloc | apply pw_below_drewN | apply below_drew1 | refine below_set ?_ GE187.out) | exact HB.out)⟩
                                    · rw [if_neg c76] at H
                                      have c76b0 : (a0_5 == (-1)) = false := beq_eq_false_iff_ne.mpr c76
                                      have c76b1 : (a0_5 != (-1)) = true := bne_iff_ne.mpr c76
                                      by_cases c78 : a0_5 ≥ a0_4
                                      · rw [if_pos c78] at H
                                        have c78b0 : decide (a0_4 ≤ a0_5) = true := decide_eq_true c78
                                        clear c78
                                        by_cases c79 : a0_5 ≤ 1000
                                        · rw [if_pos c79] at H
                                          have c79b0 : decide (a0_5 ≤ 1000) = true := decide_eq_true c79
                                          clear c79
                                          obtain rfl := Option.some.inj H
                                          have hcz80_0 : wc.cell? ⟨gb187, 0, none⟩ = some (.int .i64 a0_0) := (blk_cell BK187.out 0).trans rfl
                                          have hcz80_1 : wc.cell? ⟨gb187, 1, none⟩ = some (.slice A0_1 l0_1.length c0_1) := (blk_cell BK187.out 1).trans rfl
                                          have hcz80_2 : wc.cell? ⟨gb187, 2, none⟩ = some (.int .i64 a0_2) := (blk_cell BK187.out 2).trans rfl
                                          have hcz80_3 : wc.cell? ⟨gb187, 3, none⟩ = some (.string a0_3) := (blk_cell BK187.out 3).trans rfl
                                          have hcz80_4 : wc.cell? ⟨gb187, 4, none⟩ = some (.int .i64 a0_4) := (blk_cell BK187.out 4).trans rfl
                                          have hcz80_5 : wc.cell? ⟨gb187, 5, none⟩ = some (.int .i64 a0_5) := (blk_cell BK187.out 5).trans rfl
                                          have hcz80_6 : wc.cell? ⟨gb187, 6, none⟩ = some (.bool a0_6) := (blk_cell BK187.out 6).trans rfl
                                          have hcz80_7 : wc.cell? ⟨gb187, 7, none⟩ = some (.slice A0_7 l0_7.length c0_7) := (blk_cell BK187.out 7).trans rfl
                                          have hfz80_0 := blk_frozen BK187.out 0
                                          have hfz80_1 := blk_frozen BK187.out 1
                                          have hfz80_2 := blk_frozen BK187.out 2
                                          have hfz80_3 := blk_frozen BK187.out 3
                                          have hfz80_4 := blk_frozen BK187.out 4
                                          have hfz80_5 := blk_frozen BK187.out 5
                                          have hfz80_6 := blk_frozen BK187.out 6
                                          have hfz80_7 := blk_frozen BK187.out 7
                                          go_wp2
                                          repeat (go_quiet (fail); try go_wp2)
                                          go_ret
                                          exact ⟨by first | rfl | (simp [errW_none, errW_some] <;> rfl) | (simp [*, errW_none, errW_some] <;> rfl), by repeat (first | (with_reducible first | exact HB.out | apply below_alloc | apply pw_below_drewN | apply below_drew1 | refine below_set ?_ GE187.out) | exact HB.out)⟩
                                        · rw [if_neg c79] at H
                                          have c79b0 : decide (a0_5 ≤ 1000) = false := decide_eq_false c79
                                          clear c79
                                          obtain rfl := Option.some.inj H
                                          have hcz81_0 : wc.cell? ⟨gb187, 0, none⟩ = some (.int .i64 a0_0) := (blk_cell BK187.out 0).trans rfl
                                          have hcz81_1 : wc.cell? ⟨gb187, 1, none⟩ = some (.slice A0_1 l0_1.length c0_1) := (blk_cell BK187.out 1).trans rfl
                                          have hcz81_2 : wc.cell? ⟨gb187, 2, none⟩ = some (.int .i64 a0_2) := (blk_cell BK187.out 2).trans rfl
                                          have hcz81_3 : wc.cell? ⟨gb187, 3, none⟩ = some (.string a0_3) := (blk_cell BK187.out 3).trans rfl
                                          have hcz81_4 : wc.cell? ⟨gb187, 4, none⟩ = some (.int .i64 a0_4) := (blk_cell BK187.out 4).trans rfl
                                          have hcz81_5 : wc.cell? ⟨gb187, 5, none⟩ = some (.int .i64 a0_5) := (blk_cell BK187.out 5).trans rfl
                                          have hcz81_6 : wc.cell? ⟨gb187, 6, none⟩ = some (.bool a0_6) := (blk_cell BK187.out 6).trans rfl
                                          have hcz81_7 : wc.cell? ⟨gb187, 7, none⟩ = some (.slice A0_7 l0_7.length c0_7) := (blk_cell BK187.out 7).trans rfl
                                          have hfz81_0 := blk_frozen BK187.out 0
                                          have hfz81_1 := blk_frozen BK187.out 1
                                          have hfz81_2 := blk_frozen BK187.out 2
                                          have hfz81_3 := blk_frozen BK187.out 3
                                          have hfz81_4 := blk_frozen BK187.out 4
                                          have hfz81_5 := blk_frozen BK187.out 5
                                          have hfz81_6 := blk_frozen BK187.out 6
                                          have hfz81_7 := blk_frozen BK187.out 7
                                          go_wp2
                                          repeat (go_quiet (fail); try go_wp2)
                                          go_ret
                                          exact ⟨by first | rfl | (simp [errW_none, errW_some] <;> rfl) | (simp [*, errW_none, errW_some] <;> rfl), by repeat (first | (with_reducible first | exact HB.out | apply below_alloc | apply pw_below_drewN | apply below_drew1 | refine below_set ?_ GE187.out) | exact HB.out)⟩
                                      · rw [if_neg c78] at H
                                        have c78b0 : decide (a0_4 ≤ a0_5) = false := decide_eq_false c78
                                        clear c78
                                        obtain rfl := Option.some.inj H
                                        have hcz82_0 : wc.cell? ⟨gb187, 0, none⟩ = some (.int .i64 a0_0) := (blk_cell BK187.out 0).trans rfl
                                        have hcz82_1 : wc.cell? ⟨gb187, 1, none⟩ = some (.slice A0_1 l0_1.length c0_1) := (blk_cell BK187.out 1).trans rfl
                                        have hcz82_2 : wc.cell? ⟨gb187, 2, none⟩ = some (.int .i64 a0_2) := (blk_cell BK187.out 2).trans rfl
                                        have hcz82_3 : wc.cell? ⟨gb187, 3, none⟩ = some (.string a0_3) := (blk_cell BK187.out 3).trans rfl
                                        have hcz82_4 : wc.cell? ⟨gb187, 4, none⟩ = some (.int .i64 a0_4) := (blk_cell BK187.out 4).trans rfl
                                        have hcz82_5 : wc.cell? ⟨gb187, 5, none⟩ = some (.int .i64 a0_5) := (blk_cell BK187.out 5).trans rfl
                                        have hcz82_6 : wc.cell? ⟨gb187, 6, none⟩ = some (.bool a0_6) := (blk_cell BK187.out 6).trans rfl
                                        have hcz82_7 : wc.cell? ⟨gb187, 7, none⟩ = some (.slice A0_7 l0_7.length c0_7) := (blk_cell BK187.out 7).trans rfl
                                        have hfz82_0 := blk_frozen BK187.out 0
                                        have hfz82_1 := blk_frozen BK187.out 1
                                        have hfz82_2 := blk_frozen BK187.out 2
                                        have hfz82_3 := blk_frozen BK187.out 3
                                        have hfz82_4 := blk_frozen BK187.out 4
                                        have hfz82_5 := blk_frozen BK187.out 5
                                        have hfz82_6 := blk_frozen BK187.out 6
                                        have hfz82_7 := blk_frozen BK187.out 7
                                        go_wp2
                                        repeat (go_quiet (fail); try go_wp2)
                                        go_ret
                                        exact ⟨by first | rfl | (simp [errW_none, errW_some] <;> rfl) | (simp [*, errW_none, errW_some] <;> rfl), by repeat (first | (with_reducible first | exact HB.out | apply below_alloc | apply pw_below_drewN | apply below_drew1 | refine below_set ?_ GE187.out) | exact HB.out)⟩
                                  · rw [if_neg c75] at H
                                    have c75b0 : decide (a0_4 ≤ 1000) = false := decide_eq_false c75
                                    clear c75
                                    obtain rfl := Option.some.inj H
                                    have hcz83_0 : wc.cell? ⟨gb187, 0, none⟩ = some (.int .i64 a0_0) := (blk_cell BK187.out 0).trans rfl
                                    have hcz83_1 : wc.cell? ⟨gb187, 1, none⟩ = some (.slice A0_1 l0_1.length c0_1) := (blk_cell BK187.out 1).trans rfl
                                    have hcz83_2 : wc.cell? ⟨gb187, 2, none⟩ = some (.int .i64 a0_2) := (blk_cell BK187.out 2).trans rfl
                                    have hcz83_3 : wc.cell? ⟨gb187, 3, none⟩ = some (.string a0_3) := (blk_cell BK187.out 3).trans rfl
                                    have hcz83_4 : wc.cell? ⟨gb187, 4, none⟩ = some (.int .i64 a0_4) := (blk_cell BK187.out 4).trans rfl
                                    have hcz83_5 : wc.cell? ⟨gb187, 5, none⟩ = some (.int .i64 a0_5) := (blk_cell BK187.out 5).trans rfl
                                    have hcz83_6 : wc.cell? ⟨gb187, 6, none⟩ = some (.bool a0_6) := (blk_cell BK187.out 6).trans rfl
                                    have hcz83_7 : wc.cell? ⟨gb187, 7, none⟩ = some (.slice A0_7 l0_7.length c0_7) := (blk_cell BK187.out 7).trans rfl
                                    have hfz83_0 := blk_frozen BK187.out 0
                                    have hfz83_1 := blk_frozen BK187.out 1
                                    have hfz83_2 := blk_frozen BK187.out 2
                                    have hfz83_3 := blk_frozen BK187.out 3
                                    have hfz83_4 := blk_frozen BK187.out 4
                                    have hfz83_5 := blk_frozen BK187.out 5
                                    have hfz83_6 := blk_frozen BK187.out 6
                                    have hfz83_7 := blk_frozen BK187.out 7
                                    go_wp2
                                    repeat (go_quiet (fail); try go_wp2)
                                    go_ret
                                    exact ⟨by first | rfl | (simp [errW_none, errW_some] <;> rfl) | (simp [*, errW_none, errW_some] <;> rfl), by repeat (first | (with_reducible first | exact HB.out | apply below_alloc | apply pw_below_drewN | apply below_drew1 | refine below_set ?_ GE187.out) | exact HB.out)⟩
                                · rw [if_neg c74] at H
                                  have c74b0 : decide (0 ≤ a0_4) = false := decide_eq_false c74
                                  clear c74
                                  obtain rfl := Option.some.inj H
                                  have hcz84_0 : wc.cell? ⟨gb187, 0, none⟩ = some (.int .i64 a0_0) := (blk_cell BK187.out 0).trans rfl
                                  have hcz84_1 : wc.cell? ⟨gb187, 1, none⟩ = some (.slice A0_1 l0_1.length c0_1) := (blk_cell BK187.out 1).trans rfl
                                  have hcz84_2 : wc.cell? ⟨gb187, 2, none⟩ = some (.int .i64 a0_2) := (blk_cell BK187.out 2).trans rfl
                                  have hcz84_3 : wc.cell? ⟨gb187, 3, none⟩ = some (.string a0_3) := (blk_cell BK187.out 3).trans rfl
                                  have hcz84_4 : wc.cell? ⟨gb187, 4, none⟩ = some (.int .i64 a0_4) := (blk_cell BK187.out 4).trans rfl
                                  have hcz84_5 : wc.cell? ⟨gb187, 5, none⟩ = some (.int .i64 a0_5) := (blk_cell BK187.out 5).trans rfl
                                  have hcz84_6 : wc.cell? ⟨gb187, 6, none⟩ = some (.bool a0_6) := (blk_cell BK187.out 6).trans rfl
                                  have hcz84_7 : wc.cell? ⟨gb187, 7, none⟩ = some (.slice A0_7 l0_7.length c0_7) := (blk_cell BK187.out 7).trans rfl
                                  have hfz84_0 := blk_frozen BK187.out 0
                                  have hfz84_1 := blk_frozen BK187.out 1
                                  have hfz84_2 := blk_frozen BK187.out 2
                                  have hfz84_3 := blk_frozen BK187.out 3
                                  have hfz84_4 := blk_frozen BK187.out 4
                                  have hfz84_5 := blk_frozen BK187.out 5
                                  have hfz84_6 := blk_frozen BK187.out 6
                                  have hfz84_7 := blk_frozen BK187.out 7
                                  go_wp2
                                  repeat (go_quiet (fail); try go_wp2)
                                  go_ret
                                  exact ⟨by first | rfl | (simp [errW_none, errW_some] <;> rfl) | (simp [*, errW_none, errW_some] <;> rfl), by repeat (first | (with_reducible first | exact HB.out | apply below_alloc | apply pw_below_drewN | apply below_drew1 | refine below_set ?_ GE187.out) | exact HB.out)⟩
                              · replace c73 := Bool.eq_false_iff.mpr c73
                                subst c73
                                have H1 : (some false) = some r := by rw [if_neg (show ¬ (false = true) by decide)] at H; exact H
                                clear H
                                have H := H1
                                clear H1
                                obtain rfl := Option.some.inj H
                                go_wp2
                                repeat (go_quiet (fail); try go_wp2)
                                go_ret
                                exact ⟨by first | rfl | (simp [errW_none, errW_some] <;> rfl) | (simp [*, errW_none, errW_some] <;> rfl), by repeat (first | (with_reducible first | exact HB.out | apply below_alloc | apply pw_below_drewN | apply below_drew1 | refine below_set ?_ GE187.out) | exact HB.out)⟩
                            · replace c72 := Bool.eq_false_iff.mpr c72
                              subst c72
                              have H1 : (some false) = some r := by rw [if_neg (show ¬ (false = true) by decide)] at H; exact H
                              clear H
                              have H := H1
                              clear H1
                              obtain rfl := Option.some.inj H
                              go_wp2
                              repeat (go_quiet (fail); try go_wp2)
                              go_ret
                              exact ⟨by first | rfl | (simp [errW_none, errW_some] <;> rfl) | (simp [*, errW_none, errW_some] <;> rfl), by repeat (first | (with_reducible first | exact HB.out | apply below_alloc | apply pw_below_drewN | apply below_drew1 | refine below_set ?_ GE187.out) | exact HB.out)⟩
                          · replace c71 := Bool.eq_false_iff.mpr c71
                            subst c71
                            have H1 : (some false) = some r := by rw [if_neg (show ¬ (false = true) by decide)] at H; exact H
                            clear H
                            have H := H1
                            clear H1
                            obtain rfl := Option.some.inj H
                            go_wp2
                            repeat (go_quiet (fail); try go_wp2)
                            go_ret
                            exact ⟨by first | rfl | (simp [errW_none, errW_some] <;> rfl) | (simp [*, errW_none, errW_some] <;> rfl), by repeat (first | (with_reducible first | exact HB.out | apply below_alloc | apply pw_below_drewN | apply below_drew1 | refine below_set ?_ GE187.out) | exact HB.out)⟩
                        · rw [if_neg c70] at H
                          have c70b0 : (a0_0 == 9) = false := beq_eq_false_iff_ne.mpr c70
                          have c70b1 : (a0_0 != 9) = true := bne_iff_ne.mpr c70
                          obtain rfl := Option.some.inj H
                          go_wp2
                          repeat (go_quiet (fail); try go_wp2)
                          go_ret
                          exact ⟨by first | rfl | (simp [errW_none, errW_some] <;> rfl) | (simp [*, errW_none, errW_some] <;> rfl), by repeat (first | (with_reducible first | exact HB.out | apply below_alloc | apply pw_below_drewN | apply below_drew1 | refine below_set ?_ GE187.out) | exact HB.out)⟩

end Go.Proofs.Ytojlhlepneefoaa.PAll
