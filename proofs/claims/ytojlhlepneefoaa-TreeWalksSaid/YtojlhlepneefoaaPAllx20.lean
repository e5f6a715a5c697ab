-- Laid by print.py over several laws of the seat at once (wip/tools/printmany.sh): one namespace for all
import Derived.Test.YtojlhlepneefoaaPAllx0
import Derived.Test.YtojlhlepneefoaaPAllx19
namespace Go.Proofs.Ytojlhlepneefoaa.PAll
open Go.RowKit Go.Proofs.YtojlhlepneefoaaW.PrintWords Go.Proofs.YtojlhlepneefoaaW.PrintLast Go.Proofs.YtojlhlepneefoaaW.PrintMore
attribute [local go_sem] max2_int min2_int max_two min_two max_three min_three max_four min_four   -- for this text's walks alone
set_option linter.unusedVariables false
set_option linter.unusedSimpArgs false

/-! ### burinbook_SameNode: function 50 -/
mutual
def burinbook_SameNode.j0 : Nat → Int → Bool → Int → List (S103) → Int → ByteArray → Int → Int → Bool → List (S25) → Int → List (S103) → Int → ByteArray → Int → Int → Bool → List (S25) → Option (Bool)
  | 0, _, _, _, _, _, _, _, _, _, _, _, _, _, _, _, _, _, _ => none
  | k + 1, x2, x68, x208000, x208001, x208002, x208003, x208004, x208005, x208006, x208007, x209000, x209001, x209002, x209003, x209004, x209005, x209006, x209007 => if x68 = true then (some false) else (burinbook_SameNode.l0 k x2 0 x208000 x208001 x208002 x208003 x208004 x208005 x208006 x208007 x209000 x209001 x209002 x209003 x209004 x209005 x209006 x209007)
def burinbook_SameNode.l0 : Nat → Int → Int → Int → List (S103) → Int → ByteArray → Int → Int → Bool → List (S25) → Int → List (S103) → Int → ByteArray → Int → Int → Bool → List (S25) → Option (Bool)
  | 0, _, _, _, _, _, _, _, _, _, _, _, _, _, _, _, _, _, _ => none
  | k + 1, x2, x7, x208000, x208001, x208002, x208003, x208004, x208005, x208006, x208007, x209000, x209001, x209002, x209003, x209004, x209005, x209006, x209007 => if x7 < (x208007.length : Int) then (burinbook_SameNode.j2 k x2 x7 (decide (x7 < (x209007.length : Int))) x208000 x208001 x208002 x208003 x208004 x208005 x208006 x208007 x209000 x209001 x209002 x209003 x209004 x209005 x209006 x209007) else (burinbook_SameNode.j2 k x2 x7 false x208000 x208001 x208002 x208003 x208004 x208005 x208006 x208007 x209000 x209001 x209002 x209003 x209004 x209005 x209006 x209007)
def burinbook_SameNode.j2 : Nat → Int → Int → Bool → Int → List (S103) → Int → ByteArray → Int → Int → Bool → List (S25) → Int → List (S103) → Int → ByteArray → Int → Int → Bool → List (S25) → Option (Bool)
  | 0, _, _, _, _, _, _, _, _, _, _, _, _, _, _, _, _, _, _, _ => none
  | k + 1, x2, x7, x80, x208000, x208001, x208002, x208003, x208004, x208005, x208006, x208007, x209000, x209001, x209002, x209003, x209004, x209005, x209006, x209007 => if x80 = true then (if 0 ≤ x7 then (if x7 < (x208007.length : Int) then (if x7 < (x209007.length : Int) then ((burinbook_SameNode.f k ((rd_T25 x208007 x7).f0) ((rd_T25 x208007 x7).f1) ((rd_T25 x208007 x7).f2) ((rd_T25 x208007 x7).f3) ((rd_T25 x208007 x7).f4) ((rd_T25 x208007 x7).f5) ((rd_T25 x208007 x7).f6) ((rd_T25 x208007 x7).f7) ((rd_T25 x209007 x7).f0) ((rd_T25 x209007 x7).f1) ((rd_T25 x209007 x7).f2) ((rd_T25 x209007 x7).f3) ((rd_T25 x209007 x7).f4) ((rd_T25 x209007 x7).f5) ((rd_T25 x209007 x7).f6) ((rd_T25 x209007 x7).f7) (wrap64 (x2 - 1))).bind fun t212 => (if t212 = true then (burinbook_SameNode.l0 k x2 (wrap64 (x7 + 1)) x208000 x208001 x208002 x208003 x208004 x208005 x208006 x208007 x209000 x209001 x209002 x209003 x209004 x209005 x209006 x209007) else (some false))) else (none)) else (none)) else (none)) else (some true)
def burinbook_SameNode.f : Nat → Int → List (S103) → Int → ByteArray → Int → Int → Bool → List (S25) → Int → List (S103) → Int → ByteArray → Int → Int → Bool → List (S25) → Int → Option (Bool)
  | 0, _, _, _, _, _, _, _, _, _, _, _, _, _, _, _, _, _ => none
  | k + 1, a0_0, l0_1, a0_2, a0_3, a0_4, a0_5, a0_6, l0_7, a1_0, l1_1, a1_2, a1_3, a1_4, a1_5, a1_6, l1_7, a2 => if a2 = 0 then (burinbook_SameNode.j0 k a2 true a0_0 l0_1 a0_2 a0_3 a0_4 a0_5 a0_6 l0_7 a1_0 l1_1 a1_2 a1_3 a1_4 a1_5 a1_6 l1_7) else (if a0_0 = a1_0 then (if a0_2 = a1_2 then (if a0_3.toList = a1_3.toList then (if a0_4 = a1_4 then (if a0_5 = a1_5 then (if (a0_6 != a1_6) = true then (burinbook_SameNode.j0 k a2 true a0_0 l0_1 a0_2 a0_3 a0_4 a0_5 a0_6 l0_7 a1_0 l1_1 a1_2 a1_3 a1_4 a1_5 a1_6 l1_7) else ((burinbook_SameRanges.f k l0_1 l1_1).bind fun t209 => (if t209 = true then (burinbook_SameNode.j0 k a2 ((l0_7.length : Int) != (l1_7.length : Int)) a0_0 l0_1 a0_2 a0_3 a0_4 a0_5 a0_6 l0_7 a1_0 l1_1 a1_2 a1_3 a1_4 a1_5 a1_6 l1_7) else (burinbook_SameNode.j0 k a2 true a0_0 l0_1 a0_2 a0_3 a0_4 a0_5 a0_6 l0_7 a1_0 l1_1 a1_2 a1_3 a1_4 a1_5 a1_6 l1_7)))) else (burinbook_SameNode.j0 k a2 true a0_0 l0_1 a0_2 a0_3 a0_4 a0_5 a0_6 l0_7 a1_0 l1_1 a1_2 a1_3 a1_4 a1_5 a1_6 l1_7)) else (burinbook_SameNode.j0 k a2 true a0_0 l0_1 a0_2 a0_3 a0_4 a0_5 a0_6 l0_7 a1_0 l1_1 a1_2 a1_3 a1_4 a1_5 a1_6 l1_7)) else (burinbook_SameNode.j0 k a2 true a0_0 l0_1 a0_2 a0_3 a0_4 a0_5 a0_6 l0_7 a1_0 l1_1 a1_2 a1_3 a1_4 a1_5 a1_6 l1_7)) else (burinbook_SameNode.j0 k a2 true a0_0 l0_1 a0_2 a0_3 a0_4 a0_5 a0_6 l0_7 a1_0 l1_1 a1_2 a1_3 a1_4 a1_5 a1_6 l1_7)) else (burinbook_SameNode.j0 k a2 true a0_0 l0_1 a0_2 a0_3 a0_4 a0_5 a0_6 l0_7 a1_0 l1_1 a1_2 a1_3 a1_4 a1_5 a1_6 l1_7))
end
theorem burinbook_SameNode.mono_l : ∀ k, (∀ y0 y1 y2 y3 y4 y5 y6 y7 y8 y9 y10 y11 y12 y13 y14 y15 y16, LeO (burinbook_SameNode.f k y0 y1 y2 y3 y4 y5 y6 y7 y8 y9 y10 y11 y12 y13 y14 y15 y16) (burinbook_SameNode.f (k + 1) y0 y1 y2 y3 y4 y5 y6 y7 y8 y9 y10 y11 y12 y13 y14 y15 y16)) ∧ (∀ y0 y1 y2 y3 y4 y5 y6 y7 y8 y9 y10 y11 y12 y13 y14 y15 y16 y17, LeO (burinbook_SameNode.j0 k y0 y1 y2 y3 y4 y5 y6 y7 y8 y9 y10 y11 y12 y13 y14 y15 y16 y17) (burinbook_SameNode.j0 (k + 1) y0 y1 y2 y3 y4 y5 y6 y7 y8 y9 y10 y11 y12 y13 y14 y15 y16 y17)) ∧ (∀ y0 y1 y2 y3 y4 y5 y6 y7 y8 y9 y10 y11 y12 y13 y14 y15 y16 y17, LeO (burinbook_SameNode.l0 k y0 y1 y2 y3 y4 y5 y6 y7 y8 y9 y10 y11 y12 y13 y14 y15 y16 y17) (burinbook_SameNode.l0 (k + 1) y0 y1 y2 y3 y4 y5 y6 y7 y8 y9 y10 y11 y12 y13 y14 y15 y16 y17)) ∧ (∀ y0 y1 y2 y3 y4 y5 y6 y7 y8 y9 y10 y11 y12 y13 y14 y15 y16 y17 y18, LeO (burinbook_SameNode.j2 k y0 y1 y2 y3 y4 y5 y6 y7 y8 y9 y10 y11 y12 y13 y14 y15 y16 y17 y18) (burinbook_SameNode.j2 (k + 1) y0 y1 y2 y3 y4 y5 y6 y7 y8 y9 y10 y11 y12 y13 y14 y15 y16 y17 y18))
  | 0 => ⟨fun _ _ _ _ _ _ _ _ _ _ _ _ _ _ _ _ _ r h => by simp [burinbook_SameNode.f] at h, fun _ _ _ _ _ _ _ _ _ _ _ _ _ _ _ _ _ _ r h => by simp [burinbook_SameNode.j0] at h, fun _ _ _ _ _ _ _ _ _ _ _ _ _ _ _ _ _ _ r h => by simp [burinbook_SameNode.l0] at h, fun _ _ _ _ _ _ _ _ _ _ _ _ _ _ _ _ _ _ _ r h => by simp [burinbook_SameNode.j2] at h⟩
  | k + 1 => by
    obtain ⟨ih0, ih1, ih2, ih3⟩ := burinbook_SameNode.mono_l k
    refine ⟨?_, ?_, ?_, ?_⟩
    · intro y0 y1 y2 y3 y4 y5 y6 y7 y8 y9 y10 y11 y12 y13 y14 y15 y16
      unfold burinbook_SameNode.f
      repeat' first
      | (with_reducible exact ih0 _ _ _ _ _ _ _ _ _ _ _ _ _ _ _ _ _)
      | (with_reducible exact ih1 _ _ _ _ _ _ _ _ _ _ _ _ _ _ _ _ _ _)
      | (with_reducible exact ih2 _ _ _ _ _ _ _ _ _ _ _ _ _ _ _ _ _ _)
      | (with_reducible exact ih3 _ _ _ _ _ _ _ _ _ _ _ _ _ _ _ _ _ _ _)
      | (with_reducible exact burinbook_SameRanges.mono _ _ _)
      | (with_reducible exact LeO.refl _)
      | (with_reducible exact LeO.none _)
      | (with_reducible refine LeO.ite ?_ ?_)
      | (with_reducible refine LeO.bind ?_ (fun _ => ?_))
      | exact ih0 _ _ _ _ _ _ _ _ _ _ _ _ _ _ _ _ _
      | exact ih1 _ _ _ _ _ _ _ _ _ _ _ _ _ _ _ _ _ _
      | exact ih2 _ _ _ _ _ _ _ _ _ _ _ _ _ _ _ _ _ _
      | exact ih3 _ _ _ _ _ _ _ _ _ _ _ _ _ _ _ _ _ _ _
      | exact burinbook_SameRanges.mono _ _ _
      | exact LeO.none _
      | refine LeO.ite ?_ ?_
      | refine LeO.bind ?_ (fun _ => ?_)
    · intro y0 y1 y2 y3 y4 y5 y6 y7 y8 y9 y10 y11 y12 y13 y14 y15 y16 y17
      unfold burinbook_SameNode.j0
      repeat' first
      | (with_reducible exact ih0 _ _ _ _ _ _ _ _ _ _ _ _ _ _ _ _ _)
      | (with_reducible exact ih1 _ _ _ _ _ _ _ _ _ _ _ _ _ _ _ _ _ _)
      | (with_reducible exact ih2 _ _ _ _ _ _ _ _ _ _ _ _ _ _ _ _ _ _)
      | (with_reducible exact ih3 _ _ _ _ _ _ _ _ _ _ _ _ _ _ _ _ _ _ _)
      | (with_reducible exact burinbook_SameRanges.mono _ _ _)
      | (with_reducible exact LeO.refl _)
      | (with_reducible exact LeO.none _)
      | (with_reducible refine LeO.ite ?_ ?_)
      | (with_reducible refine LeO.bind ?_ (fun _ => ?_))
      | exact ih0 _ _ _ _ _ _ _ _ _ _ _ _ _ _ _ _ _
      | exact ih1 _ _ _ _ _ _ _ _ _ _ _ _ _ _ _ _ _ _
      | exact ih2 _ _ _ _ _ _ _ _ _ _ _ _ _ _ _ _ _ _
      | exact ih3 _ _ _ _ _ _ _ _ _ _ _ _ _ _ _ _ _ _ _
      | exact burinbook_SameRanges.mono _ _ _
      | exact LeO.none _
      | refine LeO.ite ?_ ?_
      | refine LeO.bind ?_ (fun _ => ?_)
    · intro y0 y1 y2 y3 y4 y5 y6 y7 y8 y9 y10 y11 y12 y13 y14 y15 y16 y17
      unfold burinbook_SameNode.l0
      repeat' first
      | (with_reducible exact ih0 _ _ _ _ _ _ _ _ _ _ _ _ _ _ _ _ _)
      | (with_reducible exact ih1 _ _ _ _ _ _ _ _ _ _ _ _ _ _ _ _ _ _)
      | (with_reducible exact ih2 _ _ _ _ _ _ _ _ _ _ _ _ _ _ _ _ _ _)
      | (with_reducible exact ih3 _ _ _ _ _ _ _ _ _ _ _ _ _ _ _ _ _ _ _)
      | (with_reducible exact burinbook_SameRanges.mono _ _ _)
      | (with_reducible exact LeO.refl _)
      | (with_reducible exact LeO.none _)
      | (with_reducible refine LeO.ite ?_ ?_)
      | (with_reducible refine LeO.bind ?_ (fun _ => ?_))
      | exact ih0 _ _ _ _ _ _ _ _ _ _ _ _ _ _ _ _ _
      | exact ih1 _ _ _ _ _ _ _ _ _ _ _ _ _ _ _ _ _ _
      | exact ih2 _ _ _ _ _ _ _ _ _ _ _ _ _ _ _ _ _ _
      | exact ih3 _ _ _ _ _ _ _ _ _ _ _ _ _ _ _ _ _ _ _
      | exact burinbook_SameRanges.mono _ _ _
      | exact LeO.none _
      | refine LeO.ite ?_ ?_
      | refine LeO.bind ?_ (fun _ => ?_)
    · intro y0 y1 y2 y3 y4 y5 y6 y7 y8 y9 y10 y11 y12 y13 y14 y15 y16 y17 y18
      unfold burinbook_SameNode.j2
      repeat' first
      | (with_reducible exact ih0 _ _ _ _ _ _ _ _ _ _ _ _ _ _ _ _ _)
      | (with_reducible exact ih1 _ _ _ _ _ _ _ _ _ _ _ _ _ _ _ _ _ _)
      | (with_reducible exact ih2 _ _ _ _ _ _ _ _ _ _ _ _ _ _ _ _ _ _)
      | (with_reducible exact ih3 _ _ _ _ _ _ _ _ _ _ _ _ _ _ _ _ _ _ _)
      | (with_reducible exact burinbook_SameRanges.mono _ _ _)
      | (with_reducible exact LeO.refl _)
      | (with_reducible exact LeO.none _)
      | (with_reducible refine LeO.ite ?_ ?_)
      | (with_reducible refine LeO.bind ?_ (fun _ => ?_))
      | exact ih0 _ _ _ _ _ _ _ _ _ _ _ _ _ _ _ _ _
      | exact ih1 _ _ _ _ _ _ _ _ _ _ _ _ _ _ _ _ _ _
      | exact ih2 _ _ _ _ _ _ _ _ _ _ _ _ _ _ _ _ _ _
      | exact ih3 _ _ _ _ _ _ _ _ _ _ _ _ _ _ _ _ _ _ _
      | exact burinbook_SameRanges.mono _ _ _
      | exact LeO.none _
      | refine LeO.ite ?_ ?_
      | refine LeO.bind ?_ (fun _ => ?_)
theorem burinbook_SameNode.mono : ∀ a0 a1 a2 a3 a4 a5 a6 a7 a8 a9 a10 a11 a12 a13 a14 a15 a16 k, LeO (burinbook_SameNode.f k a0 a1 a2 a3 a4 a5 a6 a7 a8 a9 a10 a11 a12 a13 a14 a15 a16) (burinbook_SameNode.f (k + 1) a0 a1 a2 a3 a4 a5 a6 a7 a8 a9 a10 a11 a12 a13 a14 a15 a16) := by
  intro a0 a1 a2 a3 a4 a5 a6 a7 a8 a9 a10 a11 a12 a13 a14 a15 a16 k
  obtain ⟨ih0, ih1, ih2, ih3⟩ := burinbook_SameNode.mono_l k
  exact ih0 a0 a1 a2 a3 a4 a5 a6 a7 a8 a9 a10 a11 a12 a13 a14 a15 a16
def burinbook_SameNode.T6 : Bool × List (List Nat × List Nat) := (true, [([], []), ([0], [0]), ([], []), ([1, 2], [1, 2]), ([3], [3]), ([], []), ([5], [5]), ([], []), ([6, 7], [6, 7]), ([8], [8]), ([], []), ([10], [10]), ([4, 9, 11], [4, 9, 11]), ([12], [12])])
def burinbook_SameNode.B6 : List Nat := [0, 1, 0, 7, 15, 0, 32, 0, 224, 480, 0, 1024, 4095, 8191]
theorem burinbook_SameNode.tab6 : rtab .any (opsOf Try.f50 6) = burinbook_SameNode.T6 := by kernel_rfl
theorem burinbook_SameNode.bits6 : waitsOk burinbook_SameNode.T6.2 burinbook_SameNode.B6 = true := by kernel_rfl
set_option maxHeartbeats 8000000 in
set_option maxRecDepth 100000 in
theorem burinbook_SameNode.calls (k : Nat) : ∀ (a0_0 : Int) (A0_1 : Option Addr) (c0_1 : Nat) (l0_1 : List (S103)) (a0_2 : Int) (a0_3 : ByteArray) (a0_4 : Int) (a0_5 : Int) (a0_6 : Bool) (A0_7 : Option Addr) (c0_7 : Nat) (l0_7 : List (S25)) (a1_0 : Int) (A1_1 : Option Addr) (c1_1 : Nat) (l1_1 : List (S103)) (a1_2 : Int) (a1_3 : ByteArray) (a1_4 : Int) (a1_5 : Int) (a1_6 : Bool) (A1_7 : Option Addr) (c1_7 : Nat) (l1_7 : List (S25)) (a2 : Int) (r : Bool) (w : World) (hr0_1 : Kd.C k103 w A0_1 l0_1.length l0_1) (hc0_1 : l0_1.length ≤ c0_1) (hr0_7 : Kd.C k25 w A0_7 l0_7.length l0_7) (hc0_7 : l0_7.length ≤ c0_7) (hr1_1 : Kd.C k103 w A1_1 l1_1.length l1_1) (hc1_1 : l1_1.length ≤ c1_1) (hr1_7 : Kd.C k25 w A1_7 l1_7.length l1_7) (hc1_7 : l1_7.length ≤ c1_7) (h : burinbook_SameNode.f k a0_0 l0_1 a0_2 a0_3 a0_4 a0_5 a0_6 l0_7 a1_0 l1_1 a1_2 a1_3 a1_4 a1_5 a1_6 l1_7 a2 = some r),
    Calls Try.prog 50 #[.agg #[.int .i64 a0_0, .slice A0_1 l0_1.length c0_1, .int .i64 a0_2, .string a0_3, .int .i64 a0_4, .int .i64 a0_5, .bool a0_6, .slice A0_7 l0_7.length c0_7], .agg #[.int .i64 a1_0, .slice A1_1 l1_1.length c1_1, .int .i64 a1_2, .string a1_3, .int .i64 a1_4, .int .i64 a1_5, .bool a1_6, .slice A1_7 l1_7.length c1_7], .int .i64 a2] w fun e w' => e = .returned (.bool r) ∧ Below w.heap.size w w' := by
  induction k using Nat.strongRecOn with
  | _ k ih =>
  intro a0_0 A0_1 c0_1 l0_1 a0_2 a0_3 a0_4 a0_5 a0_6 A0_7 c0_7 l0_7 a1_0 A1_1 c1_1 l1_1 a1_2 a1_3 a1_4 a1_5 a1_6 A1_7 c1_7 l1_7 a2 r w hr0_1 hc0_1 hr0_7 hc0_7 hr1_1 hc1_1 hr1_7 hc1_7 h
  cases k with
  | zero => exact absurd h (by simp [burinbook_SameNode.f])
  | succ k =>
  simp only [burinbook_SameNode.f] at h
  have hu25 := Try.underlying25
  have HR0_1 := Aside0.mk hr0_1
  have HC0_1 := Aside0.mk hc0_1
  clear hr0_1 hc0_1
  have HR0_7 := Aside0.mk hr0_7
  have HC0_7 := Aside0.mk hc0_7
  clear hr0_7 hc0_7
  have HR1_1 := Aside0.mk hr1_1
  have HC1_1 := Aside0.mk hc1_1
  clear hr1_1 hc1_1
  have HR1_7 := Aside0.mk hr1_7
  have HC1_7 := Aside0.mk hc1_7
  clear hr1_7 hc1_7
  have HB := Aside0.mk (Below.refl w.heap.size w)
  have H : (if a2 = 0 then (burinbook_SameNode.j0 k a2 true a0_0 l0_1 a0_2 a0_3 a0_4 a0_5 a0_6 l0_7 a1_0 l1_1 a1_2 a1_3 a1_4 a1_5 a1_6 l1_7) else (if a0_0 = a1_0 then (if a0_2 = a1_2 then (if a0_3.toList = a1_3.toList then (if a0_4 = a1_4 then (if a0_5 = a1_5 then (if (a0_6 != a1_6) = true then (burinbook_SameNode.j0 k a2 true a0_0 l0_1 a0_2 a0_3 a0_4 a0_5 a0_6 l0_7 a1_0 l1_1 a1_2 a1_3 a1_4 a1_5 a1_6 l1_7) else ((burinbook_SameRanges.f k l0_1 l1_1).bind fun t209 => (if t209 = true then (burinbook_SameNode.j0 k a2 ((l0_7.length : Int) != (l1_7.length : Int)) a0_0 l0_1 a0_2 a0_3 a0_4 a0_5 a0_6 l0_7 a1_0 l1_1 a1_2 a1_3 a1_4 a1_5 a1_6 l1_7) else (burinbook_SameNode.j0 k a2 true a0_0 l0_1 a0_2 a0_3 a0_4 a0_5 a0_6 l0_7 a1_0 l1_1 a1_2 a1_3 a1_4 a1_5 a1_6 l1_7)))) else (burinbook_SameNode.j0 k a2 true a0_0 l0_1 a0_2 a0_3 a0_4 a0_5 a0_6 l0_7 a1_0 l1_1 a1_2 a1_3 a1_4 a1_5 a1_6 l1_7)) else (burinbook_SameNode.j0 k a2 true a0_0 l0_1 a0_2 a0_3 a0_4 a0_5 a0_6 l0_7 a1_0 l1_1 a1_2 a1_3 a1_4 a1_5 a1_6 l1_7)) else (burinbook_SameNode.j0 k a2 true a0_0 l0_1 a0_2 a0_3 a0_4 a0_5 a0_6 l0_7 a1_0 l1_1 a1_2 a1_3 a1_4 a1_5 a1_6 l1_7)) else (burinbook_SameNode.j0 k a2 true a0_0 l0_1 a0_2 a0_3 a0_4 a0_5 a0_6 l0_7 a1_0 l1_1 a1_2 a1_3 a1_4 a1_5 a1_6 l1_7)) else (burinbook_SameNode.j0 k a2 true a0_0 l0_1 a0_2 a0_3 a0_4 a0_5 a0_6 l0_7 a1_0 l1_1 a1_2 a1_3 a1_4 a1_5 a1_6 l1_7))) = some r := h
  clear h
  have HC4 := Aside0.mk H
  clear H
  go_enter Try.func50, Try.ntmps50
  go_upto_region 1 with (first | ((with_reducible refine gate_dst (N := 3) rfl ?_); (try (refine gate_guard (by rfl) ?_; dsimp only)); refine box_event ?hg (N := 3) ?hd (cs := #[.int .i64 a0_0, .slice A0_1 l0_1.length c0_1, .int .i64 a0_2, .string a0_3, .int .i64 a0_4, .int .i64 a0_5, .bool a0_6, .slice A0_7 l0_7.length c0_7]) (t := 25) ?hr ?_; (case hd => rfl); (case hg => rfl); (case hr => first | (go_simp; done) | (go_simp; rfl)); intro gb207 hg w5 hbox hb; have n0_ := Aside0.mk (below_step (by repeat (first | (with_reducible first | exact HB.out | apply below_alloc | apply pw_below_drewN | apply below_drew1) | exact HB.out)) hb); have n1_ := Aside0.mk (hbox); have n2_ := Aside0.mk ((by rw [hg]; exact (below_size (by repeat (first | (with_reducible first | exact HB.out | apply below_alloc | apply pw_below_drewN | apply below_drew1) | exact HB.out))) : w.heap.size ≤ gb207)); have n3_ := Aside0.mk ((by rw [hg]; exact (below_size (by repeat (first | (with_reducible first | exact HB.out | apply below_alloc | apply pw_below_drewN | apply below_drew1) | exact HB.out))) : w.heap.size ≤ gb207)); clear HB; have HB := n0_; have BK207 := n1_; have GW207 := n2_; have GE207 := n3_; clear n0_ n1_ n2_ n3_; clear hb hbox hg) | ((with_reducible refine gate_dst (N := 4) rfl ?_); (try (refine gate_guard (by rfl) ?_; dsimp only)); refine box_event ?hg (N := 4) ?hd (cs := #[.int .i64 a1_0, .slice A1_1 l1_1.length c1_1, .int .i64 a1_2, .string a1_3, .int .i64 a1_4, .int .i64 a1_5, .bool a1_6, .slice A1_7 l1_7.length c1_7]) (t := 25) ?hr ?_; (case hd => rfl); (case hg => rfl); (case hr => first | (go_simp; done) | (go_simp; rfl)); intro gb208 hg w6 hbox hb; have n0_ := Aside0.mk (blk_below (g := gb207) (o := .cells #[.int .i64 a0_0, .slice A0_1 l0_1.length c0_1, .int .i64 a0_2, .string a0_3, .int .i64 a0_4, .int .i64 a0_5, .bool a0_6, .slice A0_7 l0_7.length c0_7] 25 (0, 0)) (by (with_reducible repeat (first | refine blk_drewN ?_ _ | refine blk_drew ?_ | refine blk_alloc ?_ _)); exact BK207.out) hb); have n1_ := Aside0.mk (below_step (by repeat (first | (with_reducible first | exact HB.out | apply below_alloc | apply pw_below_drewN | apply below_drew1 | refine below_set ?_ GE207.out) | exact HB.out)) hb); have n2_ := Aside0.mk (hbox); have n3_ := Aside0.mk ((by rw [hg]; exact (below_size (by repeat (first | (with_reducible first | exact HB.out | apply below_alloc | apply pw_below_drewN | apply below_drew1 | refine below_set ?_ GE207.out) | exact HB.out))) : w.heap.size ≤ gb208)); have n4_ := Aside0.mk ((by rw [hg]; exact (below_size (by repeat (first | (with_reducible first | exact HB.out | apply below_alloc | apply pw_below_drewN | apply below_drew1 | refine below_set ?_ GE207.out) | exact HB.out))) : w.heap.size ≤ gb208)); have n5_ := Aside0.mk ((by rw [hg]; exact Nat.ne_of_lt (blk_lt (g := gb207) (o := .cells #[.int .i64 a0_0, .slice A0_1 l0_1.length c0_1, .int .i64 a0_2, .string a0_3, .int .i64 a0_4, .int .i64 a0_5, .bool a0_6, .slice A0_7 l0_7.length c0_7] 25 (0, 0)) (by (with_reducible repeat (first | refine blk_drewN ?_ _ | refine blk_drew ?_ | refine blk_alloc ?_ _)); exact BK207.out)) : gb207 ≠ gb208)); have n6_ := Aside0.mk ((by rw [hg]; exact Nat.ne_of_gt (blk_lt (g := gb207) (o := .cells #[.int .i64 a0_0, .slice A0_1 l0_1.length c0_1, .int .i64 a0_2, .string a0_3, .int .i64 a0_4, .int .i64 a0_5, .bool a0_6, .slice A0_7 l0_7.length c0_7] 25 (0, 0)) (by (with_reducible repeat (first | refine blk_drewN ?_ _ | refine blk_drew ?_ | refine blk_alloc ?_ _)); exact BK207.out)) : gb208 ≠ gb207)); clear BK207; clear HB; have BK207 := n0_; have HB := n1_; have BK208 := n2_; have GW208 := n3_; have GE208 := n4_; have NB207_208 := n5_; have NB208_207 := n6_; clear n0_ n1_ n2_ n3_ n4_ n5_ n6_; clear hb hbox hg))
  (try simp only [Act.put, List.setIfInBounds_toArray, List.set_cons_zero, List.set_cons_succ])
  go_cut [68] (fun v68 wc => ∃ (kq : Nat) (x68_3 : Bool), v68 = .bool x68_3 ∧ Aside0 (burinbook_SameNode.j0 kq a2 x68_3 a0_0 l0_1 a0_2 a0_3 a0_4 a0_5 a0_6 l0_7 a1_0 l1_1 a1_2 a1_3 a1_4 a1_5 a1_6 l1_7 = some r) ∧ Aside0 (kq ≤ k) ∧ Aside0 (wc.heap[gb207]? = some (.cells #[.int .i64 a0_0, (.slice A0_1 l0_1.length c0_1), .int .i64 a0_2, .string a0_3, .int .i64 a0_4, .int .i64 a0_5, .bool a0_6, (.slice A0_7 l0_7.length c0_7)] 25 (0, 0))) ∧ Aside0 (wc.heap[gb208]? = some (.cells #[.int .i64 a1_0, (.slice A1_1 l1_1.length c1_1), .int .i64 a1_2, .string a1_3, .int .i64 a1_4, .int .i64 a1_5, .bool a1_6, (.slice A1_7 l1_7.length c1_7)] 25 (0, 0))) ∧ Aside0 (Below w.heap.size w wc))
  case first =>
    have H := HC4.out
    clear HC4
    by_cases c7 : a2 = 0
    · rw [if_pos c7] at H
      have c7b0 : (a2 == 0) = true := beq_iff_eq.mpr c7
      have c7b1 : (a2 != 0) = false := bne_eq_false_iff_eq.mpr c7
      clear c7
      (first | rw [c7b0] | (simp only [i64_w, i32_w]; rw [c7b0]) | skip)
      have H' := Aside0.mk H
      clear H
      go_wp2
      go_meet
      case rel => exact ⟨_, (true), (by first | rfl | (simp; done) | (simp [*]; done)), H', ⟨by first | omega | exact Nat.le_refl _⟩, ⟨by (with_reducible repeat (first | refine blk_drewN ?_ _ | refine blk_drew ?_ | refine blk_alloc ?_ _)); exact BK207.out⟩, ⟨by (with_reducible repeat (first | refine blk_drewN ?_ _ | refine blk_drew ?_ | refine blk_alloc ?_ _)); exact BK208.out⟩, ⟨by repeat (first | (with_reducible first | exact HB.out | apply below_alloc | apply pw_below_drewN | apply below_drew1 | refine below_set ?_ GE207.out | refine below_set ?_ GE208.out) | exact HB.out)⟩⟩
    · rw [if_neg c7] at H
      have c7b0 : (a2 == 0) = false := beq_eq_false_iff_ne.mpr c7
      have c7b1 : (a2 != 0) = true := bne_iff_ne.mpr c7
      (first | rw [c7b0] | (simp only [i64_w, i32_w]; rw [c7b0]) | skip)
      by_cases c8 : a0_0 = a1_0
      · rw [if_pos c8] at H
        have c8b0 : (a0_0 == a1_0) = true := beq_iff_eq.mpr c8
        have c8b1 : (a0_0 != a1_0) = false := bne_eq_false_iff_eq.mpr c8
        clear c8
        by_cases c9 : a0_2 = a1_2
        · rw [if_pos c9] at H
          have c9b0 : (a0_2 == a1_2) = true := beq_iff_eq.mpr c9
          have c9b1 : (a0_2 != a1_2) = false := bne_eq_false_iff_eq.mpr c9
          clear c9
          by_cases c10 : a0_3.toList = a1_3.toList
          · rw [if_pos c10] at H
            have c10b0 : (a0_3.toList == a1_3.toList) = true := beq_iff_eq.mpr c10
            have c10b1 : (a0_3.toList != a1_3.toList) = false := bne_eq_false_iff_eq.mpr c10
            clear c10
            by_cases c11 : a0_4 = a1_4
            · rw [if_pos c11] at H
              have c11b0 : (a0_4 == a1_4) = true := beq_iff_eq.mpr c11
              have c11b1 : (a0_4 != a1_4) = false := bne_eq_false_iff_eq.mpr c11
              clear c11
              by_cases c12 : a0_5 = a1_5
              · rw [if_pos c12] at H
                have c12b0 : (a0_5 == a1_5) = true := beq_iff_eq.mpr c12
                have c12b1 : (a0_5 != a1_5) = false := bne_eq_false_iff_eq.mpr c12
                clear c12
                by_cases c13 : (a0_6 != a1_6) = true
                · rw [if_pos c13] at H
                  have c13b0 : (a0_6 != a1_6) = true := c13
                  (try (have c13b1 : decide (a0_6 = a1_6) = false := by simpa using c13))
                  (try (have c13b2 : (a0_6 == a1_6) = false := by simpa using c13))
                  (try (have c13b3 : ¬ (a0_6 = a1_6) := by simpa using c13))
                  clear c13
                  have H' := Aside0.mk H
                  clear H
                  have hnb14 := NB207_208.out
                  have hnc14 := NB208_207.out
                  have hcz15_0 : w6.cell? ⟨gb207, 0, none⟩ = some (.int .i64 a0_0) := (blk_cell BK207.out 0).trans rfl
                  have hcz15_1 : w6.cell? ⟨gb207, 1, none⟩ = some (.slice A0_1 l0_1.length c0_1) := (blk_cell BK207.out 1).trans rfl
                  have hcz15_2 : w6.cell? ⟨gb207, 2, none⟩ = some (.int .i64 a0_2) := (blk_cell BK207.out 2).trans rfl
                  have hcz15_3 : w6.cell? ⟨gb207, 3, none⟩ = some (.string a0_3) := (blk_cell BK207.out 3).trans rfl
                  have hcz15_4 : w6.cell? ⟨gb207, 4, none⟩ = some (.int .i64 a0_4) := (blk_cell BK207.out 4).trans rfl
                  have hcz15_5 : w6.cell? ⟨gb207, 5, none⟩ = some (.int .i64 a0_5) := (blk_cell BK207.out 5).trans rfl
                  have hcz15_6 : w6.cell? ⟨gb207, 6, none⟩ = some (.bool a0_6) := (blk_cell BK207.out 6).trans rfl
                  have hcz15_7 : w6.cell? ⟨gb207, 7, none⟩ = some (.slice A0_7 l0_7.length c0_7) := (blk_cell BK207.out 7).trans rfl
                  have hfz15_0 := blk_frozen BK207.out 0
                  have hfz15_1 := blk_frozen BK207.out 1
                  have hfz15_2 := blk_frozen BK207.out 2
                  have hfz15_3 := blk_frozen BK207.out 3
                  have hfz15_4 := blk_frozen BK207.out 4
                  have hfz15_5 := blk_frozen BK207.out 5
                  have hfz15_6 := blk_frozen BK207.out 6
                  have hfz15_7 := blk_frozen BK207.out 7
                  have hcz16_0 : w6.cell? ⟨gb208, 0, none⟩ = some (.int .i64 a1_0) := (blk_cell BK208.out 0).trans rfl
                  have hcz16_1 : w6.cell? ⟨gb208, 1, none⟩ = some (.slice A1_1 l1_1.length c1_1) := (blk_cell BK208.out 1).trans rfl
                  have hcz16_2 : w6.cell? ⟨gb208, 2, none⟩ = some (.int .i64 a1_2) := (blk_cell BK208.out 2).trans rfl
                  have hcz16_3 : w6.cell? ⟨gb208, 3, none⟩ = some (.string a1_3) := (blk_cell BK208.out 3).trans rfl
                  have hcz16_4 : w6.cell? ⟨gb208, 4, none⟩ = some (.int .i64 a1_4) := (blk_cell BK208.out 4).trans rfl
                  have hcz16_5 : w6.cell? ⟨gb208, 5, none⟩ = some (.int .i64 a1_5) := (blk_cell BK208.out 5).trans rfl
                  have hcz16_6 : w6.cell? ⟨gb208, 6, none⟩ = some (.bool a1_6) := (blk_cell BK208.out 6).trans rfl
                  have hcz16_7 : w6.cell? ⟨gb208, 7, none⟩ = some (.slice A1_7 l1_7.length c1_7) := (blk_cell BK208.out 7).trans rfl
                  have hfz16_0 := blk_frozen BK208.out 0
                  have hfz16_1 := blk_frozen BK208.out 1
                  have hfz16_2 := blk_frozen BK208.out 2
                  have hfz16_3 := blk_frozen BK208.out 3
                  have hfz16_4 := blk_frozen BK208.out 4
                  have hfz16_5 := blk_frozen BK208.out 5
                  have hfz16_6 := blk_frozen BK208.out 6
                  have hfz16_7 := blk_frozen BK208.out 7
                  go_wp2
                  go_meet
                  case rel => exact ⟨_, (true), (by first | rfl | (simp; done) | (simp [*]; done)), H', ⟨by first | omega | exact Nat.le_refl _⟩, ⟨by (with_reducible repeat (first | refine blk_drewN ?_ _ | refine blk_drew ?_ | refine blk_alloc ?_ _)); exact BK207.out⟩, ⟨by (with_reducible repeat (first | refine blk_drewN ?_ _ | refine blk_drew ?_ | refine blk_alloc ?_ _)); exact BK208.out⟩, ⟨by repeat (first | (with_reducible first | exact HB.out | apply below_alloc | apply pw_below_drewN | apply below_drew1 | refine below_set ?_ GE207.out | refine below_set ?_ GE208.out) | exact HB.out)⟩⟩
                · rw [if_neg c13] at H
                  have c13b0 : (a0_6 != a1_6) = false := by simpa using c13
                  (try (have c13b1 : decide (a0_6 = a1_6) = true := by simpa using c13))
                  (try (have c13b2 : (a0_6 == a1_6) = true := by simpa using c13))
                  clear c13
                  replace H := Option.bind_eq_some_iff.mp H
                  obtain ⟨t209, A170, H⟩ := H
                  replace H : (if t209 = true then (burinbook_SameNode.j0 k a2 ((l0_7.length : Int) != (l1_7.length : Int)) a0_0 l0_1 a0_2 a0_3 a0_4 a0_5 a0_6 l0_7 a1_0 l1_1 a1_2 a1_3 a1_4 a1_5 a1_6 l1_7) else (burinbook_SameNode.j0 k a2 true a0_0 l0_1 a0_2 a0_3 a0_4 a0_5 a0_6 l0_7 a1_0 l1_1 a1_2 a1_3 a1_4 a1_5 a1_6 l1_7)) = some r := H
                  have A17 := Aside0.mk A170
                  clear A170
                  by_cases c18 : t209 = true
                  · subst c18
                    have H1 : (burinbook_SameNode.j0 k a2 ((l0_7.length : Int) != (l1_7.length : Int)) a0_0 l0_1 a0_2 a0_3 a0_4 a0_5 a0_6 l0_7 a1_0 l1_1 a1_2 a1_3 a1_4 a1_5 a1_6 l1_7) = some r := by rw [if_pos rfl] at H; exact H
                    clear H
                    have H := H1
                    clear H1
                    have H' := Aside0.mk H
                    clear H
                    have hnb19 := NB207_208.out
                    have hnc19 := NB208_207.out
                    have hcz20_0 : w6.cell? ⟨gb207, 0, none⟩ = some (.int .i64 a0_0) := (blk_cell BK207.out 0).trans rfl
                    have hcz20_1 : w6.cell? ⟨gb207, 1, none⟩ = some (.slice A0_1 l0_1.length c0_1) := (blk_cell BK207.out 1).trans rfl
                    have hcz20_2 : w6.cell? ⟨gb207, 2, none⟩ = some (.int .i64 a0_2) := (blk_cell BK207.out 2).trans rfl
                    have hcz20_3 : w6.cell? ⟨gb207, 3, none⟩ = some (.string a0_3) := (blk_cell BK207.out 3).trans rfl
                    have hcz20_4 : w6.cell? ⟨gb207, 4, none⟩ = some (.int .i64 a0_4) := (blk_cell BK207.out 4).trans rfl
                    have hcz20_5 : w6.cell? ⟨gb207, 5, none⟩ = some (.int .i64 a0_5) := (blk_cell BK207.out 5).trans rfl
                    have hcz20_6 : w6.cell? ⟨gb207, 6, none⟩ = some (.bool a0_6) := (blk_cell BK207.out 6).trans rfl
                    have hcz20_7 : w6.cell? ⟨gb207, 7, none⟩ = some (.slice A0_7 l0_7.length c0_7) := (blk_cell BK207.out 7).trans rfl
                    have hfz20_0 := blk_frozen BK207.out 0
                    have hfz20_1 := blk_frozen BK207.out 1
                    have hfz20_2 := blk_frozen BK207.out 2
                    have hfz20_3 := blk_frozen BK207.out 3
                    have hfz20_4 := blk_frozen BK207.out 4
                    have hfz20_5 := blk_frozen BK207.out 5
                    have hfz20_6 := blk_frozen BK207.out 6
                    have hfz20_7 := blk_frozen BK207.out 7
                    have hcz21_0 : w6.cell? ⟨gb208, 0, none⟩ = some (.int .i64 a1_0) := (blk_cell BK208.out 0).trans rfl
                    have hcz21_1 : w6.cell? ⟨gb208, 1, none⟩ = some (.slice A1_1 l1_1.length c1_1) := (blk_cell BK208.out 1).trans rfl
                    have hcz21_2 : w6.cell? ⟨gb208, 2, none⟩ = some (.int .i64 a1_2) := (blk_cell BK208.out 2).trans rfl
                    have hcz21_3 : w6.cell? ⟨gb208, 3, none⟩ = some (.string a1_3) := (blk_cell BK208.out 3).trans rfl
                    have hcz21_4 : w6.cell? ⟨gb208, 4, none⟩ = some (.int .i64 a1_4) := (blk_cell BK208.out 4).trans rfl
                    have hcz21_5 : w6.cell? ⟨gb208, 5, none⟩ = some (.int .i64 a1_5) := (blk_cell BK208.out 5).trans rfl
                    have hcz21_6 : w6.cell? ⟨gb208, 6, none⟩ = some (.bool a1_6) := (blk_cell BK208.out 6).trans rfl
                    have hcz21_7 : w6.cell? ⟨gb208, 7, none⟩ = some (.slice A1_7 l1_7.length c1_7) := (blk_cell BK208.out 7).trans rfl
                    have hfz21_0 := blk_frozen BK208.out 0
                    have hfz21_1 := blk_frozen BK208.out 1
                    have hfz21_2 := blk_frozen BK208.out 2
                    have hfz21_3 := blk_frozen BK208.out 3
                    have hfz21_4 := blk_frozen BK208.out 4
                    have hfz21_5 := blk_frozen BK208.out 5
                    have hfz21_6 := blk_frozen BK208.out 6
                    have hfz21_7 := blk_frozen BK208.out 7
                    go_wp2_with (first | (go_at_call 85; (with_reducible refine (burinbook_SameRanges.calls k _ _ l0_1 _ _ l1_1 true _ ?side1 ?side2 ?side3 ?side4 A17.out).mono ?_); (case side1 => repeat (first | exact (Kd.C_below HR0_1.out HB.out) | (with_reducible refine Kd.C_alloc ?_ _) | (with_reducible refine Kd.C_drewN ?_ _) | (with_reducible refine Kd.C_drew ?_))); (case side2 => exact HC0_1.out); (case side3 => repeat (first | exact (Kd.C_below HR1_1.out HB.out) | (with_reducible refine Kd.C_alloc ?_ _) | (with_reducible refine Kd.C_drewN ?_ _) | (with_reducible refine Kd.C_drew ?_))); (case side4 => exact HC1_1.out); rintro e w' ⟨rfl, ⟨nd, rfl⟩⟩))
                    go_meet
                    case rel => exact ⟨_, (((l0_7.length : Int) != (l1_7.length : Int))), (by first | rfl | (simp; done) | (simp [*]; done)), H', ⟨by first | omega | exact Nat.le_refl _⟩, ⟨by (with_reducible repeat (first | refine blk_drewN ?_ _ | refine blk_drew ?_ | refine blk_alloc ?_ _)); exact BK207.out⟩, ⟨by (with_reducible repeat (first | refine blk_drewN ?_ _ | refine blk_drew ?_ | refine blk_alloc ?_ _)); exact BK208.out⟩, ⟨by repeat (first | (with_reducible first | exact HB.out | apply below_alloc | apply pw_below_drewN | apply below_drew1 | refine below_set ?_ GE207.out | refine below_set ?_ GE208.out) | exact HB.out)⟩⟩
                  · replace c18 := Bool.eq_false_iff.mpr c18
                    subst c18
                    have H1 : (burinbook_SameNode.j0 k a2 true a0_0 l0_1 a0_2 a0_3 a0_4 a0_5 a0_6 l0_7 a1_0 l1_1 a1_2 a1_3 a1_4 a1_5 a1_6 l1_7) = some r := by rw [if_neg (show ¬ (false = true) by decide)] at H; exact H
                    clear H
                    have H := H1
                    clear H1
                    have H' := Aside0.mk H
                    clear H
                    have hnb22 := NB207_208.out
                    have hnc22 := NB208_207.out
                    have hcz23_0 : w6.cell? ⟨gb207, 0, none⟩ = some (.int .i64 a0_0) := (blk_cell BK207.out 0).trans rfl
                    have hcz23_1 : w6.cell? ⟨gb207, 1, none⟩ = some (.slice A0_1 l0_1.length c0_1) := (blk_cell BK207.out 1).trans rfl
                    have hcz23_2 : w6.cell? ⟨gb207, 2, none⟩ = some (.int .i64 a0_2) := (blk_cell BK207.out 2).trans rfl
                    have hcz23_3 : w6.cell? ⟨gb207, 3, none⟩ = some (.string a0_3) := (blk_cell BK207.out 3).trans rfl
                    have hcz23_4 : w6.cell? ⟨gb207, 4, none⟩ = some (.int .i64 a0_4) := (blk_cell BK207.out 4).trans rfl
                    have hcz23_5 : w6.cell? ⟨gb207, 5, none⟩ = some (.int .i64 a0_5) := (blk_cell BK207.out 5).trans rfl
                    have hcz23_6 : w6.cell? ⟨gb207, 6, none⟩ = some (.bool a0_6) := (blk_cell BK207.out 6).trans rfl
                    have hcz23_7 : w6.cell? ⟨gb207, 7, none⟩ = some (.slice A0_7 l0_7.length c0_7) := (blk_cell BK207.out 7).trans rfl
                    have hfz23_0 := blk_frozen BK207.out 0
                    have hfz23_1 := blk_frozen BK207.out 1
                    have hfz23_2 := blk_frozen BK207.out 2
                    have hfz23_3 := blk_frozen BK207.out 3
                    have hfz23_4 := blk_frozen BK207.out 4
                    have hfz23_5 := blk_frozen BK207.out 5
                    have hfz23_6 := blk_frozen BK207.out 6
                    have hfz23_7 := blk_frozen BK207.out 7
                    have hcz24_0 : w6.cell? ⟨gb208, 0, none⟩ = some (.int .i64 a1_0) := (blk_cell BK208.out 0).trans rfl
                    have hcz24_1 : w6.cell? ⟨gb208, 1, none⟩ = some (.slice A1_1 l1_1.length c1_1) := (blk_cell BK208.out 1).trans rfl
                    have hcz24_2 : w6.cell? ⟨gb208, 2, none⟩ = some (.int .i64 a1_2) := (blk_cell BK208.out 2).trans rfl
                    have hcz24_3 : w6.cell? ⟨gb208, 3, none⟩ = some (.string a1_3) := (blk_cell BK208.out 3).trans rfl
                    have hcz24_4 : w6.cell? ⟨gb208, 4, none⟩ = some (.int .i64 a1_4) := (blk_cell BK208.out 4).trans rfl
                    have hcz24_5 : w6.cell? ⟨gb208, 5, none⟩ = some (.int .i64 a1_5) := (blk_cell BK208.out 5).trans rfl
                    have hcz24_6 : w6.cell? ⟨gb208, 6, none⟩ = some (.bool a1_6) := (blk_cell BK208.out 6).trans rfl
                    have hcz24_7 : w6.cell? ⟨gb208, 7, none⟩ = some (.slice A1_7 l1_7.length c1_7) := (blk_cell BK208.out 7).trans rfl
                    have hfz24_0 := blk_frozen BK208.out 0
                    have hfz24_1 := blk_frozen BK208.out 1
                    have hfz24_2 := blk_frozen BK208.out 2
                    have hfz24_3 := blk_frozen BK208.out 3
                    have hfz24_4 := blk_frozen BK208.out 4
                    have hfz24_5 := blk_frozen BK208.out 5
                    have hfz24_6 := blk_frozen BK208.out 6
                    have hfz24_7 := blk_frozen BK208.out 7
                    go_wp2_with (first | (go_at_call 85; (with_reducible refine (burinbook_SameRanges.calls k _ _ l0_1 _ _ l1_1 false _ ?side1 ?side2 ?side3 ?side4 A17.out).mono ?_); (case side1 => repeat (first | exact (Kd.C_below HR0_1.out HB.out) | (with_reducible refine Kd.C_alloc ?_ _) | (with_reducible refine Kd.C_drewN ?_ _) | (with_reducible refine Kd.C_drew ?_))); (case side2 => exact HC0_1.out); (case side3 => repeat (first | exact (Kd.C_below HR1_1.out HB.out) | (with_reducible refine Kd.C_alloc ?_ _) | (with_reducible refine Kd.C_drewN ?_ _) | (with_reducible refine Kd.C_drew ?_))); (case side4 => exact HC1_1.out); rintro e w' ⟨rfl, ⟨nd, rfl⟩⟩))
                    go_meet
                    case rel => exact ⟨_, (true), (by first | rfl | (simp; done) | (simp [*]; done)), H', ⟨by first | omega | exact Nat.le_refl _⟩, ⟨by (with_reducible repeat (first | refine blk_drewN ?_ _ | refine blk_drew ?_ | refine blk_alloc ?_ _)); exact BK207.out⟩, ⟨by (with_reducible repeat (first | refine blk_drewN ?_ _ | refine blk_drew ?_ | refine blk_alloc ?_ _)); exact BK208.out⟩, ⟨by repeat (first | (with_reducible first | exact HB.out | apply below_alloc | apply pw_below_drewN | apply below_drew1 | refine below_set ?_ GE207.out | refine below_set ?_ GE208.out) | exact HB.out)⟩⟩
              · rw [if_neg c12] at H
                have c12b0 : (a0_5 == a1_5) = false := beq_eq_false_iff_ne.mpr c12
                have c12b1 : (a0_5 != a1_5) = true := bne_iff_ne.mpr c12
                have H' := Aside0.mk H
                clear H
                have hnb25 := NB207_208.out
                have hnc25 := NB208_207.out
                have hcz26_0 : w6.cell? ⟨gb207, 0, none⟩ = some (.int .i64 a0_0) := (blk_cell BK207.out 0).trans rfl
                have hcz26_1 : w6.cell? ⟨gb207, 1, none⟩ = some (.slice A0_1 l0_1.length c0_1) := (blk_cell BK207.out 1).trans rfl
                have hcz26_2 : w6.cell? ⟨gb207, 2, none⟩ = some (.int .i64 a0_2) := (blk_cell BK207.out 2).trans rfl
                have hcz26_3 : w6.cell? ⟨gb207, 3, none⟩ = some (.string a0_3) := (blk_cell BK207.out 3).trans rfl
                have hcz26_4 : w6.cell? ⟨gb207, 4, none⟩ = some (.int .i64 a0_4) := (blk_cell BK207.out 4).trans rfl
                have hcz26_5 : w6.cell? ⟨gb207, 5, none⟩ = some (.int .i64 a0_5) := (blk_cell BK207.out 5).trans rfl
                have hcz26_6 : w6.cell? ⟨gb207, 6, none⟩ = some (.bool a0_6) := (blk_cell BK207.out 6).trans rfl
                have hcz26_7 : w6.cell? ⟨gb207, 7, none⟩ = some (.slice A0_7 l0_7.length c0_7) := (blk_cell BK207.out 7).trans rfl
                have hfz26_0 := blk_frozen BK207.out 0
                have hfz26_1 := blk_frozen BK207.out 1
                have hfz26_2 := blk_frozen BK207.out 2
                have hfz26_3 := blk_frozen BK207.out 3
                have hfz26_4 := blk_frozen BK207.out 4
                have hfz26_5 := blk_frozen BK207.out 5
                have hfz26_6 := blk_frozen BK207.out 6
                have hfz26_7 := blk_frozen BK207.out 7
                have hcz27_0 : w6.cell? ⟨gb208, 0, none⟩ = some (.int .i64 a1_0) := (blk_cell BK208.out 0).trans rfl
                have hcz27_1 : w6.cell? ⟨gb208, 1, none⟩ = some (.slice A1_1 l1_1.length c1_1) := (blk_cell BK208.out 1).trans rfl
                have hcz27_2 : w6.cell? ⟨gb208, 2, none⟩ = some (.int .i64 a1_2) := (blk_cell BK208.out 2).trans rfl
                have hcz27_3 : w6.cell? ⟨gb208, 3, none⟩ = some (.string a1_3) := (blk_cell BK208.out 3).trans rfl
                have hcz27_4 : w6.cell? ⟨gb208, 4, none⟩ = some (.int .i64 a1_4) := (blk_cell BK208.out 4).trans rfl
                have hcz27_5 : w6.cell? ⟨gb208, 5, none⟩ = some (.int .i64 a1_5) := (blk_cell BK208.out 5).trans rfl
                have hcz27_6 : w6.cell? ⟨gb208, 6, none⟩ = some (.bool a1_6) := (blk_cell BK208.out 6).trans rfl
                have hcz27_7 : w6.cell? ⟨gb208, 7, none⟩ = some (.slice A1_7 l1_7.length c1_7) := (blk_cell BK208.out 7).trans rfl
                have hfz27_0 := blk_frozen BK208.out 0
                have hfz27_1 := blk_frozen BK208.out 1
                have hfz27_2 := blk_frozen BK208.out 2
                have hfz27_3 := blk_frozen BK208.out 3
                have hfz27_4 := blk_frozen BK208.out 4
                have hfz27_5 := blk_frozen BK208.out 5
                have hfz27_6 := blk_frozen BK208.out 6
                have hfz27_7 := blk_frozen BK208.out 7
                go_wp2
                go_meet
                case rel => exact ⟨_, (true), (by first | rfl | (simp; done) | (simp [*]; done)), H', ⟨by first | omega | exact Nat.le_refl _⟩, ⟨by (with_reducible repeat (first | refine blk_drewN ?_ _ | refine blk_drew ?_ | refine blk_alloc ?_ _)); exact BK207.out⟩, ⟨by (with_reducible repeat (first | refine blk_drewN ?_ _ | refine blk_drew ?_ | refine blk_alloc ?_ _)); exact BK208.out⟩, ⟨by repeat (first | (with_reducible first | exact HB.out | apply below_alloc | apply pw_below_drewN | apply below_drew1 | refine below_set ?_ GE207.out | refine below_set ?_ GE208.out) | exact HB.out)⟩⟩
            · rw [if_neg c11] at H
              have c11b0 : (a0_4 == a1_4) = false := beq_eq_false_iff_ne.mpr c11
              have c11b1 : (a0_4 != a1_4) = true := bne_iff_ne.mpr c11
              have H' := Aside0.mk H
              clear H
              have hnb28 := NB207_208.out
              have hnc28 := NB208_207.out
              have hcz29_0 : w6.cell? ⟨gb207, 0, none⟩ = some (.int .i64 a0_0) := (blk_cell BK207.out 0).trans rfl
              have hcz29_1 : w6.cell? ⟨gb207, 1, none⟩ = some (.slice A0_1 l0_1.length c0_1) := (blk_cell BK207.out 1).trans rfl
              have hcz29_2 : w6.cell? ⟨gb207, 2, none⟩ = some (.int .i64 a0_2) := (blk_cell BK207.out 2).trans rfl
              have hcz29_3 : w6.cell? ⟨gb207, 3, none⟩ = some (.string a0_3) := (blk_cell BK207.out 3).trans rfl
              have hcz29_4 : w6.cell? ⟨gb207, 4, none⟩ = some (.int .i64 a0_4) := (blk_cell BK207.out 4).trans rfl
              have hcz29_5 : w6.cell? ⟨gb207, 5, none⟩ = some (.int .i64 a0_5) := (blk_cell BK207.out 5).trans rfl
              have hcz29_6 : w6.cell? ⟨gb207, 6, none⟩ = some (.bool a0_6) := (blk_cell BK207.out 6).trans rfl
              have hcz29_7 : w6.cell? ⟨gb207, 7, none⟩ = some (.slice A0_7 l0_7.length c0_7) := (blk_cell BK207.out 7).trans rfl
              have hfz29_0 := blk_frozen BK207.out 0
              have hfz29_1 := blk_frozen BK207.out 1
              have hfz29_2 := blk_frozen BK207.out 2
              have hfz29_3 := blk_frozen BK207.out 3
              have hfz29_4 := blk_frozen BK207.out 4
              have hfz29_5 := blk_frozen BK207.out 5
              have hfz29_6 := blk_frozen BK207.out 6
              have hfz29_7 := blk_frozen BK207.out 7
              have hcz30_0 : w6.cell? ⟨gb208, 0, none⟩ = some (.int .i64 a1_0) := (blk_cell BK208.out 0).trans rfl
              have hcz30_1 : w6.cell? ⟨gb208, 1, none⟩ = some (.slice A1_1 l1_1.length c1_1) := (blk_cell BK208.out 1).trans rfl
              have hcz30_2 : w6.cell? ⟨gb208, 2, none⟩ = some (.int .i64 a1_2) := (blk_cell BK208.out 2).trans rfl
              have hcz30_3 : w6.cell? ⟨gb208, 3, none⟩ = some (.string a1_3) := (blk_cell BK208.out 3).trans rfl
              have hcz30_4 : w6.cell? ⟨gb208, 4, none⟩ = some (.int .i64 a1_4) := (blk_cell BK208.out 4).trans rfl
              have hcz30_5 : w6.cell? ⟨gb208, 5, none⟩ = some (.int .i64 a1_5) := (blk_cell BK208.out 5).trans rfl
              have hcz30_6 : w6.cell? ⟨gb208, 6, none⟩ = some (.bool a1_6) := (blk_cell BK208.out 6).trans rfl
              have hcz30_7 : w6.cell? ⟨gb208, 7, none⟩ = some (.slice A1_7 l1_7.length c1_7) := (blk_cell BK208.out 7).trans rfl
              have hfz30_0 := blk_frozen BK208.out 0
              have hfz30_1 := blk_frozen BK208.out 1
              have hfz30_2 := blk_frozen BK208.out 2
              have hfz30_3 := blk_frozen BK208.out 3
              have hfz30_4 := blk_frozen BK208.out 4
              have hfz30_5 := blk_frozen BK208.out 5
              have hfz30_6 := blk_frozen BK208.out 6
              have hfz30_7 := blk_frozen BK208.out 7
              go_wp2
              go_meet
              case rel => exact ⟨_, (true), (by first | rfl | (simp; done) | (simp [*]; done)), H', ⟨by first | omega | exact Nat.le_refl _⟩, ⟨by (with_reducible repeat (first | refine blk_drewN ?_ _ | refine blk_drew ?_ | refine blk_alloc ?_ _)); exact BK207.out⟩, ⟨by (with_reducible repeat (first | refine blk_drewN ?_ _ | refine blk_drew ?_ | refine blk_alloc ?_ _)); exact BK208.out⟩, ⟨by repeat (first | (with_reducible first | exact HB.out | apply below_alloc | apply pw_below_drewN | apply below_drew1 | refine below_set ?_ GE207.out | refine below_set ?_ GE208.out) | exact HB.out)⟩⟩
          · rw [if_neg c10] at H
            have c10b0 : (a0_3.toList == a1_3.toList) = false := beq_eq_false_iff_ne.mpr c10
            have c10b1 : (a0_3.toList != a1_3.toList) = true := bne_iff_ne.mpr c10
            have H' := Aside0.mk H
            clear H
            have hnb31 := NB207_208.out
            have hnc31 := NB208_207.out
            have hcz32_0 : w6.cell? ⟨gb207, 0, none⟩ = some (.int .i64 a0_0) := (blk_cell BK207.out 0).trans rfl
            have hcz32_1 : w6.cell? ⟨gb207, 1, none⟩ = some (.slice A0_1 l0_1.length c0_1) := (blk_cell BK207.out 1).trans rfl
            have hcz32_2 : w6.cell? ⟨gb207, 2, none⟩ = some (.int .i64 a0_2) := (blk_cell BK207.out 2).trans rfl
            have hcz32_3 : w6.cell? ⟨gb207, 3, none⟩ = some (.string a0_3) := (blk_cell BK207.out 3).trans rfl
            have hcz32_4 : w6.cell? ⟨gb207, 4, none⟩ = some (.int .i64 a0_4) := (blk_cell BK207.out 4).trans rfl
            have hcz32_5 : w6.cell? ⟨gb207, 5, none⟩ = some (.int .i64 a0_5) := (blk_cell BK207.out 5).trans rfl
            have hcz32_6 : w6.cell? ⟨gb207, 6, none⟩ = some (.bool a0_6) := (blk_cell BK207.out 6).trans rfl
            have hcz32_7 : w6.cell? ⟨gb207, 7, none⟩ = some (.slice A0_7 l0_7.length c0_7) := (blk_cell BK207.out 7).trans rfl
            have hfz32_0 := blk_frozen BK207.out 0
            have hfz32_1 := blk_frozen BK207.out 1
            have hfz32_2 := blk_frozen BK207.out 2
            have hfz32_3 := blk_frozen BK207.out 3
            have hfz32_4 := blk_frozen BK207.out 4
            have hfz32_5 := blk_frozen BK207.out 5
            have hfz32_6 := blk_frozen BK207.out 6
            have hfz32_7 := blk_frozen BK207.out 7
            have hcz33_0 : w6.cell? ⟨gb208, 0, none⟩ = some (.int .i64 a1_0) := (blk_cell BK208.out 0).trans rfl
            have hcz33_1 : w6.cell? ⟨gb208, 1, none⟩ = some (.slice A1_1 l1_1.length c1_1) := (blk_cell BK208.out 1).trans rfl
            have hcz33_2 : w6.cell? ⟨gb208, 2, none⟩ = some (.int .i64 a1_2) := (blk_cell BK208.out 2).trans rfl
            have hcz33_3 : w6.cell? ⟨gb208, 3, none⟩ = some (.string a1_3) := (blk_cell BK208.out 3).trans rfl
            have hcz33_4 : w6.cell? ⟨gb208, 4, none⟩ = some (.int .i64 a1_4) := (blk_cell BK208.out 4).trans rfl
            have hcz33_5 : w6.cell? ⟨gb208, 5, none⟩ = some (.int .i64 a1_5) := (blk_cell BK208.out 5).trans rfl
            have hcz33_6 : w6.cell? ⟨gb208, 6, none⟩ = some (.bool a1_6) := (blk_cell BK208.out 6).trans rfl
            have hcz33_7 : w6.cell? ⟨gb208, 7, none⟩ = some (.slice A1_7 l1_7.length c1_7) := (blk_cell BK208.out 7).trans rfl
            have hfz33_0 := blk_frozen BK208.out 0
            have hfz33_1 := blk_frozen BK208.out 1
            have hfz33_2 := blk_frozen BK208.out 2
            have hfz33_3 := blk_frozen BK208.out 3
            have hfz33_4 := blk_frozen BK208.out 4
            have hfz33_5 := blk_frozen BK208.out 5
            have hfz33_6 := blk_frozen BK208.out 6
            have hfz33_7 := blk_frozen BK208.out 7
            go_wp2
            go_meet
            case rel => exact ⟨_, (true), (by first | rfl | (simp; done) | (simp [*]; done)), H', ⟨by first | omega | exact Nat.le_refl _⟩, ⟨by (with_reducible repeat (first | refine blk_drewN ?_ _ | refine blk_drew ?_ | refine blk_alloc ?_ _)); exact BK207.out⟩, ⟨by (with_reducible repeat (first | refine blk_drewN ?_ _ | refine blk_drew ?_ | refine blk_alloc ?_ _)); exact BK208.out⟩, ⟨by repeat (first | (with_reducible first | exact HB.out | apply below_alloc | apply pw_below_drewN | apply below_drew1 | refine below_set ?_ GE207.out | refine below_set ?_ GE208.out) | exact HB.out)⟩⟩
        · rw [if_neg c9] at H
          have c9b0 : (a0_2 == a1_2) = false := beq_eq_false_iff_ne.mpr c9
          have c9b1 : (a0_2 != a1_2) = true := bne_iff_ne.mpr c9
          have H' := Aside0.mk H
          clear H
          have hnb34 := NB207_208.out
          have hnc34 := NB208_207.out
          have hcz35_0 : w6.cell? ⟨gb207, 0, none⟩ = some (.int .i64 a0_0) := (blk_cell BK207.out 0).trans rfl
          have hcz35_1 : w6.cell? ⟨gb207, 1, none⟩ = some (.slice A0_1 l0_1.length c0_1) := (blk_cell BK207.out 1).trans rfl
          have hcz35_2 : w6.cell? ⟨gb207, 2, none⟩ = some (.int .i64 a0_2) := (blk_cell BK207.out 2).trans rfl
          have hcz35_3 : w6.cell? ⟨gb207, 3, none⟩ = some (.string a0_3) := (blk_cell BK207.out 3).trans rfl
          have hcz35_4 : w6.cell? ⟨gb207, 4, none⟩ = some (.int .i64 a0_4) := (blk_cell BK207.out 4).trans rfl
          have hcz35_5 : w6.cell? ⟨gb207, 5, none⟩ = some (.int .i64 a0_5) := (blk_cell BK207.out 5).trans rfl
          have hcz35_6 : w6.cell? ⟨gb207, 6, none⟩ = some (.bool a0_6) := (blk_cell BK207.out 6).trans rfl
          have hcz35_7 : w6.cell? ⟨gb207, 7, none⟩ = some (.slice A0_7 l0_7.length c0_7) := (blk_cell BK207.out 7).trans rfl
          have hfz35_0 := blk_frozen BK207.out 0
          have hfz35_1 := blk_frozen BK207.out 1
          have hfz35_2 := blk_frozen BK207.out 2
          have hfz35_3 := blk_frozen BK207.out 3
          have hfz35_4 := blk_frozen BK207.out 4
          have hfz35_5 := blk_frozen BK207.out 5
          have hfz35_6 := blk_frozen BK207.out 6
          have hfz35_7 := blk_frozen BK207.out 7
          have hcz36_0 : w6.cell? ⟨gb208, 0, none⟩ = some (.int .i64 a1_0) := (blk_cell BK208.out 0).trans rfl
          have hcz36_1 : w6.cell? ⟨gb208, 1, none⟩ = some (.slice A1_1 l1_1.length c1_1) := (blk_cell BK208.out 1).trans rfl
          have hcz36_2 : w6.cell? ⟨gb208, 2, none⟩ = some (.int .i64 a1_2) := (blk_cell BK208.out 2).trans rfl
          have hcz36_3 : w6.cell? ⟨gb208, 3, none⟩ = some (.string a1_3) := (blk_cell BK208.out 3).trans rfl
          have hcz36_4 : w6.cell? ⟨gb208, 4, none⟩ = some (.int .i64 a1_4) := (blk_cell BK208.out 4).trans rfl
          have hcz36_5 : w6.cell? ⟨gb208, 5, none⟩ = some (.int .i64 a1_5) := (blk_cell BK208.out 5).trans rfl
          have hcz36_6 : w6.cell? ⟨gb208, 6, none⟩ = some (.bool a1_6) := (blk_cell BK208.out 6).trans rfl
          have hcz36_7 : w6.cell? ⟨gb208, 7, none⟩ = some (.slice A1_7 l1_7.length c1_7) := (blk_cell BK208.out 7).trans rfl
          have hfz36_0 := blk_frozen BK208.out 0
          have hfz36_1 := blk_frozen BK208.out 1
          have hfz36_2 := blk_frozen BK208.out 2
          have hfz36_3 := blk_frozen BK208.out 3
          have hfz36_4 := blk_frozen BK208.out 4
          have hfz36_5 := blk_frozen BK208.out 5
          have hfz36_6 := blk_frozen BK208.out 6
          have hfz36_7 := blk_frozen BK208.out 7
          go_wp2
          go_meet
          case rel => exact ⟨_, (true), (by first | rfl | (simp; done) | (simp [*]; done)), H', ⟨by first | omega | exact Nat.le_refl _⟩, ⟨by (with_reducible repeat (first | refine blk_drewN ?_ _ | refine blk_drew ?_ | refine blk_alloc ?_ _)); exact BK207.out⟩, ⟨by (with_reducible repeat (first | refine blk_drewN ?_ _ | refine blk_drew ?_ | refine blk_alloc ?_ _)); exact BK208.out⟩, ⟨by repeat (first | (with_reducible first | exact HB.out | apply below_alloc | apply pw_below_drewN | apply below_drew1 | refine below_set ?_ GE207.out | refine below_set ?_ GE208.out) | exact HB.out)⟩⟩
      · rw [if_neg c8] at H
        have c8b0 : (a0_0 == a1_0) = false := beq_eq_false_iff_ne.mpr c8
        have c8b1 : (a0_0 != a1_0) = true := bne_iff_ne.mpr c8
        have H' := Aside0.mk H
        clear H
        have hnb37 := NB207_208.out
        have hnc37 := NB208_207.out
        have hcz38_0 : w6.cell? ⟨gb207, 0, none⟩ = some (.int .i64 a0_0) := (blk_cell BK207.out 0).trans rfl
        have hcz38_1 : w6.cell? ⟨gb207, 1, none⟩ = some (.slice A0_1 l0_1.length c0_1) := (blk_cell BK207.out 1).trans rfl
        have hcz38_2 : w6.cell? ⟨gb207, 2, none⟩ = some (.int .i64 a0_2) := (blk_cell BK207.out 2).trans rfl
        have hcz38_3 : w6.cell? ⟨gb207, 3, none⟩ = some (.string a0_3) := (blk_cell BK207.out 3).trans rfl
        have hcz38_4 : w6.cell? ⟨gb207, 4, none⟩ = some (.int .i64 a0_4) := (blk_cell BK207.out 4).trans rfl
        have hcz38_5 : w6.cell? ⟨gb207, 5, none⟩ = some (.int .i64 a0_5) := (blk_cell BK207.out 5).trans rfl
        have hcz38_6 : w6.cell? ⟨gb207, 6, none⟩ = some (.bool a0_6) := (blk_cell BK207.out 6).trans rfl
        have hcz38_7 : w6.cell? ⟨gb207, 7, none⟩ = some (.slice A0_7 l0_7.length c0_7) := (blk_cell BK207.out 7).trans rfl
        have hfz38_0 := blk_frozen BK207.out 0
        have hfz38_1 := blk_frozen BK207.out 1
        have hfz38_2 := blk_frozen BK207.out 2
        have hfz38_3 := blk_frozen BK207.out 3
        have hfz38_4 := blk_frozen BK207.out 4
        have hfz38_5 := blk_frozen BK207.out 5
        have hfz38_6 := blk_frozen BK207.out 6
        have hfz38_7 := blk_frozen BK207.out 7
        have hcz39_0 : w6.cell? ⟨gb208, 0, none⟩ = some (.int .i64 a1_0) := (blk_cell BK208.out 0).trans rfl
        have hcz39_1 : w6.cell? ⟨gb208, 1, none⟩ = some (.slice A1_1 l1_1.length c1_1) := (blk_cell BK208.out 1).trans rfl
        have hcz39_2 : w6.cell? ⟨gb208, 2, none⟩ = some (.int .i64 a1_2) := (blk_cell BK208.out 2).trans rfl
        have hcz39_3 : w6.cell? ⟨gb208, 3, none⟩ = some (.string a1_3) := (blk_cell BK208.out 3).trans rfl
        have hcz39_4 : w6.cell? ⟨gb208, 4, none⟩ = some (.int .i64 a1_4) := (blk_cell BK208.out 4).trans rfl
        have hcz39_5 : w6.cell? ⟨gb208, 5, none⟩ = some (.int .i64 a1_5) := (blk_cell BK208.out 5).trans rfl
        have hcz39_6 : w6.cell? ⟨gb208, 6, none⟩ = some (.bool a1_6) := (blk_cell BK208.out 6).trans rfl
        have hcz39_7 : w6.cell? ⟨gb208, 7, none⟩ = some (.slice A1_7 l1_7.length c1_7) := (blk_cell BK208.out 7).trans rfl
        have hfz39_0 := blk_frozen BK208.out 0
        have hfz39_1 := blk_frozen BK208.out 1
        have hfz39_2 := blk_frozen BK208.out 2
        have hfz39_3 := blk_frozen BK208.out 3
        have hfz39_4 := blk_frozen BK208.out 4
        have hfz39_5 := blk_frozen BK208.out 5
        have hfz39_6 := blk_frozen BK208.out 6
        have hfz39_7 := blk_frozen BK208.out 7
        go_wp2
        go_meet
        case rel => exact ⟨_, (true), (by first | rfl | (simp; done) | (simp [*]; done)), H', ⟨by first | omega | exact Nat.le_refl _⟩, ⟨by (with_reducible repeat (first | refine blk_drewN ?_ _ | refine blk_drew ?_ | refine blk_alloc ?_ _)); exact BK207.out⟩, ⟨by (with_reducible repeat (first | refine blk_drewN ?_ _ | refine blk_drew ?_ | refine blk_alloc ?_ _)); exact BK208.out⟩, ⟨by repeat (first | (with_reducible first | exact HB.out | apply below_alloc | apply pw_below_drewN | apply below_drew1 | refine below_set ?_ GE207.out | refine below_set ?_ GE208.out) | exact HB.out)⟩⟩
  case rest =>
    clear HC4
    try clear c1
    try clear c2
    try clear p2
    try clear c3
    try clear c5
    try clear c7
    try clear c7b0
    try clear c7b1
    try clear c8
    try clear c8b0
    try clear c8b1
    try clear c9
    try clear c9b0
    try clear c9b1
    try clear c10
    try clear c10b0
    try clear c10b1
    try clear c11
    try clear c11b0
    try clear c11b1
    try clear c12
    try clear c12b0
    try clear c12b1
    try clear c13
    try clear c13b0
    try clear c13b1
    try clear c13b2
    try clear c14
    try clear c18
    try clear c19
    try clear c22
    try clear c25
    try clear c28
    try clear c31
    try clear c34
    try clear c37
    try clear hcz15_0
    try clear hcz15_1
    try clear hcz15_2
    try clear hcz15_3
    try clear hcz15_4
    try clear hcz15_5
    try clear hcz15_6
    try clear hcz15_7
    try clear hcz16_0
    try clear hcz16_1
    try clear hcz16_2
    try clear hcz16_3
    try clear hcz16_4
    try clear hcz16_5
    try clear hcz16_6
    try clear hcz16_7
    try clear hcz20_0
    try clear hcz20_1
    try clear hcz20_2
    try clear hcz20_3
    try clear hcz20_4
    try clear hcz20_5
    try clear hcz20_6
    try clear hcz20_7
    try clear hcz21_0
    try clear hcz21_1
    try clear hcz21_2
    try clear hcz21_3
    try clear hcz21_4
    try clear hcz21_5
    try clear hcz21_6
    try clear hcz21_7
    try clear hcz23_0
    try clear hcz23_1
    try clear hcz23_2
    try clear hcz23_3
    try clear hcz23_4
    try clear hcz23_5
    try clear hcz23_6
    try clear hcz23_7
    try clear hcz24_0
    try clear hcz24_1
    try clear hcz24_2
    try clear hcz24_3
    try clear hcz24_4
    try clear hcz24_5
    try clear hcz24_6
    try clear hcz24_7
    try clear hcz26_0
    try clear hcz26_1
    try clear hcz26_2
    try clear hcz26_3
    try clear hcz26_4
    try clear hcz26_5
    try clear hcz26_6
    try clear hcz26_7
    try clear hcz27_0
    try clear hcz27_1
    try clear hcz27_2
    try clear hcz27_3
    try clear hcz27_4
    try clear hcz27_5
    try clear hcz27_6
    try clear hcz27_7
    try clear hcz29_0
    try clear hcz29_1
    try clear hcz29_2
    try clear hcz29_3
    try clear hcz29_4
    try clear hcz29_5
    try clear hcz29_6
    try clear hcz29_7
    try clear hcz30_0
    try clear hcz30_1
    try clear hcz30_2
    try clear hcz30_3
    try clear hcz30_4
    try clear hcz30_5
    try clear hcz30_6
    try clear hcz30_7
    try clear hcz32_0
    try clear hcz32_1
    try clear hcz32_2
    try clear hcz32_3
    try clear hcz32_4
    try clear hcz32_5
    try clear hcz32_6
    try clear hcz32_7
    try clear hcz33_0
    try clear hcz33_1
    try clear hcz33_2
    try clear hcz33_3
    try clear hcz33_4
    try clear hcz33_5
    try clear hcz33_6
    try clear hcz33_7
    try clear hcz35_0
    try clear hcz35_1
    try clear hcz35_2
    try clear hcz35_3
    try clear hcz35_4
    try clear hcz35_5
    try clear hcz35_6
    try clear hcz35_7
    try clear hcz36_0
    try clear hcz36_1
    try clear hcz36_2
    try clear hcz36_3
    try clear hcz36_4
    try clear hcz36_5
    try clear hcz36_6
    try clear hcz36_7
    try clear hcz38_0
    try clear hcz38_1
    try clear hcz38_2
    try clear hcz38_3
    try clear hcz38_4
    try clear hcz38_5
    try clear hcz38_6
    try clear hcz38_7
    try clear hcz39_0
    try clear hcz39_1
    try clear hcz39_2
    try clear hcz39_3
    try clear hcz39_4
    try clear hcz39_5
    try clear hcz39_6
    try clear hcz39_7
    try clear hfz15_0
    try clear hfz15_1
    try clear hfz15_2
    try clear hfz15_3
    try clear hfz15_4
    try clear hfz15_5
    try clear hfz15_6
    try clear hfz15_7
    try clear hfz16_0
    try clear hfz16_1
    try clear hfz16_2
    try clear hfz16_3
    try clear hfz16_4
    try clear hfz16_5
    try clear hfz16_6
    try clear hfz16_7
    try clear hfz20_0
    try clear hfz20_1
    try clear hfz20_2
    try clear hfz20_3
    try clear hfz20_4
    try clear hfz20_5
    try clear hfz20_6
    try clear hfz20_7
    try clear hfz21_0
    try clear hfz21_1
    try clear hfz21_2
    try clear hfz21_3
    try clear hfz21_4
    try clear hfz21_5
    try clear hfz21_6
    try clear hfz21_7
    try clear hfz23_0
    try clear hfz23_1
    try clear hfz23_2
    try clear hfz23_3
    try clear hfz23_4
    try clear hfz23_5
    try clear hfz23_6
    try clear hfz23_7
    try clear hfz24_0
    try clear hfz24_1
    try clear hfz24_2
    try clear hfz24_3
    try clear hfz24_4
    try clear hfz24_5
    try clear hfz24_6
    try clear hfz24_7
    try clear hfz26_0
    try clear hfz26_1
    try clear hfz26_2
    try clear hfz26_3
    try clear hfz26_4
    try clear hfz26_5
    try clear hfz26_6
    try clear hfz26_7
    try clear hfz27_0
    try clear hfz27_1
    try clear hfz27_2
    try clear hfz27_3
    try clear hfz27_4
    try clear hfz27_5
    try clear hfz27_6
    try clear hfz27_7
    try clear hfz29_0
    try clear hfz29_1
    try clear hfz29_2
    try clear hfz29_3
    try clear hfz29_4
    try clear hfz29_5
    try clear hfz29_6
    try clear hfz29_7
    try clear hfz30_0
    try clear hfz30_1
    try clear hfz30_2
    try clear hfz30_3
    try clear hfz30_4
    try clear hfz30_5
    try clear hfz30_6
    try clear hfz30_7
    try clear hfz32_0
    try clear hfz32_1
    try clear hfz32_2
    try clear hfz32_3
    try clear hfz32_4
    try clear hfz32_5
    try clear hfz32_6
    try clear hfz32_7
    try clear hfz33_0
    try clear hfz33_1
    try clear hfz33_2
    try clear hfz33_3
    try clear hfz33_4
    try clear hfz33_5
    try clear hfz33_6
    try clear hfz33_7
    try clear hfz35_0
    try clear hfz35_1
    try clear hfz35_2
    try clear hfz35_3
    try clear hfz35_4
    try clear hfz35_5
    try clear hfz35_6
    try clear hfz35_7
    try clear hfz36_0
    try clear hfz36_1
    try clear hfz36_2
    try clear hfz36_3
    try clear hfz36_4
    try clear hfz36_5
    try clear hfz36_6
    try clear hfz36_7
    try clear hfz38_0
    try clear hfz38_1
    try clear hfz38_2
    try clear hfz38_3
    try clear hfz38_4
    try clear hfz38_5
    try clear hfz38_6
    try clear hfz38_7
    try clear hfz39_0
    try clear hfz39_1
    try clear hfz39_2
    try clear hfz39_3
    try clear hfz39_4
    try clear hfz39_5
    try clear hfz39_6
    try clear hfz39_7
    obtain ⟨kq, x68_3, rfl, HA, HJ3, BK207, BK208, HB⟩ := hcut
    cases kq with
    | zero => exact absurd HA.out (by simp [burinbook_SameNode.j0])
    | succ kj3 =>
      have H := HA.out
      clear HA
      simp only [burinbook_SameNode.j0] at H
      by_cases c40 : x68_3 = true
      · subst c40
        have H1 : (some false) = some r := by rw [if_pos rfl] at H; exact H
        clear H
        have H := H1
        clear H1
        obtain rfl := Option.some.inj H
        go_wp2
        go_ret
        exact ⟨by first | rfl | (simp [errW_none, errW_some] <;> rfl) | (simp [*, errW_none, errW_some] <;> rfl), by repeat (first | (with_reducible first | exact HB.out | apply below_alloc | apply pw_below_drewN | apply below_drew1 | refine below_set ?_ GE207.out | refine below_set ?_ GE208.out) | exact HB.out)⟩
      · replace c40 := Bool.eq_false_iff.mpr c40
        subst c40
        have H1 : (burinbook_SameNode.l0 kj3 a2 0 a0_0 l0_1 a0_2 a0_3 a0_4 a0_5 a0_6 l0_7 a1_0 l1_1 a1_2 a1_3 a1_4 a1_5 a1_6 l1_7) = some r := by rw [if_neg (show ¬ (false = true) by decide)] at H; exact H
        clear H
        have H := H1
        clear H1
        have H' := Aside0.mk H
        clear H
        go_wp2
        go_loopg [7] kj3 (fun kq v7 w' => ∃ (x7_2 : Int), v7 = .int .i64 x7_2 ∧ Aside0 (burinbook_SameNode.l0 kq a2 x7_2 a0_0 l0_1 a0_2 a0_3 a0_4 a0_5 a0_6 l0_7 a1_0 l1_1 a1_2 a1_3 a1_4 a1_5 a1_6 l1_7 = some r) ∧ Aside0 (kq ≤ kj3) ∧ Aside0 (w'.heap[gb207]? = some (.cells #[.int .i64 a0_0, (.slice A0_1 l0_1.length c0_1), .int .i64 a0_2, .string a0_3, .int .i64 a0_4, .int .i64 a0_5, .bool a0_6, (.slice A0_7 l0_7.length c0_7)] 25 (0, 0))) ∧ Aside0 (w'.heap[gb208]? = some (.cells #[.int .i64 a1_0, (.slice A1_1 l1_1.length c1_1), .int .i64 a1_2, .string a1_3, .int .i64 a1_4, .int .i64 a1_5, .bool a1_6, (.slice A1_7 l1_7.length c1_7)] 25 (0, 0))) ∧ Aside0 (Below w.heap.size w w'))
        case atStart => exact ⟨(0), (by first | rfl | (simp; done) | (simp [*]; done)), H', ⟨Nat.le_refl _⟩, ⟨by (with_reducible repeat (first | refine blk_drewN ?_ _ | refine blk_drew ?_ | refine blk_alloc ?_ _)); exact BK207.out⟩, ⟨by (with_reducible repeat (first | refine blk_drewN ?_ _ | refine blk_drew ?_ | refine blk_alloc ?_ _)); exact BK208.out⟩, ⟨by repeat (first | (with_reducible first | exact HB.out | apply below_alloc | apply pw_below_drewN | apply below_drew1 | refine below_set ?_ GE207.out | refine below_set ?_ GE208.out) | exact HB.out)⟩⟩
        case round =>
          clear H'
          try clear c1
          try clear c2
          try clear p2
          try clear c3
          try clear c4
          try clear c5
          try clear c7
          try clear c7b0
          try clear c7b1
          try clear c8
          try clear c8b0
          try clear c8b1
          try clear c9
          try clear c9b0
          try clear c9b1
          try clear c10
          try clear c10b0
          try clear c10b1
          try clear c11
          try clear c11b0
          try clear c11b1
          try clear c12
          try clear c12b0
          try clear c12b1
          try clear c13
          try clear c13b0
          try clear c13b1
          try clear c13b2
          try clear c14
          try clear c18
          try clear c19
          try clear c22
          try clear c25
          try clear c28
          try clear c31
          try clear c34
          try clear c37
          try clear c40
          try clear hcz15_0
          try clear hcz15_1
          try clear hcz15_2
          try clear hcz15_3
          try clear hcz15_4
          try clear hcz15_5
          try clear hcz15_6
          try clear hcz15_7
          try clear hcz16_0
          try clear hcz16_1
          try clear hcz16_2
          try clear hcz16_3
          try clear hcz16_4
          try clear hcz16_5
          try clear hcz16_6
          try clear hcz16_7
          try clear hcz20_0
          try clear hcz20_1
          try clear hcz20_2
          try clear hcz20_3
          try clear hcz20_4
          try clear hcz20_5
          try clear hcz20_6
          try clear hcz20_7
          try clear hcz21_0
          try clear hcz21_1
          try clear hcz21_2
          try clear hcz21_3
          try clear hcz21_4
          try clear hcz21_5
          try clear hcz21_6
          try clear hcz21_7
          try clear hcz23_0
          try clear hcz23_1
          try clear hcz23_2
          try clear hcz23_3
          try clear hcz23_4
          try clear hcz23_5
          try clear hcz23_6
          try clear hcz23_7
          try clear hcz24_0
          try clear hcz24_1
          try clear hcz24_2
          try clear hcz24_3
          try clear hcz24_4
          try clear hcz24_5
          try clear hcz24_6
          try clear hcz24_7
          try clear hcz26_0
          try clear hcz26_1
          try clear hcz26_2
          try clear hcz26_3
          try clear hcz26_4
          try clear hcz26_5
          try clear hcz26_6
          try clear hcz26_7
          try clear hcz27_0
          try clear hcz27_1
          try clear hcz27_2
          try clear hcz27_3
          try clear hcz27_4
          try clear hcz27_5
          try clear hcz27_6
          try clear hcz27_7
          try clear hcz29_0
          try clear hcz29_1
          try clear hcz29_2
          try clear hcz29_3
          try clear hcz29_4
          try clear hcz29_5
          try clear hcz29_6
          try clear hcz29_7
          try clear hcz30_0
          try clear hcz30_1
          try clear hcz30_2
          try clear hcz30_3
          try clear hcz30_4
          try clear hcz30_5
          try clear hcz30_6
          try clear hcz30_7
          try clear hcz32_0
          try clear hcz32_1
          try clear hcz32_2
          try clear hcz32_3
          try clear hcz32_4
          try clear hcz32_5
          try clear hcz32_6
          try clear hcz32_7
          try clear hcz33_0
          try clear hcz33_1
          try clear hcz33_2
          try clear hcz33_3
          try clear hcz33_4
          try clear hcz33_5
          try clear hcz33_6
          try clear hcz33_7
          try clear hcz35_0
          try clear hcz35_1
          try clear hcz35_2
          try clear hcz35_3
          try clear hcz35_4
          try clear hcz35_5
          try clear hcz35_6
          try clear hcz35_7
          try clear hcz36_0
          try clear hcz36_1
          try clear hcz36_2
          try clear hcz36_3
          try clear hcz36_4
          try clear hcz36_5
          try clear hcz36_6
          try clear hcz36_7
          try clear hcz38_0
          try clear hcz38_1
          try clear hcz38_2
          try clear hcz38_3
          try clear hcz38_4
          try clear hcz38_5
          try clear hcz38_6
          try clear hcz38_7
          try clear hcz39_0
          try clear hcz39_1
          try clear hcz39_2
          try clear hcz39_3
          try clear hcz39_4
          try clear hcz39_5
          try clear hcz39_6
          try clear hcz39_7
          try clear hfz15_0
          try clear hfz15_1
          try clear hfz15_2
          try clear hfz15_3
          try clear hfz15_4
          try clear hfz15_5
          try clear hfz15_6
          try clear hfz15_7
          try clear hfz16_0
          try clear hfz16_1
          try clear hfz16_2
          try clear hfz16_3
          try clear hfz16_4
          try clear hfz16_5
          try clear hfz16_6
          try clear hfz16_7
          try clear hfz20_0
          try clear hfz20_1
          try clear hfz20_2
          try clear hfz20_3
          try clear hfz20_4
          try clear hfz20_5
          try clear hfz20_6
          try clear hfz20_7
          try clear hfz21_0
          try clear hfz21_1
          try clear hfz21_2
          try clear hfz21_3
          try clear hfz21_4
          try clear hfz21_5
          try clear hfz21_6
          try clear hfz21_7
          try clear hfz23_0
          try clear hfz23_1
          try clear hfz23_2
          try clear hfz23_3
          try clear hfz23_4
          try clear hfz23_5
          try clear hfz23_6
          try clear hfz23_7
          try clear hfz24_0
          try clear hfz24_1
          try clear hfz24_2
          try clear hfz24_3
          try clear hfz24_4
          try clear hfz24_5
          try clear hfz24_6
          try clear hfz24_7
          try clear hfz26_0
          try clear hfz26_1
          try clear hfz26_2
          try clear hfz26_3
          try clear hfz26_4
          try clear hfz26_5
          try clear hfz26_6
          try clear hfz26_7
          try clear hfz27_0
          try clear hfz27_1
          try clear hfz27_2
          try clear hfz27_3
          try clear hfz27_4
          try clear hfz27_5
          try clear hfz27_6
          try clear hfz27_7
          try clear hfz29_0
          try clear hfz29_1
          try clear hfz29_2
          try clear hfz29_3
          try clear hfz29_4
          try clear hfz29_5
          try clear hfz29_6
          try clear hfz29_7
          try clear hfz30_0
          try clear hfz30_1
          try clear hfz30_2
          try clear hfz30_3
          try clear hfz30_4
          try clear hfz30_5
          try clear hfz30_6
          try clear hfz30_7
          try clear hfz32_0
          try clear hfz32_1
          try clear hfz32_2
          try clear hfz32_3
          try clear hfz32_4
          try clear hfz32_5
          try clear hfz32_6
          try clear hfz32_7
          try clear hfz33_0
          try clear hfz33_1
          try clear hfz33_2
          try clear hfz33_3
          try clear hfz33_4
          try clear hfz33_5
          try clear hfz33_6
          try clear hfz33_7
          try clear hfz35_0
          try clear hfz35_1
          try clear hfz35_2
          try clear hfz35_3
          try clear hfz35_4
          try clear hfz35_5
          try clear hfz35_6
          try clear hfz35_7
          try clear hfz36_0
          try clear hfz36_1
          try clear hfz36_2
          try clear hfz36_3
          try clear hfz36_4
          try clear hfz36_5
          try clear hfz36_6
          try clear hfz36_7
          try clear hfz38_0
          try clear hfz38_1
          try clear hfz38_2
          try clear hfz38_3
          try clear hfz38_4
          try clear hfz38_5
          try clear hfz38_6
          try clear hfz38_7
          try clear hfz39_0
          try clear hfz39_1
          try clear hfz39_2
          try clear hfz39_3
          try clear hfz39_4
          try clear hfz39_5
          try clear hfz39_6
          try clear hfz39_7
          try clear p2
          obtain ⟨x7_2, rfl, HA, HK2, BK207, BK208, HB⟩ := hrel
          cases gk with
          | zero => exact absurd HA.out (by simp [burinbook_SameNode.l0])
          | succ k2 =>
            have H := HA.out
            clear HA
            simp only [burinbook_SameNode.l0] at H
            have HC41 := Aside0.mk H
            clear H
            go_upto_region 4 with (fail)
            go_cut [80] (fun v80 wc => ∃ (kq : Nat) (x80_40 : Bool), v80 = .bool x80_40 ∧ Aside0 (burinbook_SameNode.j2 kq a2 x7_2 x80_40 a0_0 l0_1 a0_2 a0_3 a0_4 a0_5 a0_6 l0_7 a1_0 l1_1 a1_2 a1_3 a1_4 a1_5 a1_6 l1_7 = some r) ∧ Aside0 (kq ≤ k2) ∧ Aside0 (wc.heap[gb207]? = some (.cells #[.int .i64 a0_0, (.slice A0_1 l0_1.length c0_1), .int .i64 a0_2, .string a0_3, .int .i64 a0_4, .int .i64 a0_5, .bool a0_6, (.slice A0_7 l0_7.length c0_7)] 25 (0, 0))) ∧ Aside0 (wc.heap[gb208]? = some (.cells #[.int .i64 a1_0, (.slice A1_1 l1_1.length c1_1), .int .i64 a1_2, .string a1_3, .int .i64 a1_4, .int .i64 a1_5, .bool a1_6, (.slice A1_7 l1_7.length c1_7)] 25 (0, 0))) ∧ Aside0 (Below w.heap.size w wc))
            case first =>
              have H := HC41.out
              clear HC41
              by_cases c42 : x7_2 < (l0_7.length : Int)
              · rw [if_pos c42] at H
                have c42b0 : decide (x7_2 < (l0_7.length : Int)) = true := decide_eq_true c42
                clear c42
                (first | rw [c42b0] | (simp only [i64_w, i32_w]; rw [c42b0]) | skip)
                have H' := Aside0.mk H
                clear H
                have hnb43 := NB207_208.out
                have hnc43 := NB208_207.out
                have hcz44_0 : wr.cell? ⟨gb207, 0, none⟩ = some (.int .i64 a0_0) := (blk_cell BK207.out 0).trans rfl
                have hcz44_1 : wr.cell? ⟨gb207, 1, none⟩ = some (.slice A0_1 l0_1.length c0_1) := (blk_cell BK207.out 1).trans rfl
                have hcz44_2 : wr.cell? ⟨gb207, 2, none⟩ = some (.int .i64 a0_2) := (blk_cell BK207.out 2).trans rfl
                have hcz44_3 : wr.cell? ⟨gb207, 3, none⟩ = some (.string a0_3) := (blk_cell BK207.out 3).trans rfl
                have hcz44_4 : wr.cell? ⟨gb207, 4, none⟩ = some (.int .i64 a0_4) := (blk_cell BK207.out 4).trans rfl
                have hcz44_5 : wr.cell? ⟨gb207, 5, none⟩ = some (.int .i64 a0_5) := (blk_cell BK207.out 5).trans rfl
                have hcz44_6 : wr.cell? ⟨gb207, 6, none⟩ = some (.bool a0_6) := (blk_cell BK207.out 6).trans rfl
                have hcz44_7 : wr.cell? ⟨gb207, 7, none⟩ = some (.slice A0_7 l0_7.length c0_7) := (blk_cell BK207.out 7).trans rfl
                have hfz44_0 := blk_frozen BK207.out 0
                have hfz44_1 := blk_frozen BK207.out 1
                have hfz44_2 := blk_frozen BK207.out 2
                have hfz44_3 := blk_frozen BK207.out 3
                have hfz44_4 := blk_frozen BK207.out 4
                have hfz44_5 := blk_frozen BK207.out 5
                have hfz44_6 := blk_frozen BK207.out 6
                have hfz44_7 := blk_frozen BK207.out 7
                have hcz45_0 : wr.cell? ⟨gb208, 0, none⟩ = some (.int .i64 a1_0) := (blk_cell BK208.out 0).trans rfl
                have hcz45_1 : wr.cell? ⟨gb208, 1, none⟩ = some (.slice A1_1 l1_1.length c1_1) := (blk_cell BK208.out 1).trans rfl
                have hcz45_2 : wr.cell? ⟨gb208, 2, none⟩ = some (.int .i64 a1_2) := (blk_cell BK208.out 2).trans rfl
                have hcz45_3 : wr.cell? ⟨gb208, 3, none⟩ = some (.string a1_3) := (blk_cell BK208.out 3).trans rfl
                have hcz45_4 : wr.cell? ⟨gb208, 4, none⟩ = some (.int .i64 a1_4) := (blk_cell BK208.out 4).trans rfl
                have hcz45_5 : wr.cell? ⟨gb208, 5, none⟩ = some (.int .i64 a1_5) := (blk_cell BK208.out 5).trans rfl
                have hcz45_6 : wr.cell? ⟨gb208, 6, none⟩ = some (.bool a1_6) := (blk_cell BK208.out 6).trans rfl
                have hcz45_7 : wr.cell? ⟨gb208, 7, none⟩ = some (.slice A1_7 l1_7.length c1_7) := (blk_cell BK208.out 7).trans rfl
                have hfz45_0 := blk_frozen BK208.out 0
                have hfz45_1 := blk_frozen BK208.out 1
                have hfz45_2 := blk_frozen BK208.out 2
                have hfz45_3 := blk_frozen BK208.out 3
                have hfz45_4 := blk_frozen BK208.out 4
                have hfz45_5 := blk_frozen BK208.out 5
                have hfz45_6 := blk_frozen BK208.out 6
                have hfz45_7 := blk_frozen BK208.out 7
                go_wp2
                go_meet
                case rel => exact ⟨_, (decide (x7_2 < (l1_7.length : Int))), (by first | rfl | (simp; done) | (simp [*]; done)), H', ⟨by have := HJ3.out; have := HK2.out; first | omega | exact Nat.le_refl _⟩, ⟨by (with_reducible repeat (first | refine blk_drewN ?_ _ | refine blk_drew ?_ | refine blk_alloc ?_ _)); exact BK207.out⟩, ⟨by (with_reducible repeat (first | refine blk_drewN ?_ _ | refine blk_drew ?_ | refine blk_alloc ?_ _)); exact BK208.out⟩, ⟨by repeat (first | (with_reducible first | exact HB.out | apply below_alloc | apply pw_below_drewN | apply below_drew1 | refine below_set ?_ GE207.out | refine below_set ?_ GE208.out) | exact HB.out)⟩⟩
              · rw [if_neg c42] at H
                have c42b0 : decide (x7_2 < (l0_7.length : Int)) = false := decide_eq_false c42
                clear c42
                (first | rw [c42b0] | (simp only [i64_w, i32_w]; rw [c42b0]) | skip)
                have H' := Aside0.mk H
                clear H
                have hnb46 := NB207_208.out
                have hnc46 := NB208_207.out
                have hcz47_0 : wr.cell? ⟨gb207, 0, none⟩ = some (.int .i64 a0_0) := (blk_cell BK207.out 0).trans rfl
                have hcz47_1 : wr.cell? ⟨gb207, 1, none⟩ = some (.slice A0_1 l0_1.length c0_1) := (blk_cell BK207.out 1).trans rfl
                have hcz47_2 : wr.cell? ⟨gb207, 2, none⟩ = some (.int .i64 a0_2) := (blk_cell BK207.out 2).trans rfl
                have hcz47_3 : wr.cell? ⟨gb207, 3, none⟩ = some (.string a0_3) := (blk_cell BK207.out 3).trans rfl
                have hcz47_4 : wr.cell? ⟨gb207, 4, none⟩ = some (.int .i64 a0_4) := (blk_cell BK207.out 4).trans rfl
                have hcz47_5 : wr.cell? ⟨gb207, 5, none⟩ = some (.int .i64 a0_5) := (blk_cell BK207.out 5).trans rfl
                have hcz47_6 : wr.cell? ⟨gb207, 6, none⟩ = some (.bool a0_6) := (blk_cell BK207.out 6).trans rfl
                have hcz47_7 : wr.cell? ⟨gb207, 7, none⟩ = some (.slice A0_7 l0_7.length c0_7) := (blk_cell BK207.out 7).trans rfl
                have hfz47_0 := blk_frozen BK207.out 0
                have hfz47_1 := blk_frozen BK207.out 1
                have hfz47_2 := blk_frozen BK207.out 2
                have hfz47_3 := blk_frozen BK207.out 3
                have hfz47_4 := blk_frozen BK207.out 4
                have hfz47_5 := blk_frozen BK207.out 5
                have hfz47_6 := blk_frozen BK207.out 6
                have hfz47_7 := blk_frozen BK207.out 7
                go_wp2
                go_meet
                case rel => exact ⟨_, (false), (by first | rfl | (simp; done) | (simp [*]; done)), H', ⟨by have := HJ3.out; have := HK2.out; first | omega | exact Nat.le_refl _⟩, ⟨by (with_reducible repeat (first | refine blk_drewN ?_ _ | refine blk_drew ?_ | refine blk_alloc ?_ _)); exact BK207.out⟩, ⟨by (with_reducible repeat (first | refine blk_drewN ?_ _ | refine blk_drew ?_ | refine blk_alloc ?_ _)); exact BK208.out⟩, ⟨by repeat (first | (with_reducible first | exact HB.out | apply below_alloc | apply pw_below_drewN | apply below_drew1 | refine below_set ?_ GE207.out | refine below_set ?_ GE208.out) | exact HB.out)⟩⟩
            case rest =>
              clear HC41
              try clear c1
              try clear c2
              try clear p2
              try clear c3
              try clear c4
              try clear c5
              try clear c7
              try clear c7b0
              try clear c7b1
              try clear c8
              try clear c8b0
              try clear c8b1
              try clear c9
              try clear c9b0
              try clear c9b1
              try clear c10
              try clear c10b0
              try clear c10b1
              try clear c11
              try clear c11b0
              try clear c11b1
              try clear c12
              try clear c12b0
              try clear c12b1
              try clear c13
              try clear c13b0
              try clear c13b1
              try clear c13b2
              try clear c14
              try clear c18
              try clear c19
              try clear c22
              try clear c25
              try clear c28
              try clear c31
              try clear c34
              try clear c37
              try clear c40
              try clear c42
              try clear c42b0
              try clear c43
              try clear c46
              try clear hcz15_0
              try clear hcz15_1
              try clear hcz15_2
              try clear hcz15_3
              try clear hcz15_4
              try clear hcz15_5
              try clear hcz15_6
              try clear hcz15_7
              try clear hcz16_0
              try clear hcz16_1
              try clear hcz16_2
              try clear hcz16_3
              try clear hcz16_4
              try clear hcz16_5
              try clear hcz16_6
              try clear hcz16_7
              try clear hcz20_0
              try clear hcz20_1
              try clear hcz20_2
              try clear hcz20_3
              try clear hcz20_4
              try clear hcz20_5
              try clear hcz20_6
              try clear hcz20_7
              try clear hcz21_0
              try clear hcz21_1
              try clear hcz21_2
              try clear hcz21_3
              try clear hcz21_4
              try clear hcz21_5
              try clear hcz21_6
              try clear hcz21_7
              try clear hcz23_0
              try clear hcz23_1
              try clear hcz23_2
              try clear hcz23_3
              try clear hcz23_4
              try clear hcz23_5
              try clear hcz23_6
              try clear hcz23_7
              try clear hcz24_0
              try clear hcz24_1
              try clear hcz24_2
              try clear hcz24_3
              try clear hcz24_4
              try clear hcz24_5
              try clear hcz24_6
              try clear hcz24_7
              try clear hcz26_0
              try clear hcz26_1
              try clear hcz26_2
              try clear hcz26_3
              try clear hcz26_4
              try clear hcz26_5
              try clear hcz26_6
              try clear hcz26_7
              try clear hcz27_0
              try clear hcz27_1
              try clear hcz27_2
              try clear hcz27_3
              try clear hcz27_4
              try clear hcz27_5
              try clear hcz27_6
              try clear hcz27_7
              try clear hcz29_0
              try clear hcz29_1
              try clear hcz29_2
              try clear hcz29_3
              try clear hcz29_4
              try clear hcz29_5
              try clear hcz29_6
              try clear hcz29_7
              try clear hcz30_0
              try clear hcz30_1
              try clear hcz30_2
              try clear hcz30_3
              try clear hcz30_4
              try clear hcz30_5
              try clear hcz30_6
              try clear hcz30_7
              try clear hcz32_0
              try clear hcz32_1
              try clear hcz32_2
              try clear hcz32_3
              try clear hcz32_4
              try clear hcz32_5
              try clear hcz32_6
              try clear hcz32_7
              try clear hcz33_0
              try clear hcz33_1
              try clear hcz33_2
              try clear hcz33_3
              try clear hcz33_4
              try clear hcz33_5
              try clear hcz33_6
              try clear hcz33_7
              try clear hcz35_0
              try clear hcz35_1
              try clear hcz35_2
              try clear hcz35_3
              try clear hcz35_4
              try clear hcz35_5
              try clear hcz35_6
              try clear hcz35_7
              try clear hcz36_0
              try clear hcz36_1
              try clear hcz36_2
              try clear hcz36_3
              try clear hcz36_4
              try clear hcz36_5
              try clear hcz36_6
              try clear hcz36_7
              try clear hcz38_0
              try clear hcz38_1
              try clear hcz38_2
              try clear hcz38_3
              try clear hcz38_4
              try clear hcz38_5
              try clear hcz38_6
              try clear hcz38_7
              try clear hcz39_0
              try clear hcz39_1
              try clear hcz39_2
              try clear hcz39_3
              try clear hcz39_4
              try clear hcz39_5
              try clear hcz39_6
              try clear hcz39_7
              try clear hcz44_0
              try clear hcz44_1
              try clear hcz44_2
              try clear hcz44_3
              try clear hcz44_4
              try clear hcz44_5
              try clear hcz44_6
              try clear hcz44_7
              try clear hcz45_0
              try clear hcz45_1
              try clear hcz45_2
              try clear hcz45_3
              try clear hcz45_4
              try clear hcz45_5
              try clear hcz45_6
              try clear hcz45_7
              try clear hcz47_0
              try clear hcz47_1
              try clear hcz47_2
              try clear hcz47_3
              try clear hcz47_4
              try clear hcz47_5
              try clear hcz47_6
              try clear hcz47_7
              try clear hfz15_0
              try clear hfz15_1
              try clear hfz15_2
              try clear hfz15_3
              try clear hfz15_4
              try clear hfz15_5
              try clear hfz15_6
              try clear hfz15_7
              try clear hfz16_0
              try clear hfz16_1
              try clear hfz16_2
              try clear hfz16_3
              try clear hfz16_4
              try clear hfz16_5
              try clear hfz16_6
              try clear hfz16_7
              try clear hfz20_0
              try clear hfz20_1
              try clear hfz20_2
              try clear hfz20_3
              try clear hfz20_4
              try clear hfz20_5
              try clear hfz20_6
              try clear hfz20_7
              try clear hfz21_0
              try clear hfz21_1
              try clear hfz21_2
              try clear hfz21_3
              try clear hfz21_4
              try clear hfz21_5
              try clear hfz21_6
              try clear hfz21_7
              try clear hfz23_0
              try clear hfz23_1
              try clear hfz23_2
              try clear hfz23_3
              try clear hfz23_4
              try clear hfz23_5
              try clear hfz23_6
              try clear hfz23_7
              try clear hfz24_0
              try clear hfz24_1
              try clear hfz24_2
              try clear hfz24_3
              try clear hfz24_4
              try clear hfz24_5
              try clear hfz24_6
              try clear hfz24_7
              try clear hfz26_0
              try clear hfz26_1
              try clear hfz26_2
              try clear hfz26_3
              try clear hfz26_4
              try clear hfz26_5
              try clear hfz26_6
              try clear hfz26_7
              try clear hfz27_0
              try clear hfz27_1
              try clear hfz27_2
              try clear hfz27_3
              try clear hfz27_4
              try clear hfz27_5
              try clear hfz27_6
              try clear hfz27_7
              try clear hfz29_0
              try clear hfz29_1
              try clear hfz29_2
              try clear hfz29_3
              try clear hfz29_4
              try clear hfz29_5
              try clear hfz29_6
              try clear hfz29_7
              try clear hfz30_0
              try clear hfz30_1
              try clear hfz30_2
              try clear hfz30_3
              try clear hfz30_4
              try clear hfz30_5
              try clear hfz30_6
              try clear hfz30_7
              try clear hfz32_0
              try clear hfz32_1
              try clear hfz32_2
              try clear hfz32_3
              try clear hfz32_4
              try clear hfz32_5
              try clear hfz32_6
              try clear hfz32_7
              try clear hfz33_0
              try clear hfz33_1
              try clear hfz33_2
              try clear hfz33_3
              try clear hfz33_4
              try clear hfz33_5
              try clear hfz33_6
              try clear hfz33_7
              try clear hfz35_0
              try clear hfz35_1
              try clear hfz35_2
              try clear hfz35_3
              try clear hfz35_4
              try clear hfz35_5
              try clear hfz35_6
              try clear hfz35_7
              try clear hfz36_0
              try clear hfz36_1
              try clear hfz36_2
              try clear hfz36_3
              try clear hfz36_4
              try clear hfz36_5
              try clear hfz36_6
              try clear hfz36_7
              try clear hfz38_0
              try clear hfz38_1
              try clear hfz38_2
              try clear hfz38_3
              try clear hfz38_4
              try clear hfz38_5
              try clear hfz38_6
              try clear hfz38_7
              try clear hfz39_0
              try clear hfz39_1
              try clear hfz39_2
              try clear hfz39_3
              try clear hfz39_4
              try clear hfz39_5
              try clear hfz39_6
              try clear hfz39_7
              try clear hfz44_0
              try clear hfz44_1
              try clear hfz44_2
              try clear hfz44_3
              try clear hfz44_4
              try clear hfz44_5
              try clear hfz44_6
              try clear hfz44_7
              try clear hfz45_0
              try clear hfz45_1
              try clear hfz45_2
              try clear hfz45_3
              try clear hfz45_4
              try clear hfz45_5
              try clear hfz45_6
              try clear hfz45_7
              try clear hfz47_0
              try clear hfz47_1
              try clear hfz47_2
              try clear hfz47_3
              try clear hfz47_4
              try clear hfz47_5
              try clear hfz47_6
              try clear hfz47_7
              try clear p2
              obtain ⟨kq, x80_40, rfl, HA, HJ40, BK207, BK208, HB⟩ := hcut
              cases kq with
              | zero => exact absurd HA.out (by simp [burinbook_SameNode.j2])
              | succ kj40 =>
                have H := HA.out
                clear HA
                simp only [burinbook_SameNode.j2] at H
                by_cases c48 : x80_40 = true
                · subst c48
                  have H1 : (if 0 ≤ x7_2 then (if x7_2 < (l0_7.length : Int) then (if x7_2 < (l1_7.length : Int) then ((burinbook_SameNode.f kj40 ((rd_T25 l0_7 x7_2).f0) ((rd_T25 l0_7 x7_2).f1) ((rd_T25 l0_7 x7_2).f2) ((rd_T25 l0_7 x7_2).f3) ((rd_T25 l0_7 x7_2).f4) ((rd_T25 l0_7 x7_2).f5) ((rd_T25 l0_7 x7_2).f6) ((rd_T25 l0_7 x7_2).f7) ((rd_T25 l1_7 x7_2).f0) ((rd_T25 l1_7 x7_2).f1) ((rd_T25 l1_7 x7_2).f2) ((rd_T25 l1_7 x7_2).f3) ((rd_T25 l1_7 x7_2).f4) ((rd_T25 l1_7 x7_2).f5) ((rd_T25 l1_7 x7_2).f6) ((rd_T25 l1_7 x7_2).f7) (wrap64 (a2 - 1))).bind fun t212 => (if t212 = true then (burinbook_SameNode.l0 kj40 a2 (wrap64 (x7_2 + 1)) a0_0 l0_1 a0_2 a0_3 a0_4 a0_5 a0_6 l0_7 a1_0 l1_1 a1_2 a1_3 a1_4 a1_5 a1_6 l1_7) else (some false))) else (none)) else (none)) else (none)) = some r := by rw [if_pos rfl] at H; exact H
                  clear H
                  have H := H1
                  clear H1
                  by_cases c49 : 0 ≤ x7_2
                  · rw [if_pos c49] at H
                    have c49b0 : decide (0 ≤ x7_2) = true := decide_eq_true c49
                    clear c49
                    by_cases c50 : x7_2 < (l0_7.length : Int)
                    · rw [if_pos c50] at H
                      have c50b0 : decide (x7_2 < (l0_7.length : Int)) = true := decide_eq_true c50
                      clear c50
                      by_cases c51 : x7_2 < (l1_7.length : Int)
                      · rw [if_pos c51] at H
                        have c51b0 : decide (x7_2 < (l1_7.length : Int)) = true := decide_eq_true c51
                        clear c51
                        replace H := Option.bind_eq_some_iff.mp H
                        obtain ⟨t212, A520, H⟩ := H
                        replace H : (if t212 = true then (burinbook_SameNode.l0 kj40 a2 (wrap64 (x7_2 + 1)) a0_0 l0_1 a0_2 a0_3 a0_4 a0_5 a0_6 l0_7 a1_0 l1_1 a1_2 a1_3 a1_4 a1_5 a1_6 l1_7) else (some false)) = some r := H
                        have A52 := Aside0.mk A520
                        clear A520
                        by_cases c53 : t212 = true
                        · subst c53
                          have H1 : (burinbook_SameNode.l0 kj40 a2 (wrap64 (x7_2 + 1)) a0_0 l0_1 a0_2 a0_3 a0_4 a0_5 a0_6 l0_7 a1_0 l1_1 a1_2 a1_3 a1_4 a1_5 a1_6 l1_7) = some r := by rw [if_pos rfl] at H; exact H
                          clear H
                          have H := H1
                          clear H1
                          have H' := Aside0.mk H
                          clear H
                          try go_wp2
                          have n0_ := Aside0.mk (blk_drew BK207.out)
                          have n1_ := Aside0.mk (blk_drew BK208.out)
                          have n2_ := Aside0.mk (below_drew1 HB.out)
                          clear BK207
                          clear BK208
                          clear HB
                          have BK207 := n0_
                          have BK208 := n1_
                          have HB := n2_
                          clear n0_ n1_ n2_
                          have p210 : 0 ≤ (x7_2 : Int) := of_decide_eq_true (by first | (with_reducible assumption) | assumption)
                          have q210 : x7_2 < (l0_7.length : Int) := of_decide_eq_true (by first | (with_reducible assumption) | assumption)
                          obtain ⟨ad210, A210_1, c210_1, A210_7, c210_7, e210, hx210_0, hx210_1, hx210_2, hx210_3, hx210_4, hx210_5, hx210_6, hx210_7, hl210_1, hi210_1, hl210_7, hi210_7⟩ := at_T25 HR0_7.out x7_2 p210 q210
                          have hw210_7 := hx210_7
                          have hw210_6 := hx210_6
                          have hw210_5 := hx210_5
                          have hw210_4 := hx210_4
                          have hw210_3 := hx210_3
                          have hw210_2 := hx210_2
                          have hw210_1 := hx210_1
                          have hw210_0 := hx210_0
                          cases e210
                          replace hx210_0 := (HB.out.cell (World.block_lt_of_cell? w _ hx210_0)).trans hx210_0
                          replace hx210_1 := (HB.out.cell (World.block_lt_of_cell? w _ hx210_1)).trans hx210_1
                          replace hx210_2 := (HB.out.cell (World.block_lt_of_cell? w _ hx210_2)).trans hx210_2
                          replace hx210_3 := (HB.out.cell (World.block_lt_of_cell? w _ hx210_3)).trans hx210_3
                          replace hx210_4 := (HB.out.cell (World.block_lt_of_cell? w _ hx210_4)).trans hx210_4
                          replace hx210_5 := (HB.out.cell (World.block_lt_of_cell? w _ hx210_5)).trans hx210_5
                          replace hx210_6 := (HB.out.cell (World.block_lt_of_cell? w _ hx210_6)).trans hx210_6
                          replace hx210_7 := (HB.out.cell (World.block_lt_of_cell? w _ hx210_7)).trans hx210_7
                          have HR210_1 := Aside0.mk hi210_1
                          have HC210_1 := Aside0.mk hl210_1
                          clear hi210_1 hl210_1
                          have HR210_7 := Aside0.mk hi210_7
                          have HC210_7 := Aside0.mk hl210_7
                          clear hi210_7 hl210_7
                          replace p210 := eq_true p210
                          replace q210 := eq_true q210
                          have p211 : 0 ≤ (x7_2 : Int) := of_decide_eq_true (by first | (with_reducible assumption) | assumption)
                          have q211 : x7_2 < (l1_7.length : Int) := of_decide_eq_true (by first | (with_reducible assumption) | assumption)
                          obtain ⟨ad211, A211_1, c211_1, A211_7, c211_7, e211, hx211_0, hx211_1, hx211_2, hx211_3, hx211_4, hx211_5, hx211_6, hx211_7, hl211_1, hi211_1, hl211_7, hi211_7⟩ := at_T25 HR1_7.out x7_2 p211 q211
                          have hw211_7 := hx211_7
                          have hw211_6 := hx211_6
                          have hw211_5 := hx211_5
                          have hw211_4 := hx211_4
                          have hw211_3 := hx211_3
                          have hw211_2 := hx211_2
                          have hw211_1 := hx211_1
                          have hw211_0 := hx211_0
                          cases e211
                          replace hx211_0 := (HB.out.cell (World.block_lt_of_cell? w _ hx211_0)).trans hx211_0
                          replace hx211_1 := (HB.out.cell (World.block_lt_of_cell? w _ hx211_1)).trans hx211_1
                          replace hx211_2 := (HB.out.cell (World.block_lt_of_cell? w _ hx211_2)).trans hx211_2
                          replace hx211_3 := (HB.out.cell (World.block_lt_of_cell? w _ hx211_3)).trans hx211_3
                          replace hx211_4 := (HB.out.cell (World.block_lt_of_cell? w _ hx211_4)).trans hx211_4
                          replace hx211_5 := (HB.out.cell (World.block_lt_of_cell? w _ hx211_5)).trans hx211_5
                          replace hx211_6 := (HB.out.cell (World.block_lt_of_cell? w _ hx211_6)).trans hx211_6
                          replace hx211_7 := (HB.out.cell (World.block_lt_of_cell? w _ hx211_7)).trans hx211_7
                          have HR211_1 := Aside0.mk hi211_1
                          have HC211_1 := Aside0.mk hl211_1
                          clear hi211_1 hl211_1
                          have HR211_7 := Aside0.mk hi211_7
                          have HC211_7 := Aside0.mk hl211_7
                          clear hi211_7 hl211_7
                          replace p211 := eq_true p211
                          replace q211 := eq_true q211
                          refine start_ (n := 14) (S := fun w' => w'.cell? ⟨gb207, 0, none⟩ = some (.int .i64 a0_0) ∧ w'.cell? ⟨gb207, 1, none⟩ = some (.slice A0_1 l0_1.length c0_1) ∧ w'.cell? ⟨gb207, 2, none⟩ = some (.int .i64 a0_2) ∧ w'.cell? ⟨gb207, 3, none⟩ = some (.string a0_3) ∧ w'.cell? ⟨gb207, 4, none⟩ = some (.int .i64 a0_4) ∧ w'.cell? ⟨gb207, 5, none⟩ = some (.int .i64 a0_5) ∧ w'.cell? ⟨gb207, 6, none⟩ = some (.bool a0_6) ∧ w'.cell? ⟨gb207, 7, none⟩ = some (.slice (some ad210) l0_7.length c0_7) ∧ w'.cell? ⟨gb208, 0, none⟩ = some (.int .i64 a1_0) ∧ w'.cell? ⟨gb208, 1, none⟩ = some (.slice A1_1 l1_1.length c1_1) ∧ w'.cell? ⟨gb208, 2, none⟩ = some (.int .i64 a1_2) ∧ w'.cell? ⟨gb208, 3, none⟩ = some (.string a1_3) ∧ w'.cell? ⟨gb208, 4, none⟩ = some (.int .i64 a1_4) ∧ w'.cell? ⟨gb208, 5, none⟩ = some (.int .i64 a1_5) ∧ w'.cell? ⟨gb208, 6, none⟩ = some (.bool a1_6) ∧ w'.cell? ⟨gb208, 7, none⟩ = some (.slice (some ad211) l1_7.length c1_7) ∧ w'.cell? (ad210.add ((x7_2).toNat * 8)) = some (.int .i64 ((rd_T25 l0_7 x7_2).f0)) ∧ w'.cell? ⟨(ad210.add ((x7_2).toNat * 8)).block, (ad210.add ((x7_2).toNat * 8)).off + 1, none⟩ = some (.slice A210_1 ((rd_T25 l0_7 x7_2).f1).length c210_1) ∧ w'.cell? ⟨(ad210.add ((x7_2).toNat * 8)).block, (ad210.add ((x7_2).toNat * 8)).off + 2, none⟩ = some (.int .i64 ((rd_T25 l0_7 x7_2).f2)) ∧ w'.cell? ⟨(ad210.add ((x7_2).toNat * 8)).block, (ad210.add ((x7_2).toNat * 8)).off + 3, none⟩ = some (.string ((rd_T25 l0_7 x7_2).f3)) ∧ w'.cell? ⟨(ad210.add ((x7_2).toNat * 8)).block, (ad210.add ((x7_2).toNat * 8)).off + 4, none⟩ = some (.int .i64 ((rd_T25 l0_7 x7_2).f4)) ∧ w'.cell? ⟨(ad210.add ((x7_2).toNat * 8)).block, (ad210.add ((x7_2).toNat * 8)).off + 5, none⟩ = some (.int .i64 ((rd_T25 l0_7 x7_2).f5)) ∧ w'.cell? ⟨(ad210.add ((x7_2).toNat * 8)).block, (ad210.add ((x7_2).toNat * 8)).off + 6, none⟩ = some (.bool ((rd_T25 l0_7 x7_2).f6)) ∧ w'.cell? ⟨(ad210.add ((x7_2).toNat * 8)).block, (ad210.add ((x7_2).toNat * 8)).off + 7, none⟩ = some (.slice A210_7 ((rd_T25 l0_7 x7_2).f7).length c210_7) ∧ w'.cell? (ad211.add ((x7_2).toNat * 8)) = some (.int .i64 ((rd_T25 l1_7 x7_2).f0)) ∧ w'.cell? ⟨(ad211.add ((x7_2).toNat * 8)).block, (ad211.add ((x7_2).toNat * 8)).off + 1, none⟩ = some (.slice A211_1 ((rd_T25 l1_7 x7_2).f1).length c211_1) ∧ w'.cell? ⟨(ad211.add ((x7_2).toNat * 8)).block, (ad211.add ((x7_2).toNat * 8)).off + 2, none⟩ = some (.int .i64 ((rd_T25 l1_7 x7_2).f2)) ∧ w'.cell? ⟨(ad211.add ((x7_2).toNat * 8)).block, (ad211.add ((x7_2).toNat * 8)).off + 3, none⟩ = some (.string ((rd_T25 l1_7 x7_2).f3)) ∧ w'.cell? ⟨(ad211.add ((x7_2).toNat * 8)).block, (ad211.add ((x7_2).toNat * 8)).off + 4, none⟩ = some (.int .i64 ((rd_T25 l1_7 x7_2).f4)) ∧ w'.cell? ⟨(ad211.add ((x7_2).toNat * 8)).block, (ad211.add ((x7_2).toNat * 8)).off + 5, none⟩ = some (.int .i64 ((rd_T25 l1_7 x7_2).f5)) ∧ w'.cell? ⟨(ad211.add ((x7_2).toNat * 8)).block, (ad211.add ((x7_2).toNat * 8)).off + 6, none⟩ = some (.bool ((rd_T25 l1_7 x7_2).f6)) ∧ w'.cell? ⟨(ad211.add ((x7_2).toNat * 8)).block, (ad211.add ((x7_2).toNat * 8)).off + 7, none⟩ = some (.slice A211_7 ((rd_T25 l1_7 x7_2).f7).length c211_7)) (ds := []) #[false, false, false, false, false, false, false, false, false, false, false, false, false, false] (by kernel_rfl) rfl rfl ⟨(blk_cell BK207.out 0).trans rfl, (blk_cell BK207.out 1).trans rfl, (blk_cell BK207.out 2).trans rfl, (blk_cell BK207.out 3).trans rfl, (blk_cell BK207.out 4).trans rfl, (blk_cell BK207.out 5).trans rfl, (blk_cell BK207.out 6).trans rfl, (blk_cell BK207.out 7).trans rfl, (blk_cell BK208.out 0).trans rfl, (blk_cell BK208.out 1).trans rfl, (blk_cell BK208.out 2).trans rfl, (blk_cell BK208.out 3).trans rfl, (blk_cell BK208.out 4).trans rfl, (blk_cell BK208.out 5).trans rfl, (blk_cell BK208.out 6).trans rfl, (blk_cell BK208.out 7).trans rfl, ((HB.out.cell (World.block_lt_of_cell? w _ hw210_0)).trans hw210_0), ((HB.out.cell (World.block_lt_of_cell? w _ hw210_1)).trans hw210_1), ((HB.out.cell (World.block_lt_of_cell? w _ hw210_2)).trans hw210_2), ((HB.out.cell (World.block_lt_of_cell? w _ hw210_3)).trans hw210_3), ((HB.out.cell (World.block_lt_of_cell? w _ hw210_4)).trans hw210_4), ((HB.out.cell (World.block_lt_of_cell? w _ hw210_5)).trans hw210_5), ((HB.out.cell (World.block_lt_of_cell? w _ hw210_6)).trans hw210_6), ((HB.out.cell (World.block_lt_of_cell? w _ hw210_7)).trans hw210_7), ((HB.out.cell (World.block_lt_of_cell? w _ hw211_0)).trans hw211_0), ((HB.out.cell (World.block_lt_of_cell? w _ hw211_1)).trans hw211_1), ((HB.out.cell (World.block_lt_of_cell? w _ hw211_2)).trans hw211_2), ((HB.out.cell (World.block_lt_of_cell? w _ hw211_3)).trans hw211_3), ((HB.out.cell (World.block_lt_of_cell? w _ hw211_4)).trans hw211_4), ((HB.out.cell (World.block_lt_of_cell? w _ hw211_5)).trans hw211_5), ((HB.out.cell (World.block_lt_of_cell? w _ hw211_6)).trans hw211_6), ((HB.out.cell (World.block_lt_of_cell? w _ hw211_7)).trans hw211_7)⟩ (fun hHeld => ?_); refine with_tabW burinbook_SameNode.tab6 burinbook_SameNode.bits6 (fun HT_ HW_ => ?_)
                          generalize wc.drew = w54 at BK207 BK208 HB HR210_1 HR210_7 HR211_1 HR211_7 hx210_0 hx210_1 hx210_2 hx210_3 hx210_4 hx210_5 hx210_6 hx210_7 hx211_0 hx211_1 hx211_2 hx211_3 hx211_4 hx211_5 hx211_6 hx211_7 hHeld ⊢
                          refine pure_ (i := 0) (N := some 83) (v := ?_) (a' := ?_) #[true, false, false, false, false, false, false, false, false, false, false, false, false, false] rfl rfl (any_of HT_.out (by kernel_rfl)) (fun _ _ _ h => h) (Or.inl ⟨by rfl, ?_⟩) ?_ ?_
                          rotate_left
                          · intro w'
                            go_simp
                            with_reducible rfl
                          rotate_left
                          · simp only [Act.put, List.setIfInBounds_toArray, List.set_cons_zero, List.set_cons_succ, i64_w, i32_w]
                            rfl
                          refine pure_ (i := 2) (N := some 85) (v := ?_) (a' := ?_) #[true, false, true, false, false, false, false, false, false, false, false, false, false, false] rfl rfl (any_of HT_.out (by kernel_rfl)) (fun _ _ _ h => h) (Or.inl ⟨by rfl, ?_⟩) ?_ ?_
                          rotate_left
                          · intro w'
                            go_simp
                            with_reducible rfl
                          rotate_left
                          · simp only [Act.put, List.setIfInBounds_toArray, List.set_cons_zero, List.set_cons_succ, i64_w, i32_w]
                            rfl
                          refine pure_ (i := 5) (N := some 88) (v := ?_) (a' := ?_) #[true, false, true, false, false, true, false, false, false, false, false, false, false, false] rfl rfl (any_of HT_.out (by kernel_rfl)) (fun _ _ _ h => h) (Or.inl ⟨by rfl, ?_⟩) ?_ ?_
                          rotate_left
                          · intro w'
                            go_simp
                            with_reducible rfl
                          rotate_left
                          · simp only [Act.put, List.setIfInBounds_toArray, List.set_cons_zero, List.set_cons_succ, i64_w, i32_w]
                            rfl
                          refine pure_ (i := 7) (N := some 90) (v := ?_) (a' := ?_) #[true, false, true, false, false, true, false, true, false, false, false, false, false, false] rfl rfl (any_of HT_.out (by kernel_rfl)) (fun _ _ _ h => h) (Or.inl ⟨by rfl, ?_⟩) ?_ ?_
                          rotate_left
                          · intro w'
                            go_simp
                            with_reducible rfl
                          rotate_left
                          · simp only [Act.put, List.setIfInBounds_toArray, List.set_cons_zero, List.set_cons_succ, i64_w, i32_w]
                            rfl
                          refine pure_ (i := 10) (N := some 93) (v := ?_) (a' := ?_) #[true, false, true, false, false, true, false, true, false, false, true, false, false, false] rfl rfl (any_of HT_.out (by kernel_rfl)) (fun _ _ _ h => h) (Or.inl ⟨by rfl, ?_⟩) ?_ ?_
                          rotate_left
                          · intro w'
                            go_simp
                            with_reducible rfl
                          rotate_left
                          · simp only [Act.put, List.setIfInBounds_toArray, List.set_cons_zero, List.set_cons_succ, i64_w, i32_w]
                            rfl
                          refine pure_ (i := 11) (N := some 94) (v := ?_) (a' := ?_) #[true, false, true, false, false, true, false, true, false, false, true, true, false, false] rfl rfl (any_of HT_.out (by kernel_rfl)) (fun _ _ _ h => h) (Or.inl ⟨by rfl, ?_⟩) ?_ ?_
                          rotate_left
                          · intro w'
                            go_simp
                            with_reducible rfl
                          rotate_left
                          · simp only [Act.put, List.setIfInBounds_toArray, List.set_cons_zero, List.set_cons_succ, i64_w, i32_w]
                            rfl
                          refine take_ (i := 1) (N := some 84) (v := ?_) (a' := ?_) #[true, true, true, false, false, true, false, true, false, false, true, true, false, false] rfl rfl (take_ofW HT_.out HW_.out (by kernel_rfl)) (fun _ _ _ h => h) (Or.inl ⟨by rfl, ?_⟩) hHeld ?_ ?_
                          rotate_left
                          · rintro w' ⟨s0, s1, s2, s3, s4, s5, s6, s7, s8, s9, s10, s11, s12, s13, s14, s15, s16, s17, s18, s19, s20, s21, s22, s23, s24, s25, s26, s27, s28, s29, s30, s31⟩
                            go_simp
                            with_reducible rfl
                          rotate_left
                          · simp only [Act.put, List.setIfInBounds_toArray, List.set_cons_zero, List.set_cons_succ, i64_w, i32_w]
                            rfl
                          refine pure_ (i := 3) (N := some 86) (v := ?_) (a' := ?_) #[true, true, true, true, false, true, false, true, false, false, true, true, false, false] rfl rfl (any_of HT_.out (by kernel_rfl)) (fun _ _ _ h => h) (Or.inl ⟨by rfl, ?_⟩) ?_ ?_
                          rotate_left
                          · intro w'
                            go_simp
                            with_reducible rfl
                          rotate_left
                          · simp only [Act.put, List.setIfInBounds_toArray, List.set_cons_zero, List.set_cons_succ, i64_w, i32_w]
                            rfl
                          refine take_ (i := 4) (N := some 87) (v := ?_) (a' := ?_) #[true, true, true, true, true, true, false, true, false, false, true, true, false, false] rfl rfl (take_ofW HT_.out HW_.out (by kernel_rfl)) (fun _ _ _ h => h) (Or.inl ⟨by rfl, ?_⟩) hHeld ?_ ?_
                          rotate_left
                          · rintro w' ⟨s0, s1, s2, s3, s4, s5, s6, s7, s8, s9, s10, s11, s12, s13, s14, s15, s16, s17, s18, s19, s20, s21, s22, s23, s24, s25, s26, s27, s28, s29, s30, s31⟩
                            go_simp
                            with_reducible rfl
                          rotate_left
                          · simp only [Act.put, List.setIfInBounds_toArray, List.set_cons_zero, List.set_cons_succ, i64_w, i32_w]
                            rfl
                          refine take_ (i := 6) (N := some 89) (v := ?_) (a' := ?_) #[true, true, true, true, true, true, true, true, false, false, true, true, false, false] rfl rfl (take_ofW HT_.out HW_.out (by kernel_rfl)) (fun _ _ _ h => h) (Or.inl ⟨by rfl, ?_⟩) hHeld ?_ ?_
                          rotate_left
                          · rintro w' ⟨s0, s1, s2, s3, s4, s5, s6, s7, s8, s9, s10, s11, s12, s13, s14, s15, s16, s17, s18, s19, s20, s21, s22, s23, s24, s25, s26, s27, s28, s29, s30, s31⟩
                            go_simp
                            with_reducible rfl
                          rotate_left
                          · simp only [Act.put, List.setIfInBounds_toArray, List.set_cons_zero, List.set_cons_succ, i64_w, i32_w]
                            rfl
                          refine pure_ (i := 8) (N := some 91) (v := ?_) (a' := ?_) #[true, true, true, true, true, true, true, true, true, false, true, true, false, false] rfl rfl (any_of HT_.out (by kernel_rfl)) (fun _ _ _ h => h) (Or.inl ⟨by rfl, ?_⟩) ?_ ?_
                          rotate_left
                          · intro w'
                            go_simp
                            with_reducible rfl
                          rotate_left
                          · simp only [Act.put, List.setIfInBounds_toArray, List.set_cons_zero, List.set_cons_succ, i64_w, i32_w]
                            rfl
                          refine take_ (i := 9) (N := some 92) (v := ?_) (a' := ?_) #[true, true, true, true, true, true, true, true, true, true, true, true, false, false] rfl rfl (take_ofW HT_.out HW_.out (by kernel_rfl)) (fun _ _ _ h => h) (Or.inl ⟨by rfl, ?_⟩) hHeld ?_ ?_
                          rotate_left
                          · rintro w' ⟨s0, s1, s2, s3, s4, s5, s6, s7, s8, s9, s10, s11, s12, s13, s14, s15, s16, s17, s18, s19, s20, s21, s22, s23, s24, s25, s26, s27, s28, s29, s30, s31⟩
                            go_simp
                            with_reducible rfl
                          rotate_left
                          · simp only [Act.put, List.setIfInBounds_toArray, List.set_cons_zero, List.set_cons_succ, i64_w, i32_w]
                            rfl
                          refine one_ (i := 12) (N := some 95) #[true, true, true, true, true, true, true, true, true, true, true, true, true, false] rfl rfl (one_of HT_.out (by kernel_rfl)) (by decide) (fun K hK => ?_)
                          refine goes_ Try.func50 (by kernel_rfl) rfl #[.agg #[.int .i64 ((rd_T25 l0_7 x7_2).f0), .slice A210_1 ((rd_T25 l0_7 x7_2).f1).length c210_1, .int .i64 ((rd_T25 l0_7 x7_2).f2), .string ((rd_T25 l0_7 x7_2).f3), .int .i64 ((rd_T25 l0_7 x7_2).f4), .int .i64 ((rd_T25 l0_7 x7_2).f5), .bool ((rd_T25 l0_7 x7_2).f6), .slice A210_7 ((rd_T25 l0_7 x7_2).f7).length c210_7], .agg #[.int .i64 ((rd_T25 l1_7 x7_2).f0), .slice A211_1 ((rd_T25 l1_7 x7_2).f1).length c211_1, .int .i64 ((rd_T25 l1_7 x7_2).f2), .string ((rd_T25 l1_7 x7_2).f3), .int .i64 ((rd_T25 l1_7 x7_2).f4), .int .i64 ((rd_T25 l1_7 x7_2).f5), .bool ((rd_T25 l1_7 x7_2).f6), .slice A211_7 ((rd_T25 l1_7 x7_2).f7).length c211_7], .int .i64 (wrap64 (a2 - 1))] (by rfl) rfl rfl (by (try simp only [List.map_toArray, List.map_cons, List.map_nil]); first | done | rfl | (simp only [List.length_drop, List.length_take]; rfl)) ?_
                          with_reducible refine (ih kj40 (by have := HJ3.out; have := HK2.out; have := HJ40.out; omega) ((rd_T25 l0_7 x7_2).f0) _ _ ((rd_T25 l0_7 x7_2).f1) ((rd_T25 l0_7 x7_2).f2) ((rd_T25 l0_7 x7_2).f3) ((rd_T25 l0_7 x7_2).f4) ((rd_T25 l0_7 x7_2).f5) ((rd_T25 l0_7 x7_2).f6) _ _ ((rd_T25 l0_7 x7_2).f7) ((rd_T25 l1_7 x7_2).f0) _ _ ((rd_T25 l1_7 x7_2).f1) ((rd_T25 l1_7 x7_2).f2) ((rd_T25 l1_7 x7_2).f3) ((rd_T25 l1_7 x7_2).f4) ((rd_T25 l1_7 x7_2).f5) ((rd_T25 l1_7 x7_2).f6) _ _ ((rd_T25 l1_7 x7_2).f7) (wrap64 (a2 - 1)) true _ ?side1 ?side2 ?side3 ?side4 ?side5 ?side6 ?side7 ?side8 A52.out).mono ?_
                          (case side1 => repeat (first | exact (Kd.C_below HR210_1.out HB.out) | (with_reducible refine Kd.C_alloc ?_ _) | (with_reducible refine Kd.C_drewN ?_ _) | (with_reducible refine Kd.C_drew ?_)))
                          (case side2 => exact HC210_1.out)
                          (case side3 => repeat (first | exact (Kd.C_below HR210_7.out HB.out) | (with_reducible refine Kd.C_alloc ?_ _) | (with_reducible refine Kd.C_drewN ?_ _) | (with_reducible refine Kd.C_drew ?_)))
                          (case side4 => exact HC210_7.out)
                          (case side5 => repeat (first | exact (Kd.C_below HR211_1.out HB.out) | (with_reducible refine Kd.C_alloc ?_ _) | (with_reducible refine Kd.C_drewN ?_ _) | (with_reducible refine Kd.C_drew ?_)))
                          (case side6 => exact HC211_1.out)
                          (case side7 => repeat (first | exact (Kd.C_below HR211_7.out HB.out) | (with_reducible refine Kd.C_alloc ?_ _) | (with_reducible refine Kd.C_drewN ?_ _) | (with_reducible refine Kd.C_drew ?_)))
                          (case side8 => exact HC211_7.out)
                          rintro e w55 ⟨rfl, hb⟩
                          refine ⟨_, rfl, ?_⟩
                          have n0_ := Aside0.mk (blk_below (g := gb207) (o := .cells #[.int .i64 a0_0, .slice A0_1 l0_1.length c0_1, .int .i64 a0_2, .string a0_3, .int .i64 a0_4, .int .i64 a0_5, .bool a0_6, .slice (some ad210) l0_7.length c0_7] 25 (0, 0)) (by (with_reducible repeat (first | refine blk_drewN ?_ _ | refine blk_drew ?_ | refine blk_alloc ?_ _)); exact BK207.out) hb)
                          have n1_ := Aside0.mk (blk_below (g := gb208) (o := .cells #[.int .i64 a1_0, .slice A1_1 l1_1.length c1_1, .int .i64 a1_2, .string a1_3, .int .i64 a1_4, .int .i64 a1_5, .bool a1_6, .slice (some ad211) l1_7.length c1_7] 25 (0, 0)) (by (with_reducible repeat (first | refine blk_drewN ?_ _ | refine blk_drew ?_ | refine blk_alloc ?_ _)); exact BK208.out) hb)
                          have n2_ := Aside0.mk (below_step (by repeat (first | (with_reducible first | exact HB.out | apply below_alloc | apply pw_below_drewN | apply below_drew1 | refine below_set ?_ GE207.out | refine below_set ?_ GE208.out) | exact HB.out)) hb)
                          clear BK207
                          clear BK208
                          clear HB
                          have BK207 := n0_
                          have BK208 := n1_
                          have HB := n2_
                          clear n0_ n1_ n2_
                          (try clear hb)
                          (try clear hb2)
                          (try clear hk)
                          (try clear hi)
                          refine hK.out _ _ ⟨(blk_cell BK207.out 0).trans rfl, (blk_cell BK207.out 1).trans rfl, (blk_cell BK207.out 2).trans rfl, (blk_cell BK207.out 3).trans rfl, (blk_cell BK207.out 4).trans rfl, (blk_cell BK207.out 5).trans rfl, (blk_cell BK207.out 6).trans rfl, (blk_cell BK207.out 7).trans rfl, (blk_cell BK208.out 0).trans rfl, (blk_cell BK208.out 1).trans rfl, (blk_cell BK208.out 2).trans rfl, (blk_cell BK208.out 3).trans rfl, (blk_cell BK208.out 4).trans rfl, (blk_cell BK208.out 5).trans rfl, (blk_cell BK208.out 6).trans rfl, (blk_cell BK208.out 7).trans rfl, ((HB.out.cell (World.block_lt_of_cell? w _ hw210_0)).trans hw210_0), ((HB.out.cell (World.block_lt_of_cell? w _ hw210_1)).trans hw210_1), ((HB.out.cell (World.block_lt_of_cell? w _ hw210_2)).trans hw210_2), ((HB.out.cell (World.block_lt_of_cell? w _ hw210_3)).trans hw210_3), ((HB.out.cell (World.block_lt_of_cell? w _ hw210_4)).trans hw210_4), ((HB.out.cell (World.block_lt_of_cell? w _ hw210_5)).trans hw210_5), ((HB.out.cell (World.block_lt_of_cell? w _ hw210_6)).trans hw210_6), ((HB.out.cell (World.block_lt_of_cell? w _ hw210_7)).trans hw210_7), ((HB.out.cell (World.block_lt_of_cell? w _ hw211_0)).trans hw211_0), ((HB.out.cell (World.block_lt_of_cell? w _ hw211_1)).trans hw211_1), ((HB.out.cell (World.block_lt_of_cell? w _ hw211_2)).trans hw211_2), ((HB.out.cell (World.block_lt_of_cell? w _ hw211_3)).trans hw211_3), ((HB.out.cell (World.block_lt_of_cell? w _ hw211_4)).trans hw211_4), ((HB.out.cell (World.block_lt_of_cell? w _ hw211_5)).trans hw211_5), ((HB.out.cell (World.block_lt_of_cell? w _ hw211_6)).trans hw211_6), ((HB.out.cell (World.block_lt_of_cell? w _ hw211_7)).trans hw211_7)⟩ (fun hHeld => ?_)
                          clear hK K
                          refine norm_ (a' := ?_) ?_ ?_
                          rotate_left
                          · show Act.put _ (some 95) _ = _
                            simp only [Act.put, List.setIfInBounds_toArray, List.set_cons_zero, List.set_cons_succ, i64_w, i32_w]
                            rfl
                          refine pure_ (i := 13) (N := some 96) (v := ?_) (a' := ?_) #[true, true, true, true, true, true, true, true, true, true, true, true, true, true] rfl rfl (any_of HT_.out (by kernel_rfl)) (fun _ _ _ h => h) (Or.inl ⟨by rfl, ?_⟩) ?_ ?_
                          rotate_left
                          · intro w'
                            go_simp
                            with_reducible rfl
                          rotate_left
                          · simp only [Act.put, List.setIfInBounds_toArray, List.set_cons_zero, List.set_cons_succ, i64_w, i32_w]
                            rfl
                          refine done_ (done_of HT_.out (by kernel_rfl)) ?_
                          try go_wp2
                          go_roundg kj40
                          case measure => have := HJ3.out; have := HK2.out; have := HJ40.out; omega
                          case rel => exact ⟨(wrap64 (x7_2 + 1)), (by first | rfl | (simp; done) | (simp [*]; done)), H', ⟨by have := HJ3.out; have := HK2.out; have := HJ40.out; omega⟩, ⟨by (with_reducible repeat (first | refine blk_drewN ?_ _ | refine blk_drew ?_ | refine blk_alloc ?_ _)); exact BK207.out⟩, ⟨by (with_reducible repeat (first | refine blk_drewN ?_ _ | refine blk_drew ?_ | refine blk_alloc ?_ _)); exact BK208.out⟩, ⟨by repeat (first | (with_reducible first | exact HB.out | apply below_alloc | apply pw_below_drewN | apply below_drew1 | refine below_set ?_ GE207.out | refine below_set ?_ GE208.out) | exact HB.out)⟩⟩
                        · replace c53 := Bool.eq_false_iff.mpr c53
                          subst c53
                          have H1 : (some false) = some r := by rw [if_neg (show ¬ (false = true) by decide)] at H; exact H
                          clear H
                          have H := H1
                          clear H1
                          obtain rfl := Option.some.inj H
                          try go_wp2
                          have n0_ := Aside0.mk (blk_drew BK207.out)
                          have n1_ := Aside0.mk (blk_drew BK208.out)
                          have n2_ := Aside0.mk (below_drew1 HB.out)
                          clear BK207
                          clear BK208
                          clear HB
                          have BK207 := n0_
                          have BK208 := n1_
                          have HB := n2_
                          clear n0_ n1_ n2_
                          have p210 : 0 ≤ (x7_2 : Int) := of_decide_eq_true (by first | (with_reducible assumption) | assumption)
                          have q210 : x7_2 < (l0_7.length : Int) := of_decide_eq_true (by first | (with_reducible assumption) | assumption)
                          obtain ⟨ad210, A210_1, c210_1, A210_7, c210_7, e210, hx210_0, hx210_1, hx210_2, hx210_3, hx210_4, hx210_5, hx210_6, hx210_7, hl210_1, hi210_1, hl210_7, hi210_7⟩ := at_T25 HR0_7.out x7_2 p210 q210
                          have hw210_7 := hx210_7
                          have hw210_6 := hx210_6
                          have hw210_5 := hx210_5
                          have hw210_4 := hx210_4
                          have hw210_3 := hx210_3
                          have hw210_2 := hx210_2
                          have hw210_1 := hx210_1
                          have hw210_0 := hx210_0
                          cases e210
                          replace hx210_0 := (HB.out.cell (World.block_lt_of_cell? w _ hx210_0)).trans hx210_0
                          replace hx210_1 := (HB.out.cell (World.block_lt_of_cell? w _ hx210_1)).trans hx210_1
                          replace hx210_2 := (HB.out.cell (World.block_lt_of_cell? w _ hx210_2)).trans hx210_2
                          replace hx210_3 := (HB.out.cell (World.block_lt_of_cell? w _ hx210_3)).trans hx210_3
                          replace hx210_4 := (HB.out.cell (World.block_lt_of_cell? w _ hx210_4)).trans hx210_4
                          replace hx210_5 := (HB.out.cell (World.block_lt_of_cell? w _ hx210_5)).trans hx210_5
                          replace hx210_6 := (HB.out.cell (World.block_lt_of_cell? w _ hx210_6)).trans hx210_6
                          replace hx210_7 := (HB.out.cell (World.block_lt_of_cell? w _ hx210_7)).trans hx210_7
                          have HR210_1 := Aside0.mk hi210_1
                          have HC210_1 := Aside0.mk hl210_1
                          clear hi210_1 hl210_1
                          have HR210_7 := Aside0.mk hi210_7
                          have HC210_7 := Aside0.mk hl210_7
                          clear hi210_7 hl210_7
                          replace p210 := eq_true p210
                          replace q210 := eq_true q210
                          have p211 : 0 ≤ (x7_2 : Int) := of_decide_eq_true (by first | (with_reducible assumption) | assumption)
                          have q211 : x7_2 < (l1_7.length : Int) := of_decide_eq_true (by first | (with_reducible assumption) | assumption)
                          obtain ⟨ad211, A211_1, c211_1, A211_7, c211_7, e211, hx211_0, hx211_1, hx211_2, hx211_3, hx211_4, hx211_5, hx211_6, hx211_7, hl211_1, hi211_1, hl211_7, hi211_7⟩ := at_T25 HR1_7.out x7_2 p211 q211
                          have hw211_7 := hx211_7
                          have hw211_6 := hx211_6
                          have hw211_5 := hx211_5
                          have hw211_4 := hx211_4
                          have hw211_3 := hx211_3
                          have hw211_2 := hx211_2
                          have hw211_1 := hx211_1
                          have hw211_0 := hx211_0
                          cases e211
                          replace hx211_0 := (HB.out.cell (World.block_lt_of_cell? w _ hx211_0)).trans hx211_0
                          replace hx211_1 := (HB.out.cell (World.block_lt_of_cell? w _ hx211_1)).trans hx211_1
                          replace hx211_2 := (HB.out.cell (World.block_lt_of_cell? w _ hx211_2)).trans hx211_2
                          replace hx211_3 := (HB.out.cell (World.block_lt_of_cell? w _ hx211_3)).trans hx211_3
                          replace hx211_4 := (HB.out.cell (World.block_lt_of_cell? w _ hx211_4)).trans hx211_4
                          replace hx211_5 := (HB.out.cell (World.block_lt_of_cell? w _ hx211_5)).trans hx211_5
                          replace hx211_6 := (HB.out.cell (World.block_lt_of_cell? w _ hx211_6)).trans hx211_6
                          replace hx211_7 := (HB.out.cell (World.block_lt_of_cell? w _ hx211_7)).trans hx211_7
                          have HR211_1 := Aside0.mk hi211_1
                          have HC211_1 := Aside0.mk hl211_1
                          clear hi211_1 hl211_1
                          have HR211_7 := Aside0.mk hi211_7
                          have HC211_7 := Aside0.mk hl211_7
                          clear hi211_7 hl211_7
                          replace p211 := eq_true p211
                          replace q211 := eq_true q211
                          refine start_ (n := 14) (S := fun w' => w'.cell? ⟨gb207, 0, none⟩ = some (.int .i64 a0_0) ∧ w'.cell? ⟨gb207, 1, none⟩ = some (.slice A0_1 l0_1.length c0_1) ∧ w'.cell? ⟨gb207, 2, none⟩ = some (.int .i64 a0_2) ∧ w'.cell? ⟨gb207, 3, none⟩ = some (.string a0_3) ∧ w'.cell? ⟨gb207, 4, none⟩ = some (.int .i64 a0_4) ∧ w'.cell? ⟨gb207, 5, none⟩ = some (.int .i64 a0_5) ∧ w'.cell? ⟨gb207, 6, none⟩ = some (.bool a0_6) ∧ w'.cell? ⟨gb207, 7, none⟩ = some (.slice (some ad210) l0_7.length c0_7) ∧ w'.cell? ⟨gb208, 0, none⟩ = some (.int .i64 a1_0) ∧ w'.cell? ⟨gb208, 1, none⟩ = some (.slice A1_1 l1_1.length c1_1) ∧ w'.cell? ⟨gb208, 2, none⟩ = some (.int .i64 a1_2) ∧ w'.cell? ⟨gb208, 3, none⟩ = some (.string a1_3) ∧ w'.cell? ⟨gb208, 4, none⟩ = some (.int .i64 a1_4) ∧ w'.cell? ⟨gb208, 5, none⟩ = some (.int .i64 a1_5) ∧ w'.cell? ⟨gb208, 6, none⟩ = some (.bool a1_6) ∧ w'.cell? ⟨gb208, 7, none⟩ = some (.slice (some ad211) l1_7.length c1_7) ∧ w'.cell? (ad210.add ((x7_2).toNat * 8)) = some (.int .i64 ((rd_T25 l0_7 x7_2).f0)) ∧ w'.cell? ⟨(ad210.add ((x7_2).toNat * 8)).block, (ad210.add ((x7_2).toNat * 8)).off + 1, none⟩ = some (.slice A210_1 ((rd_T25 l0_7 x7_2).f1).length c210_1) ∧ w'.cell? ⟨(ad210.add ((x7_2).toNat * 8)).block, (ad210.add ((x7_2).toNat * 8)).off + 2, none⟩ = some (.int .i64 ((rd_T25 l0_7 x7_2).f2)) ∧ w'.cell? ⟨(ad210.add ((x7_2).toNat * 8)).block, (ad210.add ((x7_2).toNat * 8)).off + 3, none⟩ = some (.string ((rd_T25 l0_7 x7_2).f3)) ∧ w'.cell? ⟨(ad210.add ((x7_2).toNat * 8)).block, (ad210.add ((x7_2).toNat * 8)).off + 4, none⟩ = some (.int .i64 ((rd_T25 l0_7 x7_2).f4)) ∧ w'.cell? ⟨(ad210.add ((x7_2).toNat * 8)).block, (ad210.add ((x7_2).toNat * 8)).off + 5, none⟩ = some (.int .i64 ((rd_T25 l0_7 x7_2).f5)) ∧ w'.cell? ⟨(ad210.add ((x7_2).toNat * 8)).block, (ad210.add ((x7_2).toNat * 8)).off + 6, none⟩ = some (.bool ((rd_T25 l0_7 x7_2).f6)) ∧ w'.cell? ⟨(ad210.add ((x7_2).toNat * 8)).block, (ad210.add ((x7_2).toNat * 8)).off + 7, none⟩ = some (.slice A210_7 ((rd_T25 l0_7 x7_2).f7).length c210_7) ∧ w'.cell? (ad211.add ((x7_2).toNat * 8)) = some (.int .i64 ((rd_T25 l1_7 x7_2).f0)) ∧ w'.cell? ⟨(ad211.add ((x7_2).toNat * 8)).block, (ad211.add ((x7_2).toNat * 8)).off + 1, none⟩ = some (.slice A211_1 ((rd_T25 l1_7 x7_2).f1).length c211_1) ∧ w'.cell? ⟨(ad211.add ((x7_2).toNat * 8)).block, (ad211.add ((x7_2).toNat * 8)).off + 2, none⟩ = some (.int .i64 ((rd_T25 l1_7 x7_2).f2)) ∧ w'.cell? ⟨(ad211.add ((x7_2).toNat * 8)).block, (ad211.add ((x7_2).toNat * 8)).off + 3, none⟩ = some (.string ((rd_T25 l1_7 x7_2).f3)) ∧ w'.cell? ⟨(ad211.add ((x7_2).toNat * 8)).block, (ad211.add ((x7_2).toNat * 8)).off + 4, none⟩ = some (.int .i64 ((rd_T25 l1_7 x7_2).f4)) ∧ w'.cell? ⟨(ad211.add ((x7_2).toNat * 8)).block, (ad211.add ((x7_2).toNat * 8)).off + 5, none⟩ = some (.int .i64 ((rd_T25 l1_7 x7_2).f5)) ∧ w'.cell? ⟨(ad211.add ((x7_2).toNat * 8)).block, (ad211.add ((x7_2).toNat * 8)).off + 6, none⟩ = some (.bool ((rd_T25 l1_7 x7_2).f6)) ∧ w'.cell? ⟨(ad211.add ((x7_2).toNat * 8)).block, (ad211.add ((x7_2).toNat * 8)).off + 7, none⟩ = some (.slice A211_7 ((rd_T25 l1_7 x7_2).f7).length c211_7)) (ds := []) #[false, false, false, false, false, false, false, false, false, false, false, false, false, false] (by kernel_rfl) rfl rfl ⟨(blk_cell BK207.out 0).trans rfl, (blk_cell BK207.out 1).trans rfl, (blk_cell BK207.out 2).trans rfl, (blk_cell BK207.out 3).trans rfl, (blk_cell BK207.out 4).trans rfl, (blk_cell BK207.out 5).trans rfl, (blk_cell BK207.out 6).trans rfl, (blk_cell BK207.out 7).trans rfl, (blk_cell BK208.out 0).trans rfl, (blk_cell BK208.out 1).trans rfl, (blk_cell BK208.out 2).trans rfl, (blk_cell BK208.out 3).trans rfl, (blk_cell BK208.out 4).trans rfl, (blk_cell BK208.out 5).trans rfl, (blk_cell BK208.out 6).trans rfl, (blk_cell BK208.out 7).trans rfl, ((HB.out.cell (World.block_lt_of_cell? w _ hw210_0)).trans hw210_0), ((HB.out.cell (World.block_lt_of_cell? w _ hw210_1)).trans hw210_1), ((HB.out.cell (World.block_lt_of_cell? w _ hw210_2)).trans hw210_2), ((HB.out.cell (World.block_lt_of_cell? w _ hw210_3)).trans hw210_3), ((HB.out.cell (World.block_lt_of_cell? w _ hw210_4)).trans hw210_4), ((HB.out.cell (World.block_lt_of_cell? w _ hw210_5)).trans hw210_5), ((HB.out.cell (World.block_lt_of_cell? w _ hw210_6)).trans hw210_6), ((HB.out.cell (World.block_lt_of_cell? w _ hw210_7)).trans hw210_7), ((HB.out.cell (World.block_lt_of_cell? w _ hw211_0)).trans hw211_0), ((HB.out.cell (World.block_lt_of_cell? w _ hw211_1)).trans hw211_1), ((HB.out.cell (World.block_lt_of_cell? w _ hw211_2)).trans hw211_2), ((HB.out.cell (World.block_lt_of_cell? w _ hw211_3)).trans hw211_3), ((HB.out.cell (World.block_lt_of_cell? w _ hw211_4)).trans hw211_4), ((HB.out.cell (World.block_lt_of_cell? w _ hw211_5)).trans hw211_5), ((HB.out.cell (World.block_lt_of_cell? w _ hw211_6)).trans hw211_6), ((HB.out.cell (World.block_lt_of_cell? w _ hw211_7)).trans hw211_7)⟩ (fun hHeld => ?_); refine with_tabW burinbook_SameNode.tab6 burinbook_SameNode.bits6 (fun HT_ HW_ => ?_)
                          generalize wc.drew = w56 at BK207 BK208 HB HR210_1 HR210_7 HR211_1 HR211_7 hx210_0 hx210_1 hx210_2 hx210_3 hx210_4 hx210_5 hx210_6 hx210_7 hx211_0 hx211_1 hx211_2 hx211_3 hx211_4 hx211_5 hx211_6 hx211_7 hHeld ⊢
                          refine pure_ (i := 0) (N := some 83) (v := ?_) (a' := ?_) #[true, false, false, false, false, false, false, false, false, false, false, false, false, false] rfl rfl (any_of HT_.out (by kernel_rfl)) (fun _ _ _ h => h) (Or.inl ⟨by rfl, ?_⟩) ?_ ?_
                          rotate_left
                          · intro w'
                            go_simp
                            with_reducible rfl
                          rotate_left
                          · simp only [Act.put, List.setIfInBounds_toArray, List.set_cons_zero, List.set_cons_succ, i64_w, i32_w]
                            rfl
                          refine pure_ (i := 2) (N := some 85) (v := ?_) (a' := ?_) #[true, false, true, false, false, false, false, false, false, false, false, false, false, false] rfl rfl (any_of HT_.out (by kernel_rfl)) (fun _ _ _ h => h) (Or.inl ⟨by rfl, ?_⟩) ?_ ?_
                          rotate_left
                          · intro w'
                            go_simp
                            with_reducible rfl
                          rotate_left
                          · simp only [Act.put, List.setIfInBounds_toArray, List.set_cons_zero, List.set_cons_succ, i64_w, i32_w]
                            rfl
                          refine pure_ (i := 5) (N := some 88) (v := ?_) (a' := ?_) #[true, false, true, false, false, true, false, false, false, false, false, false, false, false] rfl rfl (any_of HT_.out (by kernel_rfl)) (fun _ _ _ h => h) (Or.inl ⟨by rfl, ?_⟩) ?_ ?_
                          rotate_left
                          · intro w'
                            go_simp
                            with_reducible rfl
                          rotate_left
                          · simp only [Act.put, List.setIfInBounds_toArray, List.set_cons_zero, List.set_cons_succ, i64_w, i32_w]
                            rfl
                          refine pure_ (i := 7) (N := some 90) (v := ?_) (a' := ?_) #[true, false, true, false, false, true, false, true, false, false, false, false, false, false] rfl rfl (any_of HT_.out (by kernel_rfl)) (fun _ _ _ h => h) (Or.inl ⟨by rfl, ?_⟩) ?_ ?_
                          rotate_left
                          · intro w'
                            go_simp
                            with_reducible rfl
                          rotate_left
                          · simp only [Act.put, List.setIfInBounds_toArray, List.set_cons_zero, List.set_cons_succ, i64_w, i32_w]
                            rfl
                          refine pure_ (i := 10) (N := some 93) (v := ?_) (a' := ?_) #[true, false, true, false, false, true, false, true, false, false, true, false, false, false] rfl rfl (any_of HT_.out (by kernel_rfl)) (fun _ _ _ h => h) (Or.inl ⟨by rfl, ?_⟩) ?_ ?_
                          rotate_left
                          · intro w'
                            go_simp
                            with_reducible rfl
                          rotate_left
                          · simp only [Act.put, List.setIfInBounds_toArray, List.set_cons_zero, List.set_cons_succ, i64_w, i32_w]
                            rfl
                          refine pure_ (i := 11) (N := some 94) (v := ?_) (a' := ?_) #[true, false, true, false, false, true, false, true, false, false, true, true, false, false] rfl rfl (any_of HT_.out (by kernel_rfl)) (fun _ _ _ h => h) (Or.inl ⟨by rfl, ?_⟩) ?_ ?_
                          rotate_left
                          · intro w'
                            go_simp
                            with_reducible rfl
                          rotate_left
                          · simp only [Act.put, List.setIfInBounds_toArray, List.set_cons_zero, List.set_cons_succ, i64_w, i32_w]
                            rfl
                          refine take_ (i := 1) (N := some 84) (v := ?_) (a' := ?_) #[true, true, true, false, false, true, false, true, false, false, true, true, false, false] rfl rfl (take_ofW HT_.out HW_.out (by kernel_rfl)) (fun _ _ _ h => h) (Or.inl ⟨by rfl, ?_⟩) hHeld ?_ ?_
                          rotate_left
                          · rintro w' ⟨s0, s1, s2, s3, s4, s5, s6, s7, s8, s9, s10, s11, s12, s13, s14, s15, s16, s17, s18, s19, s20, s21, s22, s23, s24, s25, s26, s27, s28, s29, s30, s31⟩
                            go_simp
                            with_reducible rfl
                          rotate_left
                          · simp only [Act.put, List.setIfInBounds_toArray, List.set_cons_zero, List.set_cons_succ, i64_w, i32_w]
                            rfl
                          refine pure_ (i := 3) (N := some 86) (v := ?_) (a' := ?_) #[true, true, true, true, false, true, false, true, false, false, true, true, false, false] rfl rfl (any_of HT_.out (by kernel_rfl)) (fun _ _ _ h => h) (Or.inl ⟨by rfl, ?_⟩) ?_ ?_
                          rotate_left
                          · intro w'
                            go_simp
                            with_reducible rfl
                          rotate_left
                          · simp only [Act.put, List.setIfInBounds_toArray, List.set_cons_zero, List.set_cons_succ, i64_w, i32_w]
                            rfl
                          refine take_ (i := 4) (N := some 87) (v := ?_) (a' := ?_) #[true, true, true, true, true, true, false, true, false, false, true, true, false, false] rfl rfl (take_ofW HT_.out HW_.out (by kernel_rfl)) (fun _ _ _ h => h) (Or.inl ⟨by rfl, ?_⟩) hHeld ?_ ?_
                          rotate_left
                          · rintro w' ⟨s0, s1, s2, s3, s4, s5, s6, s7, s8, s9, s10, s11, s12, s13, s14, s15, s16, s17, s18, s19, s20, s21, s22, s23, s24, s25, s26, s27, s28, s29, s30, s31⟩
                            go_simp
                            with_reducible rfl
                          rotate_left
                          · simp only [Act.put, List.setIfInBounds_toArray, List.set_cons_zero, List.set_cons_succ, i64_w, i32_w]
                            rfl
                          refine take_ (i := 6) (N := some 89) (v := ?_) (a' := ?_) #[true, true, true, true, true, true, true, true, false, false, true, true, false, false] rfl rfl (take_ofW HT_.out HW_.out (by kernel_rfl)) (fun _ _ _ h => h) (Or.inl ⟨by rfl, ?_⟩) hHeld ?_ ?_
                          rotate_left
                          · rintro w' ⟨s0, s1, s2, s3, s4, s5, s6, s7, s8, s9, s10, s11, s12, s13, s14, s15, s16, s17, s18, s19, s20, s21, s22, s23, s24, s25, s26, s27, s28, s29, s30, s31⟩
                            go_simp
                            with_reducible rfl
                          rotate_left
                          · simp only [Act.put, List.setIfInBounds_toArray, List.set_cons_zero, List.set_cons_succ, i64_w, i32_w]
                            rfl
                          refine pure_ (i := 8) (N := some 91) (v := ?_) (a' := ?_) #[true, true, true, true, true, true, true, true, true, false, true, true, false, false] rfl rfl (any_of HT_.out (by kernel_rfl)) (fun _ _ _ h => h) (Or.inl ⟨by rfl, ?_⟩) ?_ ?_
                          rotate_left
                          · intro w'
                            go_simp
                            with_reducible rfl
                          rotate_left
                          · simp only [Act.put, List.setIfInBounds_toArray, List.set_cons_zero, List.set_cons_succ, i64_w, i32_w]
                            rfl
                          refine take_ (i := 9) (N := some 92) (v := ?_) (a' := ?_) #[true, true, true, true, true, true, true, true, true, true, true, true, false, false] rfl rfl (take_ofW HT_.out HW_.out (by kernel_rfl)) (fun _ _ _ h => h) (Or.inl ⟨by rfl, ?_⟩) hHeld ?_ ?_
                          rotate_left
                          · rintro w' ⟨s0, s1, s2, s3, s4, s5, s6, s7, s8, s9, s10, s11, s12, s13, s14, s15, s16, s17, s18, s19, s20, s21, s22, s23, s24, s25, s26, s27, s28, s29, s30, s31⟩
                            go_simp
                            with_reducible rfl
                          rotate_left
                          · simp only [Act.put, List.setIfInBounds_toArray, List.set_cons_zero, List.set_cons_succ, i64_w, i32_w]
                            rfl
                          refine one_ (i := 12) (N := some 95) #[true, true, true, true, true, true, true, true, true, true, true, true, true, false] rfl rfl (one_of HT_.out (by kernel_rfl)) (by decide) (fun K hK => ?_)
                          refine goes_ Try.func50 (by kernel_rfl) rfl #[.agg #[.int .i64 ((rd_T25 l0_7 x7_2).f0), .slice A210_1 ((rd_T25 l0_7 x7_2).f1).length c210_1, .int .i64 ((rd_T25 l0_7 x7_2).f2), .string ((rd_T25 l0_7 x7_2).f3), .int .i64 ((rd_T25 l0_7 x7_2).f4), .int .i64 ((rd_T25 l0_7 x7_2).f5), .bool ((rd_T25 l0_7 x7_2).f6), .slice A210_7 ((rd_T25 l0_7 x7_2).f7).length c210_7], .agg #[.int .i64 ((rd_T25 l1_7 x7_2).f0), .slice A211_1 ((rd_T25 l1_7 x7_2).f1).length c211_1, .int .i64 ((rd_T25 l1_7 x7_2).f2), .string ((rd_T25 l1_7 x7_2).f3), .int .i64 ((rd_T25 l1_7 x7_2).f4), .int .i64 ((rd_T25 l1_7 x7_2).f5), .bool ((rd_T25 l1_7 x7_2).f6), .slice A211_7 ((rd_T25 l1_7 x7_2).f7).length c211_7], .int .i64 (wrap64 (a2 - 1))] (by rfl) rfl rfl (by (try simp only [List.map_toArray, List.map_cons, List.map_nil]); first | done | rfl | (simp only [List.length_drop, List.length_take]; rfl)) ?_
                          with_reducible refine (ih kj40 (by have := HJ3.out; have := HK2.out; have := HJ40.out; omega) ((rd_T25 l0_7 x7_2).f0) _ _ ((rd_T25 l0_7 x7_2).f1) ((rd_T25 l0_7 x7_2).f2) ((rd_T25 l0_7 x7_2).f3) ((rd_T25 l0_7 x7_2).f4) ((rd_T25 l0_7 x7_2).f5) ((rd_T25 l0_7 x7_2).f6) _ _ ((rd_T25 l0_7 x7_2).f7) ((rd_T25 l1_7 x7_2).f0) _ _ ((rd_T25 l1_7 x7_2).f1) ((rd_T25 l1_7 x7_2).f2) ((rd_T25 l1_7 x7_2).f3) ((rd_T25 l1_7 x7_2).f4) ((rd_T25 l1_7 x7_2).f5) ((rd_T25 l1_7 x7_2).f6) _ _ ((rd_T25 l1_7 x7_2).f7) (wrap64 (a2 - 1)) false _ ?side1 ?side2 ?side3 ?side4 ?side5 ?side6 ?side7 ?side8 A52.out).mono ?_
                          (case side1 => repeat (first | exact (Kd.C_below HR210_1.out HB.out) | (with_reducible refine Kd.C_alloc ?_ _) | (with_reducible refine Kd.C_drewN ?_ _) | (with_reducible refine Kd.C_drew ?_)))
                          (case side2 => exact HC210_1.out)
                          (case side3 => repeat (first | exact (Kd.C_below HR210_7.out HB.out) | (with_reducible refine Kd.C_alloc ?_ _) | (with_reducible refine Kd.C_drewN ?_ _) | (with_reducible refine Kd.C_drew ?_)))
                          (case side4 => exact HC210_7.out)
                          (case side5 => repeat (first | exact (Kd.C_below HR211_1.out HB.out) | (with_reducible refine Kd.C_alloc ?_ _) | (with_reducible refine Kd.C_drewN ?_ _) | (with_reducible refine Kd.C_drew ?_)))
                          (case side6 => exact HC211_1.out)
                          (case side7 => repeat (first | exact (Kd.C_below HR211_7.out HB.out) | (with_reducible refine Kd.C_alloc ?_ _) | (with_reducible refine Kd.C_drewN ?_ _) | (with_reducible refine Kd.C_drew ?_)))
                          (case side8 => exact HC211_7.out)
                          rintro e w57 ⟨rfl, hb⟩
                          refine ⟨_, rfl, ?_⟩
                          have n0_ := Aside0.mk (blk_below (g := gb207) (o := .cells #[.int .i64 a0_0, .slice A0_1 l0_1.length c0_1, .int .i64 a0_2, .string a0_3, .int .i64 a0_4, .int .i64 a0_5, .bool a0_6, .slice (some ad210) l0_7.length c0_7] 25 (0, 0)) (by (with_reducible repeat (first | refine blk_drewN ?_ _ | refine blk_drew ?_ | refine blk_alloc ?_ _)); exact BK207.out) hb)
                          have n1_ := Aside0.mk (blk_below (g := gb208) (o := .cells #[.int .i64 a1_0, .slice A1_1 l1_1.length c1_1, .int .i64 a1_2, .string a1_3, .int .i64 a1_4, .int .i64 a1_5, .bool a1_6, .slice (some ad211) l1_7.length c1_7] 25 (0, 0)) (by (with_reducible repeat (first | refine blk_drewN ?_ _ | refine blk_drew ?_ | refine blk_alloc ?_ _)); exact BK208.out) hb)
                          have n2_ := Aside0.mk (below_step (by repeat (first | (with_reducible first | exact HB.out | apply below_alloc | apply pw_below_drewN | apply below_drew1 | refine below_set ?_ GE207.out | refine below_set ?_ GE208.out) | exact HB.out)) hb)
                          clear BK207
                          clear BK208
                          clear HB
                          have BK207 := n0_
                          have BK208 := n1_
                          have HB := n2_
                          clear n0_ n1_ n2_
                          (try clear hb)
                          (try clear hb2)
                          (try clear hk)
                          (try clear hi)
                          refine hK.out _ _ ⟨(blk_cell BK207.out 0).trans rfl, (blk_cell BK207.out 1).trans rfl, (blk_cell BK207.out 2).trans rfl, (blk_cell BK207.out 3).trans rfl, (blk_cell BK207.out 4).trans rfl, (blk_cell BK207.out 5).trans rfl, (blk_cell BK207.out 6).trans rfl, (blk_cell BK207.out 7).trans rfl, (blk_cell BK208.out 0).trans rfl, (blk_cell BK208.out 1).trans rfl, (blk_cell BK208.out 2).trans rfl, (blk_cell BK208.out 3).trans rfl, (blk_cell BK208.out 4).trans rfl, (blk_cell BK208.out 5).trans rfl, (blk_cell BK208.out 6).trans rfl, (blk_cell BK208.out 7).trans rfl, ((HB.out.cell (World.block_lt_of_cell? w _ hw210_0)).trans hw210_0), ((HB.out.cell (World.block_lt_of_cell? w _ hw210_1)).trans hw210_1), ((HB.out.cell (World.block_lt_of_cell? w _ hw210_2)).trans hw210_2), ((HB.out.cell (World.block_lt_of_cell? w _ hw210_3)).trans hw210_3), ((HB.out.cell (World.block_lt_of_cell? w _ hw210_4)).trans hw210_4), ((HB.out.cell (World.block_lt_of_cell? w _ hw210_5)).trans hw210_5), ((HB.out.cell (World.block_lt_of_cell? w _ hw210_6)).trans hw210_6), ((HB.out.cell (World.block_lt_of_cell? w _ hw210_7)).trans hw210_7), ((HB.out.cell (World.block_lt_of_cell? w _ hw211_0)).trans hw211_0), ((HB.out.cell (World.block_lt_of_cell? w _ hw211_1)).trans hw211_1), ((HB.out.cell (World.block_lt_of_cell? w _ hw211_2)).trans hw211_2), ((HB.out.cell (World.block_lt_of_cell? w _ hw211_3)).trans hw211_3), ((HB.out.cell (World.block_lt_of_cell? w _ hw211_4)).trans hw211_4), ((HB.out.cell (World.block_lt_of_cell? w _ hw211_5)).trans hw211_5), ((HB.out.cell (World.block_lt_of_cell? w _ hw211_6)).trans hw211_6), ((HB.out.cell (World.block_lt_of_cell? w _ hw211_7)).trans hw211_7)⟩ (fun hHeld => ?_)
                          clear hK K
                          refine norm_ (a' := ?_) ?_ ?_
                          rotate_left
                          · show Act.put _ (some 95) _ = _
                            simp only [Act.put, List.setIfInBounds_toArray, List.set_cons_zero, List.set_cons_succ, i64_w, i32_w]
                            rfl
                          refine pure_ (i := 13) (N := some 96) (v := ?_) (a' := ?_) #[true, true, true, true, true, true, true, true, true, true, true, true, true, true] rfl rfl (any_of HT_.out (by kernel_rfl)) (fun _ _ _ h => h) (Or.inl ⟨by rfl, ?_⟩) ?_ ?_
                          rotate_left
                          · intro w'
                            go_simp
                            with_reducible rfl
                          rotate_left
                          · simp only [Act.put, List.setIfInBounds_toArray, List.set_cons_zero, List.set_cons_succ, i64_w, i32_w]
                            rfl
                          refine done_ (done_of HT_.out (by kernel_rfl)) ?_
                          try go_wp2
                          go_ret
                          exact ⟨by first | rfl | (simp [errW_none, errW_some] <;> rfl) | (simp [*, errW_none, errW_some] <;> rfl), by repeat (first | (with_reducible first | exact HB.out | apply below_alloc | apply pw_below_drewN | apply below_drew1 | refine below_set ?_ GE207.out | refine below_set ?_ GE208.out) | exact HB.out)⟩
                      · rw [if_neg c51] at H
                        exact absurd H (by simp)
                    · rw [if_neg c50] at H
                      exact absurd H (by simp)
                  · rw [if_neg c49] at H
                    exact absurd H (by simp)
                · replace c48 := Bool.eq_false_iff.mpr c48
                  subst c48
                  have H1 : (some true) = some r := by rw [if_neg (show ¬ (false = true) by decide)] at H; exact H
                  clear H
                  have H := H1
                  clear H1
                  obtain rfl := Option.some.inj H
                  go_wp2
                  go_ret
                  exact ⟨by first | rfl | (simp [errW_none, errW_some] <;> rfl) | (simp [*, errW_none, errW_some] <;> rfl), by repeat (first | (with_reducible first | exact HB.out | apply below_alloc | apply pw_below_drewN | apply below_drew1 | refine below_set ?_ GE207.out | refine below_set ?_ GE208.out) | exact HB.out)⟩

end Go.Proofs.Ytojlhlepneefoaa.PAll
