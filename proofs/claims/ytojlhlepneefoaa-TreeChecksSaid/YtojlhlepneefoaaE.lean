/- Package tree: the walk of fits. -/
import Derived.Test.YtojlhlepneefoaaD
namespace Go.Proofs.Ytojlhlepneefoaa
open Go.RowKit PAll Go.Proofs.YtojlhlepneefoaaW.PrintWords Go.Proofs.YtojlhlepneefoaaW.PrintLast Go.Proofs.YtojlhlepneefoaaW.PrintMore
open Go.Shelf
set_option linter.unusedVariables false
set_option linter.unusedSimpArgs false

theorem ltC {w : World} {A : Option Addr} {l : List S103} (h : Kd.C k103 w A l.length l) : l.length ≤ 9223372036854775807 := h.2.1
set_option maxRecDepth 100000 in
set_option maxHeartbeats 8000000 in
theorem fits_a (kd : Int) (A1 : Option Addr) (c1 : Nat) (set : List S103) (num : Int) (nm : ByteArray) (mn mx : Int) (lz : Bool) (A7 : Option Addr) (c7 : Nat) (subs : List S25) (w : World) (h1 : Kd.C k103 w A1 set.length set) (l1 : set.length ≤ c1) (h7 : Kd.C k25 w A7 subs.length subs) (l7 : subs.length ≤ c7)
    (hk : kd = 1 ∨ kd = 2 ∨ kd = 4) :
    Calls Try.prog 68 #[.agg #[.int .i64 kd, .slice A1 set.length c1, .int .i64 num, .string nm, .int .i64 mn, .int .i64 mx, .bool lz, .slice A7 subs.length c7]] w fun e w' => e = .returned (.bool (fitsN kd set num nm mn mx lz subs)) ∧ Kp [] w w' := by
  have hv : fitsN kd set num nm mn mx lz subs = bareB set num nm mn mx lz subs := by rw [fitsN, if_pos hk]
  have CB := Lib.hid (fun W g1 g7 => bare_calls kd A1 c1 set num nm mn mx lz A7 c7 subs W g1 l1 g7 l7)
  have kk := ((Kp.refl [] w).alloc (.cells #[.int .i64 kd, .slice A1 set.length c1, .int .i64 num, .string nm, .int .i64 mn, .int .i64 mx, .bool lz, .slice A7 subs.length c7] 25)).alloc (.cells #[.int .i64 kd, .slice A1 set.length c1, .int .i64 num, .string nm, .int .i64 mn, .int .i64 mx, .bool lz, .slice A7 subs.length c7] 25)
  have H1 := Lib.hid (Kd.C_below h1 kk.bel)
  have H7 := Lib.hid (Kd.C_below h7 kk.bel)
  rw [hv]
  replace hv := Lib.hid hv
  rcases hk with rfl | rfl | rfl
  all_goals
    go_enter Try.func68, Try.ntmps68
    go_wp2_with (go_at_call 96; refine (CB.out _ H1.out H7.out).mono ?_; rintro e w1 ⟨rfl, k1⟩; replace kk := kk.trans k1)
    go_ret
    exact ⟨rfl, kk⟩
theorem nil103 (w : World) : Kd.C k103 w none 0 [] := ⟨rfl, by omega, fun h => absurd h (by omega)⟩
theorem nil25 (w : World) : Kd.C k25 w none 0 [] := ⟨rfl, by omega, fun h => absurd h (by omega)⟩
set_option maxRecDepth 100000 in
set_option maxHeartbeats 8000000 in
theorem fits_3 (A1 : Option Addr) (c1 : Nat) (set : List S103) (num : Int) (nm : ByteArray) (mn mx : Int) (lz : Bool) (A7 : Option Addr) (c7 : Nat) (subs : List S25) (w : World) (h1 : Kd.C k103 w A1 set.length set) (l1 : set.length ≤ c1) (h7 : Kd.C k25 w A7 subs.length subs) (l7 : subs.length ≤ c7) (hl : set.length ≤ 9223372036854775807) :
    Calls Try.prog 68 #[.agg #[.int .i64 3, .slice A1 set.length c1, .int .i64 num, .string nm, .int .i64 mn, .int .i64 mx, .bool lz, .slice A7 subs.length c7]] w fun e w' => e = .returned (.bool (fitsN 3 set num nm mn mx lz subs)) ∧ Kp [] w w' := by
  have CB : Hid (∀ W, Kp [] w W → Calls Try.prog 96 #[.agg #[.int .i64 3, .slice none 0 0, .int .i64 num, .string nm, .int .i64 mn, .int .i64 mx, .bool lz, .slice A7 subs.length c7]] W fun e w' => e = .returned (.bool (bareB [] num nm mn mx lz subs)) ∧ Kp [] w w') := fun W k => (bare_calls 3 none 0 [] num nm mn mx lz A7 c7 subs W (nil103 W) (Nat.le_refl _) (Kd.C_below h7 k.bel) l7).mono fun e w' ⟨he, hk⟩ => ⟨he, k.trans hk⟩
  have RC : Hid (∀ W, Kp [] w W → Calls Try.prog 95 #[.slice A1 set.length c1] W fun e w' => e = .returned (.int .i64 (chkR (-2) set)) ∧ Kp [] W w' ∧ Kp [] w w') := fun W k => (ranges_calls A1 c1 set W (Kd.C_below h1 k.bel) l1 hl).mono fun e w' ⟨he, hk⟩ => ⟨he, hk, k.trans hk⟩
  have hv : fitsN 3 set num nm mn mx lz subs = (!(decide (set.length = 0)) && (decide (chkR (-2) set = 0) && bareB [] num nm mn mx lz subs)) := rfl
  rw [hv]
  by_cases hz : set.length = 0
  · have dz : ((set.length : Int) == 0) = true := by rw [beq_iff_eq]; omega
    rw [decide_eq_true hz]
    replace hz := Lib.hid hz
    go_enter Try.func68, Try.ntmps68
    go_wp2
    go_ret
    exact ⟨rfl, by first | exact kk | exact ((Kp.refl [] w).alloc _).alloc _ | exact (((Kp.refl [] w).alloc _).alloc _).setNew (by simp) _⟩
  · have dz : ((set.length : Int) == 0) = false := by rw [beq_eq_false_iff_ne]; omega
    rw [decide_eq_false hz]
    rcases chkR_cases (-2) set with hc | hc | hc
    all_goals
      rw [hc] at RC ⊢
      replace hc := Lib.hid hc
      go_enter Try.func68, Try.ntmps68
      go_wp2_with (first | (go_at_call 95; refine (RC.out _ (by first | exact ((Kp.refl [] w).alloc _).alloc _ | exact (((Kp.refl [] w).alloc _).alloc _).setNew (by simp) _ | exact ((((Kp.refl [] w).alloc _).alloc _).setNew (by simp) _).setNew (by simp) _ | exact (((((Kp.refl [] w).alloc _).alloc _).setNew (by simp) _).setNew (by simp) _).setNew (by simp) _)).mono ?_; rintro e w1 ⟨rfl, k1, kk⟩; have hb := kblk k1 (new_at _ _ (w.heap.size + 1) (by simp)); have y0 := cellB hb 0; have y1 := cellB hb 1; have y2 := cellB hb 2; have y3 := cellB hb 3; have y4 := cellB hb 4; have y5 := cellB hb 5; have y6 := cellB hb 6; have y7 := cellB hb 7; simp at y0 y1 y2 y3 y4 y5 y6 y7) | (go_at_call 96; refine (CB.out _ kk).mono ?_; rintro e w2 ⟨rfl, kk2⟩))
      go_ret
      first
        | exact ⟨by simp, kk2⟩
        | exact ⟨by simp, kk⟩
set_option maxRecDepth 100000 in
set_option maxHeartbeats 8000000 in
theorem fits_5 (A1 : Option Addr) (c1 : Nat) (set : List S103) (num : Int) (nm : ByteArray) (mn mx : Int) (lz : Bool) (A7 : Option Addr) (c7 : Nat) (subs : List S25) (w : World) (h1 : Kd.C k103 w A1 set.length set) (l1 : set.length ≤ c1) (h7 : Kd.C k25 w A7 subs.length subs) (l7 : subs.length ≤ c7) :
    Calls Try.prog 68 #[.agg #[.int .i64 5, .slice A1 set.length c1, .int .i64 num, .string nm, .int .i64 mn, .int .i64 mx, .bool lz, .slice A7 subs.length c7]] w fun e w' => e = .returned (.bool (fitsN 5 set num nm mn mx lz subs)) ∧ Kp [] w w' := by
  have CB : Hid (∀ W, Kp [] w W → Calls Try.prog 96 #[.agg #[.int .i64 5, .slice A1 set.length c1, .int .i64 0, .string nm, .int .i64 mn, .int .i64 mx, .bool lz, .slice A7 subs.length c7]] W fun e w' => e = .returned (.bool (bareB set 0 nm mn mx lz subs)) ∧ Kp [] w w') := fun W k => (bare_calls 5 A1 c1 set 0 nm mn mx lz A7 c7 subs W (Kd.C_below h1 k.bel) l1 (Kd.C_below h7 k.bel) l7).mono fun e w' ⟨he, hk⟩ => ⟨he, k.trans hk⟩
  have hv : fitsN 5 set num nm mn mx lz subs = (decide (1 ≤ num) && (decide (num ≤ 6) && bareB set 0 nm mn mx lz subs)) := rfl
  rw [hv]
  by_cases a1 : 1 ≤ num
  · have d1 : decide (num < 1) = false := decide_eq_false (by omega)
    rw [decide_eq_true a1]
    by_cases a2 : num ≤ 6
    · have d2 : decide (6 < num) = false := decide_eq_false (by omega)
      rw [decide_eq_true a2]
      go_enter Try.func68, Try.ntmps68
      go_wp2_with (go_at_call 96; refine (CB.out _ (by first | exact ((Kp.refl [] w).alloc _).alloc _ | exact (((Kp.refl [] w).alloc _).alloc _).setNew (by simp) _ | exact ((((Kp.refl [] w).alloc _).alloc _).setNew (by simp) _).setNew (by simp) _ | exact (((((Kp.refl [] w).alloc _).alloc _).setNew (by simp) _).setNew (by simp) _).setNew (by simp) _)).mono ?_; rintro e w2 ⟨rfl, kk⟩)
      go_ret
      exact ⟨by simp, kk⟩
    · have d2 : decide (6 < num) = true := decide_eq_true (by omega)
      rw [decide_eq_false a2]
      go_enter Try.func68, Try.ntmps68
      go_wp2
      go_ret
      exact ⟨by simp, by first | exact ((Kp.refl [] w).alloc _).alloc _ | exact (((Kp.refl [] w).alloc _).alloc _).setNew (by simp) _ | exact ((((Kp.refl [] w).alloc _).alloc _).setNew (by simp) _).setNew (by simp) _ | exact (((((Kp.refl [] w).alloc _).alloc _).setNew (by simp) _).setNew (by simp) _).setNew (by simp) _⟩
  · have d1 : decide (num < 1) = true := decide_eq_true (by omega)
    rw [decide_eq_false a1]
    go_enter Try.func68, Try.ntmps68
    go_wp2
    go_ret
    exact ⟨by simp, by first | exact ((Kp.refl [] w).alloc _).alloc _ | exact (((Kp.refl [] w).alloc _).alloc _).setNew (by simp) _ | exact ((((Kp.refl [] w).alloc _).alloc _).setNew (by simp) _).setNew (by simp) _ | exact (((((Kp.refl [] w).alloc _).alloc _).setNew (by simp) _).setNew (by simp) _).setNew (by simp) _⟩
set_option maxRecDepth 100000 in
set_option maxHeartbeats 8000000 in
theorem fits_78 (kd : Int) (hk : kd = 7 ∨ kd = 8) (A1 : Option Addr) (c1 : Nat) (set : List S103) (num : Int) (nm : ByteArray) (mn mx : Int) (lz : Bool) (A7 : Option Addr) (c7 : Nat) (subs : List S25) (w : World) (h1 : Kd.C k103 w A1 set.length set) (l1 : set.length ≤ c1) (h7 : Kd.C k25 w A7 subs.length subs) (l7 : subs.length ≤ c7) :
    Calls Try.prog 68 #[.agg #[.int .i64 kd, .slice A1 set.length c1, .int .i64 num, .string nm, .int .i64 mn, .int .i64 mx, .bool lz, .slice A7 subs.length c7]] w fun e w' => e = .returned (.bool (fitsN kd set num nm mn mx lz subs)) ∧ Kp [] w w' := by
  have CB : Hid (∀ W, Kp [] w W → Calls Try.prog 96 #[.agg #[.int .i64 kd, .slice A1 set.length c1, .int .i64 num, .string nm, .int .i64 mn, .int .i64 mx, .bool lz, .slice none 0 0]] W fun e w' => e = .returned (.bool (bareB set num nm mn mx lz [])) ∧ Kp [] w w') := fun W k => (bare_calls kd A1 c1 set num nm mn mx lz none 0 [] W (Kd.C_below h1 k.bel) l1 (nil25 W) (Nat.le_refl _)).mono fun e w' ⟨he, hk⟩ => ⟨he, k.trans hk⟩
  have hv : fitsN kd set num nm mn mx lz subs = (decide (2 ≤ subs.length) && bareB set num nm mn mx lz []) := by rcases hk with rfl | rfl <;> rfl
  rw [hv]
  replace hv := Lib.hid hv
  by_cases a1 : 2 ≤ subs.length
  · have d1 : decide ((subs.length : Int) < 2) = false := decide_eq_false (by omega)
    rw [decide_eq_true a1]
    rcases hk with rfl | rfl
    all_goals
      go_enter Try.func68, Try.ntmps68
      go_wp2_with (go_at_call 96; refine (CB.out _ (by first | exact ((Kp.refl [] w).alloc _).alloc _ | exact (((Kp.refl [] w).alloc _).alloc _).setNew (by simp) _ | exact ((((Kp.refl [] w).alloc _).alloc _).setNew (by simp) _).setNew (by simp) _ | exact (((((Kp.refl [] w).alloc _).alloc _).setNew (by simp) _).setNew (by simp) _).setNew (by simp) _)).mono ?_; rintro e w2 ⟨rfl, kk⟩)
      go_ret
      exact ⟨by simp, kk⟩
  · have d1 : decide ((subs.length : Int) < 2) = true := decide_eq_true (by omega)
    rw [decide_eq_false a1]
    rcases hk with rfl | rfl
    all_goals
      go_enter Try.func68, Try.ntmps68
      go_wp2
      go_ret
      exact ⟨by simp, by first | exact ((Kp.refl [] w).alloc _).alloc _ | exact (((Kp.refl [] w).alloc _).alloc _).setNew (by simp) _ | exact ((((Kp.refl [] w).alloc _).alloc _).setNew (by simp) _).setNew (by simp) _ | exact (((((Kp.refl [] w).alloc _).alloc _).setNew (by simp) _).setNew (by simp) _).setNew (by simp) _⟩
set_option maxRecDepth 100000 in
set_option maxHeartbeats 8000000 in
theorem fits_no (kd : Int) (hk : kd < 1 ∨ 9 < kd) (A1 : Option Addr) (c1 : Nat) (set : List S103) (num : Int) (nm : ByteArray) (mn mx : Int) (lz : Bool) (A7 : Option Addr) (c7 : Nat) (subs : List S25) (w : World) (h1 : Kd.C k103 w A1 set.length set) (l1 : set.length ≤ c1) (h7 : Kd.C k25 w A7 subs.length subs) (l7 : subs.length ≤ c7) :
    Calls Try.prog 68 #[.agg #[.int .i64 kd, .slice A1 set.length c1, .int .i64 num, .string nm, .int .i64 mn, .int .i64 mx, .bool lz, .slice A7 subs.length c7]] w fun e w' => e = .returned (.bool (fitsN kd set num nm mn mx lz subs)) ∧ Kp [] w w' := by
  have hv : fitsN kd set num nm mn mx lz subs = false := by
    unfold fitsN
    rw [if_neg (by omega), if_neg (by omega), if_neg (by omega), if_neg (by omega), if_neg (by omega), if_neg (by omega)]
  rw [hv]
  replace hv := Lib.hid hv
  have e1 : (kd == 1) = false := by rw [beq_eq_false_iff_ne]; omega
  have e2 : (kd == 2) = false := by rw [beq_eq_false_iff_ne]; omega
  have e3 : (kd == 3) = false := by rw [beq_eq_false_iff_ne]; omega
  have e4 : (kd == 4) = false := by rw [beq_eq_false_iff_ne]; omega
  have e5 : (kd == 5) = false := by rw [beq_eq_false_iff_ne]; omega
  have e6 : (kd == 6) = false := by rw [beq_eq_false_iff_ne]; omega
  have e7 : (kd == 7) = false := by rw [beq_eq_false_iff_ne]; omega
  have e8 : (kd == 8) = false := by rw [beq_eq_false_iff_ne]; omega
  have e9 : (kd == 9) = false := by rw [beq_eq_false_iff_ne]; omega
  clear hk
  go_enter Try.func68, Try.ntmps68
  go_wp2
  go_ret
  exact ⟨rfl, by first | exact ((Kp.refl [] w).alloc _).alloc _ | exact (((Kp.refl [] w).alloc _).alloc _).setNew (by simp) _ | exact ((((Kp.refl [] w).alloc _).alloc _).setNew (by simp) _).setNew (by simp) _ | exact (((((Kp.refl [] w).alloc _).alloc _).setNew (by simp) _).setNew (by simp) _).setNew (by simp) _⟩
set_option maxRecDepth 100000 in
set_option maxHeartbeats 8000000 in
theorem fits_6 (A1 : Option Addr) (c1 : Nat) (set : List S103) (num : Int) (nm : ByteArray) (mn mx : Int) (lz : Bool) (A7 : Option Addr) (c7 : Nat) (subs : List S25) (w : World) (h1 : Kd.C k103 w A1 set.length set) (l1 : set.length ≤ c1) (h7 : Kd.C k25 w A7 subs.length subs) (l7 : subs.length ≤ c7) :
    Calls Try.prog 68 #[.agg #[.int .i64 6, .slice A1 set.length c1, .int .i64 num, .string nm, .int .i64 mn, .int .i64 mx, .bool lz, .slice A7 subs.length c7]] w fun e w' => e = .returned (.bool (fitsN 6 set num nm mn mx lz subs)) ∧ Kp [] w w' := by
  have CB : Hid (∀ W, Kp [] w W → Calls Try.prog 96 #[.agg #[.int .i64 6, .slice A1 set.length c1, .int .i64 0, .string ⟨#[]⟩, .int .i64 mn, .int .i64 mx, .bool lz, .slice none 0 0]] W fun e w' => e = .returned (.bool (bareB set 0 ⟨#[]⟩ mn mx lz [])) ∧ Kp [] w w') := fun W k => (bare_calls 6 A1 c1 set 0 ⟨#[]⟩ mn mx lz none 0 [] W (Kd.C_below h1 k.bel) l1 (nil25 W) (Nat.le_refl _)).mono fun e w' ⟨he, hk⟩ => ⟨he, k.trans hk⟩
  have CN : Hid (∀ W, Kp [] w W → Calls Try.prog 34 #[.string nm] W fun e w' => e = .returned (.bool (nameB nm.data.toList)) ∧ Kp [] W w' ∧ Kp [] w w') := fun W k => (name_calls nm.data.toList W).mono fun e w' ⟨he, hk⟩ => ⟨he, hk, k.trans hk⟩
  have hv : fitsN 6 set num nm mn mx lz subs = (decide (1 ≤ num) && ((emptyS nm || nameB nm.data.toList) && (decide (subs.length = 1) && bareB set 0 ⟨#[]⟩ mn mx lz []))) := rfl
  rw [hv]
  by_cases a1 : 1 ≤ num
  rotate_left
  · have d1 : decide (num < 1) = true := decide_eq_true (by omega)
    rw [decide_eq_false a1]
    go_enter Try.func68, Try.ntmps68
    go_wp2
    go_ret
    exact ⟨by simp, by first | exact ((Kp.refl [] w).alloc _).alloc _ | exact (((Kp.refl [] w).alloc _).alloc _).setNew (by simp) _ | exact ((((Kp.refl [] w).alloc _).alloc _).setNew (by simp) _).setNew (by simp) _ | exact (((((Kp.refl [] w).alloc _).alloc _).setNew (by simp) _).setNew (by simp) _).setNew (by simp) _ | exact ((((((Kp.refl [] w).alloc _).alloc _).setNew (by simp) _).setNew (by simp) _).setNew (by simp) _).setNew (by simp) _⟩
  have d1 : decide (num < 1) = false := decide_eq_false (by omega)
  rw [decide_eq_true a1]
  have hsub : ((subs.length : Int) != 1) = !(decide (subs.length = 1)) := by
    by_cases q : subs.length = 1 <;> simp [q]
    omega
  by_cases hne : nm.toList = []
  · have hne2 : nm.toList.isEmpty = true := by rw [hne]; rfl
    have hem : emptyS nm = true := hne2
    rw [hem]
    by_cases q : subs.length = 1
    · have dq : ((subs.length : Int) != 1) = false := by rw [hsub]; simp [q]
      rw [decide_eq_true q]
      replace q := Lib.hid q
      replace hsub := Lib.hid hsub
      go_enter Try.func68, Try.ntmps68
      go_wp2_with (go_at_call 96; refine (CB.out _ (by first | exact ((Kp.refl [] w).alloc _).alloc _ | exact (((Kp.refl [] w).alloc _).alloc _).setNew (by simp) _ | exact ((((Kp.refl [] w).alloc _).alloc _).setNew (by simp) _).setNew (by simp) _ | exact (((((Kp.refl [] w).alloc _).alloc _).setNew (by simp) _).setNew (by simp) _).setNew (by simp) _ | exact ((((((Kp.refl [] w).alloc _).alloc _).setNew (by simp) _).setNew (by simp) _).setNew (by simp) _).setNew (by simp) _)).mono ?_; rintro e w2 ⟨rfl, kk⟩)
      go_ret
      exact ⟨by simp, kk⟩
    · have dq : ((subs.length : Int) != 1) = true := by rw [hsub]; simp [q]
      rw [decide_eq_false q]
      replace hsub := Lib.hid hsub
      go_enter Try.func68, Try.ntmps68
      go_wp2
      go_ret
      exact ⟨by simp, by first | exact ((Kp.refl [] w).alloc _).alloc _ | exact (((Kp.refl [] w).alloc _).alloc _).setNew (by simp) _ | exact ((((Kp.refl [] w).alloc _).alloc _).setNew (by simp) _).setNew (by simp) _ | exact (((((Kp.refl [] w).alloc _).alloc _).setNew (by simp) _).setNew (by simp) _).setNew (by simp) _ | exact ((((((Kp.refl [] w).alloc _).alloc _).setNew (by simp) _).setNew (by simp) _).setNew (by simp) _).setNew (by simp) _⟩
  · have hne2 : nm.toList.isEmpty = false := by
      cases h : nm.toList with
      | nil => exact absurd h hne
      | cons _ _ => rfl
    have hem : emptyS nm = false := hne2
    rw [hem]
    cases hn : nameB nm.data.toList with
    | false =>
      rw [hn] at CN
      replace hn := Lib.hid hn
      replace hsub := Lib.hid hsub
      go_enter Try.func68, Try.ntmps68
      go_wp2_with (go_at_call 34; refine (CN.out _ (by first | exact ((Kp.refl [] w).alloc _).alloc _ | exact (((Kp.refl [] w).alloc _).alloc _).setNew (by simp) _ | exact ((((Kp.refl [] w).alloc _).alloc _).setNew (by simp) _).setNew (by simp) _ | exact (((((Kp.refl [] w).alloc _).alloc _).setNew (by simp) _).setNew (by simp) _).setNew (by simp) _ | exact ((((((Kp.refl [] w).alloc _).alloc _).setNew (by simp) _).setNew (by simp) _).setNew (by simp) _).setNew (by simp) _)).mono ?_; rintro e w1 ⟨rfl, k1, kk⟩)
      go_ret
      exact ⟨by simp, kk⟩
    | true =>
      rw [hn] at CN
      replace hn := Lib.hid hn
      by_cases q : subs.length = 1
      · have dq : ((subs.length : Int) != 1) = false := by rw [hsub]; simp [q]
        rw [decide_eq_true q]
        replace q := Lib.hid q
        replace hsub := Lib.hid hsub
        go_enter Try.func68, Try.ntmps68
        go_wp2_with (first | (go_at_call 34; refine (CN.out _ (by first | exact ((Kp.refl [] w).alloc _).alloc _ | exact (((Kp.refl [] w).alloc _).alloc _).setNew (by simp) _ | exact ((((Kp.refl [] w).alloc _).alloc _).setNew (by simp) _).setNew (by simp) _ | exact (((((Kp.refl [] w).alloc _).alloc _).setNew (by simp) _).setNew (by simp) _).setNew (by simp) _ | exact ((((((Kp.refl [] w).alloc _).alloc _).setNew (by simp) _).setNew (by simp) _).setNew (by simp) _).setNew (by simp) _)).mono ?_; rintro e w1 ⟨rfl, k1, kk⟩; have hb := kblk k1 (new_at _ _ (w.heap.size + 1) (by simp)); have y0 := cellB hb 0; have y1 := cellB hb 1; have y2 := cellB hb 2; have y3 := cellB hb 3; have y4 := cellB hb 4; have y5 := cellB hb 5; have y6 := cellB hb 6; have y7 := cellB hb 7; simp at y0 y1 y2 y3 y4 y5 y6 y7; have hb2 := kblk k1 ((Below.heap_alloc _ _ _ (by simp)).trans (heap_alloc_new w _)); have x7 := cellB hb2 7; simp at x7) | (go_at_call 96; refine (CB.out _ kk).mono ?_; rintro e w2 ⟨rfl, kk2⟩))
        go_ret
        exact ⟨by simp, kk2⟩
      · have dq : ((subs.length : Int) != 1) = true := by rw [hsub]; simp [q]
        rw [decide_eq_false q]
        replace hsub := Lib.hid hsub
        go_enter Try.func68, Try.ntmps68
        go_wp2_with (first | (go_at_call 34; refine (CN.out _ (by first | exact ((Kp.refl [] w).alloc _).alloc _ | exact (((Kp.refl [] w).alloc _).alloc _).setNew (by simp) _ | exact ((((Kp.refl [] w).alloc _).alloc _).setNew (by simp) _).setNew (by simp) _ | exact (((((Kp.refl [] w).alloc _).alloc _).setNew (by simp) _).setNew (by simp) _).setNew (by simp) _ | exact ((((((Kp.refl [] w).alloc _).alloc _).setNew (by simp) _).setNew (by simp) _).setNew (by simp) _).setNew (by simp) _)).mono ?_; rintro e w1 ⟨rfl, k1, kk⟩; have hb := kblk k1 (new_at _ _ (w.heap.size + 1) (by simp)); have y0 := cellB hb 0; have y1 := cellB hb 1; have y2 := cellB hb 2; have y3 := cellB hb 3; have y4 := cellB hb 4; have y5 := cellB hb 5; have y6 := cellB hb 6; have y7 := cellB hb 7; simp at y0 y1 y2 y3 y4 y5 y6 y7; have hb2 := kblk k1 ((Below.heap_alloc _ _ _ (by simp)).trans (heap_alloc_new w _)); have x7 := cellB hb2 7; simp at x7))
        go_ret
        exact ⟨by simp, kk⟩
set_option maxRecDepth 100000 in
set_option maxHeartbeats 8000000 in
theorem fits_9 (A1 : Option Addr) (c1 : Nat) (set : List S103) (num : Int) (nm : ByteArray) (mn mx : Int) (lz : Bool) (A7 : Option Addr) (c7 : Nat) (subs : List S25) (w : World) (h1 : Kd.C k103 w A1 set.length set) (l1 : set.length ≤ c1) (h7 : Kd.C k25 w A7 subs.length subs) (l7 : subs.length ≤ c7) :
    Calls Try.prog 68 #[.agg #[.int .i64 9, .slice A1 set.length c1, .int .i64 num, .string nm, .int .i64 mn, .int .i64 mx, .bool lz, .slice A7 subs.length c7]] w fun e w' => e = .returned (.bool (fitsN 9 set num nm mn mx lz subs)) ∧ Kp [] w w' := by
  have CB : Hid (∀ W, Kp [] w W → Calls Try.prog 96 #[.agg #[.int .i64 9, .slice A1 set.length c1, .int .i64 num, .string nm, .int .i64 0, .int .i64 0, .bool false, .slice none 0 0]] W fun e w' => e = .returned (.bool (bareB set num nm 0 0 false [])) ∧ Kp [] w w') := fun W k => (bare_calls 9 A1 c1 set num nm 0 0 false none 0 [] W (Kd.C_below h1 k.bel) l1 (nil25 W) (Nat.le_refl _)).mono fun e w' ⟨he, hk⟩ => ⟨he, k.trans hk⟩
  have hv : fitsN 9 set num nm mn mx lz subs = (decide (0 ≤ mn) && (decide (mn ≤ 1000) && ((decide (mx = -1) || decide (mn ≤ mx) && decide (mx ≤ 1000)) && (decide (subs.length = 1) && bareB set num nm 0 0 false [])))) := rfl
  rw [hv]
  have hsub : ((subs.length : Int) != 1) = !(decide (subs.length = 1)) := by
    by_cases q : subs.length = 1 <;> simp [q]
    omega
  by_cases a1 : 0 ≤ mn
  rotate_left
  · have d1 : decide (mn < 0) = true := decide_eq_true (by omega)
    rw [decide_eq_false a1]
    replace hsub := Lib.hid hsub
    go_enter Try.func68, Try.ntmps68
    go_wp2
    go_ret
    exact ⟨by simp, by first | exact ((Kp.refl [] w).alloc _).alloc _ | exact (((Kp.refl [] w).alloc _).alloc _).setNew (by simp) _ | exact ((((Kp.refl [] w).alloc _).alloc _).setNew (by simp) _).setNew (by simp) _ | exact (((((Kp.refl [] w).alloc _).alloc _).setNew (by simp) _).setNew (by simp) _).setNew (by simp) _ | exact ((((((Kp.refl [] w).alloc _).alloc _).setNew (by simp) _).setNew (by simp) _).setNew (by simp) _).setNew (by simp) _⟩
  have d1 : decide (mn < 0) = false := decide_eq_false (by omega)
  rw [decide_eq_true a1]
  by_cases a2 : mn ≤ 1000
  rotate_left
  · have d2 : decide (1000 < mn) = true := decide_eq_true (by omega)
    rw [decide_eq_false a2]
    replace hsub := Lib.hid hsub
    go_enter Try.func68, Try.ntmps68
    go_wp2
    go_ret
    exact ⟨by simp, by first | exact ((Kp.refl [] w).alloc _).alloc _ | exact (((Kp.refl [] w).alloc _).alloc _).setNew (by simp) _ | exact ((((Kp.refl [] w).alloc _).alloc _).setNew (by simp) _).setNew (by simp) _ | exact (((((Kp.refl [] w).alloc _).alloc _).setNew (by simp) _).setNew (by simp) _).setNew (by simp) _ | exact ((((((Kp.refl [] w).alloc _).alloc _).setNew (by simp) _).setNew (by simp) _).setNew (by simp) _).setNew (by simp) _⟩
  have d2 : decide (1000 < mn) = false := decide_eq_false (by omega)
  rw [decide_eq_true a2]
  by_cases a3 : mx = -1
  · subst a3
    rw [decide_eq_true rfl]
    by_cases q : subs.length = 1
    · have dq : ((subs.length : Int) != 1) = false := by rw [hsub]; simp [q]
      rw [decide_eq_true q]
      replace q := Lib.hid q
      replace hsub := Lib.hid hsub
      go_enter Try.func68, Try.ntmps68
      go_wp2_with (go_at_call 96; refine (CB.out _ (by first | exact ((Kp.refl [] w).alloc _).alloc _ | exact (((Kp.refl [] w).alloc _).alloc _).setNew (by simp) _ | exact ((((Kp.refl [] w).alloc _).alloc _).setNew (by simp) _).setNew (by simp) _ | exact (((((Kp.refl [] w).alloc _).alloc _).setNew (by simp) _).setNew (by simp) _).setNew (by simp) _ | exact ((((((Kp.refl [] w).alloc _).alloc _).setNew (by simp) _).setNew (by simp) _).setNew (by simp) _).setNew (by simp) _)).mono ?_; rintro e w2 ⟨rfl, kk⟩)
      go_ret
      exact ⟨by simp, kk⟩
    · have dq : ((subs.length : Int) != 1) = true := by rw [hsub]; simp [q]
      rw [decide_eq_false q]
      replace hsub := Lib.hid hsub
      go_enter Try.func68, Try.ntmps68
      go_wp2
      go_ret
      exact ⟨by simp, by first | exact ((Kp.refl [] w).alloc _).alloc _ | exact (((Kp.refl [] w).alloc _).alloc _).setNew (by simp) _ | exact ((((Kp.refl [] w).alloc _).alloc _).setNew (by simp) _).setNew (by simp) _ | exact (((((Kp.refl [] w).alloc _).alloc _).setNew (by simp) _).setNew (by simp) _).setNew (by simp) _ | exact ((((((Kp.refl [] w).alloc _).alloc _).setNew (by simp) _).setNew (by simp) _).setNew (by simp) _).setNew (by simp) _⟩
  have d3 : (mx != -1) = true := by rw [bne_iff_ne]; exact a3
  rw [decide_eq_false a3]
  by_cases a4 : mn ≤ mx
  rotate_left
  · have d4 : decide (mx < mn) = true := decide_eq_true (by omega)
    rw [decide_eq_false a4]
    replace hsub := Lib.hid hsub
    go_enter Try.func68, Try.ntmps68
    go_wp2
    go_ret
    exact ⟨by simp, by first | exact ((Kp.refl [] w).alloc _).alloc _ | exact (((Kp.refl [] w).alloc _).alloc _).setNew (by simp) _ | exact ((((Kp.refl [] w).alloc _).alloc _).setNew (by simp) _).setNew (by simp) _ | exact (((((Kp.refl [] w).alloc _).alloc _).setNew (by simp) _).setNew (by simp) _).setNew (by simp) _ | exact ((((((Kp.refl [] w).alloc _).alloc _).setNew (by simp) _).setNew (by simp) _).setNew (by simp) _).setNew (by simp) _⟩
  have d4 : decide (mx < mn) = false := decide_eq_false (by omega)
  rw [decide_eq_true a4]
  by_cases a5 : mx ≤ 1000
  rotate_left
  · have d5 : decide (1000 < mx) = true := decide_eq_true (by omega)
    rw [decide_eq_false a5]
    replace hsub := Lib.hid hsub
    go_enter Try.func68, Try.ntmps68
    go_wp2
    go_ret
    exact ⟨by simp, by first | exact ((Kp.refl [] w).alloc _).alloc _ | exact (((Kp.refl [] w).alloc _).alloc _).setNew (by simp) _ | exact ((((Kp.refl [] w).alloc _).alloc _).setNew (by simp) _).setNew (by simp) _ | exact (((((Kp.refl [] w).alloc _).alloc _).setNew (by simp) _).setNew (by simp) _).setNew (by simp) _ | exact ((((((Kp.refl [] w).alloc _).alloc _).setNew (by simp) _).setNew (by simp) _).setNew (by simp) _).setNew (by simp) _⟩
  have d5 : decide (1000 < mx) = false := decide_eq_false (by omega)
  rw [decide_eq_true a5]
  by_cases q : subs.length = 1
  · have dq : ((subs.length : Int) != 1) = false := by rw [hsub]; simp [q]
    rw [decide_eq_true q]
    replace q := Lib.hid q
    replace hsub := Lib.hid hsub
    go_enter Try.func68, Try.ntmps68
    go_wp2_with (go_at_call 96; refine (CB.out _ (by first | exact ((Kp.refl [] w).alloc _).alloc _ | exact (((Kp.refl [] w).alloc _).alloc _).setNew (by simp) _ | exact ((((Kp.refl [] w).alloc _).alloc _).setNew (by simp) _).setNew (by simp) _ | exact (((((Kp.refl [] w).alloc _).alloc _).setNew (by simp) _).setNew (by simp) _).setNew (by simp) _ | exact ((((((Kp.refl [] w).alloc _).alloc _).setNew (by simp) _).setNew (by simp) _).setNew (by simp) _).setNew (by simp) _)).mono ?_; rintro e w2 ⟨rfl, kk⟩)
    go_ret
    exact ⟨by simp, kk⟩
  · have dq : ((subs.length : Int) != 1) = true := by rw [hsub]; simp [q]
    rw [decide_eq_false q]
    replace hsub := Lib.hid hsub
    go_enter Try.func68, Try.ntmps68
    go_wp2
    go_ret
    exact ⟨by simp, by first | exact ((Kp.refl [] w).alloc _).alloc _ | exact (((Kp.refl [] w).alloc _).alloc _).setNew (by simp) _ | exact ((((Kp.refl [] w).alloc _).alloc _).setNew (by simp) _).setNew (by simp) _ | exact (((((Kp.refl [] w).alloc _).alloc _).setNew (by simp) _).setNew (by simp) _).setNew (by simp) _ | exact ((((((Kp.refl [] w).alloc _).alloc _).setNew (by simp) _).setNew (by simp) _).setNew (by simp) _).setNew (by simp) _⟩
def fitsV (n : S25) : Bool := fitsN n.f0 n.f1 n.f2 n.f3 n.f4 n.f5 n.f6 n.f7
theorem fits_calls (v : NV) (w : World) (h : v.ok w) (hl : v.n.f1.length ≤ 9223372036854775807) : Calls Try.prog 68 #[v.val] w fun e w' => e = .returned (.bool (fitsV v.n)) ∧ Kp [] w w' := by
  obtain ⟨⟨kd, set, num, nm, mn, mx, lz, subs⟩, A1, c1, A7, c7⟩ := v
  obtain ⟨l1, h1, l7, h7⟩ := h
  show Calls Try.prog 68 #[.agg #[.int .i64 kd, .slice A1 set.length c1, .int .i64 num, .string nm, .int .i64 mn, .int .i64 mx, .bool lz, .slice A7 subs.length c7]] w fun e w' => e = .returned (.bool (fitsN kd set num nm mn mx lz subs)) ∧ Kp [] w w'
  by_cases a : kd < 1 ∨ 9 < kd
  · exact fits_no kd a A1 c1 set num nm mn mx lz A7 c7 subs w h1 l1 h7 l7
  by_cases b : kd = 1 ∨ kd = 2 ∨ kd = 4
  · exact fits_a kd A1 c1 set num nm mn mx lz A7 c7 subs w h1 l1 h7 l7 b
  by_cases c : kd = 7 ∨ kd = 8
  · exact fits_78 kd c A1 c1 set num nm mn mx lz A7 c7 subs w h1 l1 h7 l7
  obtain rfl | rfl | rfl | rfl : kd = 3 ∨ kd = 5 ∨ kd = 6 ∨ kd = 9 := by omega
  · exact fits_3 A1 c1 set num nm mn mx lz A7 c7 subs w h1 l1 h7 l7 hl
  · exact fits_5 A1 c1 set num nm mn mx lz A7 c7 subs w h1 l1 h7 l7
  · exact fits_6 A1 c1 set num nm mn mx lz A7 c7 subs w h1 l1 h7 l7
  · exact fits_9 A1 c1 set num nm mn mx lz A7 c7 subs w h1 l1 h7 l7
end Go.Proofs.Ytojlhlepneefoaa
