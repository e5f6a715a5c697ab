/- Package tree: a letter within many repetitions; the law TreeDeep walked. -/
import Derived.Test.YtojlhlepneefoaaN
import Derived.Test.YtojlhlepneefoaaPAllx13
import Derived.IntWalk
namespace Go.Proofs.Ytojlhlepneefoaa
open Go.RowKit PAll Go.Proofs.YtojlhlepneefoaaW.PrintWords Go.Proofs.YtojlhlepneefoaaW.PrintLast Go.Proofs.YtojlhlepneefoaaW.PrintMore
open Go.Shelf
set_option linter.unusedVariables false
set_option linter.unusedSimpArgs false

def chN : Nat → S25
  | 0 => letN 97
  | k + 1 => ⟨9, [], 0, ⟨#[]⟩, 0, -1, false, [chN k]⟩
theorem ch_thin : ∀ k, Thin (k + 1) (chN k)
  | 0 => let_thin 97
  | k + 1 => ⟨by simp [chN], by simp only [chN, List.mem_singleton]; rintro x rfl; exact ch_thin k, by simp [chN], by simp only [chN]; decide⟩
theorem ch_steps : ∀ (m : Nat) (d : Int) (k : Nat), (stepsL m d (chN k)).length = min m (k + 1)
  | 0, _, _ => by simp [stepsL]
  | m + 1, d, 0 => by simp [stepsL, chN, letN]
  | m + 1, d, k + 1 => by
    simp only [stepsL, chN, List.flatMap_cons, List.flatMap_nil, List.append_nil, List.length_cons]
    rw [ch_steps m (d + 1) k]
    omega
theorem ch_depth : ∀ (m k : Nat), depthP (m + 1) (chN k) = ((min m k + 1 : Nat) : Int)
  | 0, k => by simp [depthP]
  | m + 1, 0 => by
    unfold depthP
    rw [if_neg (by omega)]
    simp [chN, letN]
  | m + 1, k + 1 => by
    unfold depthP
    rw [if_neg (by omega)]
    simp only [chN, List.map_cons, List.map_nil, List.foldl_cons, List.foldl_nil]
    rw [ch_depth m k]
    unfold mx
    split <;> omega
theorem ch_fits : ∀ k, fitsV (chN k) = true ∧ ¬ (chN k).f0 = 6
  | 0 => ⟨la_fits, by decide⟩
  | k + 1 => ⟨by simp [fitsV, fitsN, chN, bareB, emptyS, ByteArray.toList_eq], by simp [chN]⟩
theorem ch_all : ∀ (m : Nat) (d : Int) (k : Nat), ∀ x ∈ stepsL m d (chN k), fitsV x.2 = true ∧ ¬ x.2.f0 = 6
  | 0, _, _, x, h => by cases h
  | m + 1, d, 0, x, h => by
    simp only [stepsL, List.mem_cons] at h
    rcases h with rfl | h
    · exact ch_fits 0
    · simp [chN, letN] at h
  | m + 1, d, k + 1, x, h => by
    simp only [stepsL, List.mem_cons] at h
    rcases h with rfl | h
    · exact ch_fits (k + 1)
    · simp only [chN, List.flatMap_cons, List.flatMap_nil, List.append_nil] at h
      exact ch_all m (d + 1) k x h
theorem chk_plain : ∀ (xs : List (Int × S25)) (ns : List ByteArray), (∀ x ∈ xs, fitsV x.2 = true ∧ ¬ x.2.f0 = 6) → xs.foldl chkStep (.ok ns) = .ok ns
  | [], _, _ => rfl
  | x :: xs, ns, h => by
    rw [List.foldl_cons, chk_skip (h x (by simp)).1 (h x (by simp)).2]
    exact chk_plain xs ns (fun y hy => h y (by simp [hy]))
theorem ch_check (k : Nat) : checkV (chN k) = if 1000 ≤ k then 61 else 0 := by
  unfold checkV
  rw [ch_depth 1000 k, show chkL (stepsL 1000 1 (chN k)) = .ok [] from chk_plain _ _ (ch_all _ _ _)]
  split <;> split <;> first | rfl | omega
theorem ch_null (k : Nat) : nullP 1000 (chN (k + 1)) = true := by
  show nullP (999 + 1) (chN (k + 1)) = true
  unfold nullP
  simp [chN]
theorem below_f (a : Int) (m : Nat) (h1 : 1 ≤ m) (h2 : m ≤ 1000000000) : ∃ r : Nat, burinbook_Below.f a m = some (r : Int) ∧ r < m := by
  have l1 := Int.tmod_lt_of_pos a (show (0 : Int) < m by omega)
  have l2 := Int.lt_tmod_of_pos a (show (0 : Int) < m by omega)
  unfold burinbook_Below.f
  rw [if_neg (by omega), if_neg (by omega)]
  generalize Int.tmod a m = t at *
  split
  · exact ⟨(t + m).toNat, by rw [show wrap64 (t + m) = t + m by unfold wrap64; omega]; simp; omega, by omega⟩
  · exact ⟨t.toNat, by simp; omega, by omega⟩
/-- A value that stays right whatever the block B turns into. -/
def NV.okB (B : Nat) (w : World) (v : NV) : Prop := ∀ W, Kp [B] w W → v.ok W
theorem NV.okB.kp {B : Nat} {w w' : World} {v : NV} (h : v.okB B w) (k : Kp [B] w w') : v.okB B w' := fun W q => h W (k.trans q)
theorem NV.okB.now {B : Nat} {w : World} {v : NV} (h : v.okB B w) : v.ok w := h w (Kp.refl _ _)
theorem okB_new {w w' : World} {v : NV} (h : v.ok w) (k : Kp [] w w') {B : Nat} (hB : w.heap.size ≤ B) : v.okB B w' := fun W q => h.kp ⟨q.os.trans k.os, q.tape.trans k.tape, q.output.trans k.output, Nat.le_trans k.size q.size, fun i hi _ => (q.block i (Nat.lt_of_lt_of_le hi k.size) (by simp; omega)).trans (k.block i hi (by simp))⟩
theorem okB_one {w : World} {B C : Nat} {v : NV} (h : v.okB B w) (hC : w.heap[C]? = some (.cells ([v].flatMap NV.cells).toArray 25 (0, 0))) (hne : C ≠ B) (x : S25) (hx : x.f7 = [v.n]) (h1 : x.f1 = []) : (⟨x, none, 0, some ⟨C, 0, none⟩, 1⟩ : NV).okB B w := fun W q => by
  have R := rowMake (w := W) (vs := [v]) ((q.block C (ltB hC) (by simpa using hne)).trans hC) (fun v hv => by simp at hv; subst hv; exact h W q) (by simp)
  obtain ⟨x0, x1, x2, x3, x4, x5, x6, x7⟩ := x
  dsimp only at hx h1
  subst hx h1
  exact ⟨Nat.zero_le _, ⟨rfl, Nat.zero_le _, fun h => absurd h (by simp)⟩, Nat.le_refl _, R⟩

def DeepI (B n : Nat) (w : World) (iv : Value) (wr : World) : Prop := ∃ (j : Nat) (v : NV), iv = .int .i64 j ∧ j ≤ n ∧ v.n = chN j ∧ wr.heap[B]? = some (.cells v.cells.toArray 25 (0, 0)) ∧ v.okB B wr ∧ Kp [] w wr
set_option maxHeartbeats 2000000 in
theorem setAll8 {w : World} {b : Nat} {v : NV} (h : w.heap[b]? = some (.cells v.cells.toArray 25 (0, 0))) (x0 x1 x2 x3 x4 x5 x6 x7 : Value) :
    ((((((((w.setCell ⟨b, 0, none⟩ x0).setCell ⟨b, 1, none⟩ x1).setCell ⟨b, 2, none⟩ x2).setCell ⟨b, 3, none⟩ x3).setCell ⟨b, 4, none⟩ x4).setCell ⟨b, 5, none⟩ x5).setCell ⟨b, 6, none⟩ x6).setCell ⟨b, 7, none⟩ x7).heap[b]? = some (.cells #[x0, x1, x2, x3, x4, x5, x6, x7] 25 (0, 0)) := by
  have := setB (setB (setB (setB (setB (setB (setB (setB h 0 x0) 1 x1) 2 x2) 3 x3) 4 x4) 5 x5) 6 x6) 7 x7
  rw [this]
  rfl
attribute [local go_sem] max2_int min2_int max_two min_two
set_option maxRecDepth 100000 in
set_option maxHeartbeats 8000000 in
theorem deep_walk (a : Int) (w : World) : Calls Try.prog 6 #[.int .i64 a] w fun e w' => e = .returned (.bool true) ∧ Below w.heap.size w w' := by
  obtain ⟨r, hr, hr2⟩ := below_f a 201 (by omega) (by omega)
  replace hr := Lib.hid hr
  go_enter Try.func6, Try.ntmps6
  go_wp2_with (first | (go_at_call 32; refine (works_calls _).mono ?_; rintro e w1 ⟨rfl, k1⟩) | (go_at_call 36; refine (burinbook_Below.calls a 201 r _ hr.out).mono ?_; rintro e w2 ⟨rfl, k2⟩; have hw : IntKind.i64.wrap (900 + (r : Int)) = ((900 + r : Nat) : Int) := by rw [IntWalk.i64_in _ (by omega)]; simp))
  refine (letter_calls 97 _).mono ?_
  rintro e w3 ⟨⟨na, A1, c1, A7, c7⟩, rfl, hn, oa, ka⟩
  obtain rfl : na = letN 97 := hn
  obtain ⟨W0, hW0⟩ : ∃ W0, W0 = w3.alloc (.cells (⟨letN 97, A1, c1, A7, c7⟩ : NV).cells.toArray 25) := ⟨_, rfl⟩
  have k0 : Kp [] w3 W0 := by rw [hW0]; exact (Kp.refl [] w3).alloc _
  have hb0 : W0.heap[w3.heap.size]? = some (.cells (⟨letN 97, A1, c1, A7, c7⟩ : NV).cells.toArray 25 (0, 0)) := by rw [hW0]; exact new_at _ _ _ rfl
  have ob0 := okB_new oa k0 (Nat.le_refl _)
  have kw : Kp [] w W0 := ((k1.trans (Kp.ofDrawn k2)).trans ka).trans k0
  obtain ⟨B, hB⟩ : ∃ B, B = w3.heap.size := ⟨_, rfl⟩
  have hBw : w.heap.size ≤ B := by rw [hB]; exact ((k1.trans (Kp.ofDrawn k2)).trans ka).size
  have hbW : ∃ W, W = w3.alloc (.cells (⟨letN 97, A1, c1, A7, c7⟩ : NV).cells.toArray 25) ∧ W = W0 := ⟨_, rfl, hW0.symm⟩
  dsimp only [NV.val, NV.cells, letN, List.length_cons, List.length_nil, Nat.zero_add]
  go_wp2_with fail
  replace hW0 : w3.alloc (.cells #[.int .i64 3, .slice A1 1 c1, .int .i64 0, .string ⟨#[]⟩, .int .i64 0, .int .i64 0, .bool false, .slice A7 0 c7] 25) = W0 := hW0.symm
  rw [hW0, ← hB]
  rw [← hB] at hb0 ob0
  replace hW0 := Lib.hid hW0
  replace hB := Lib.hid hB
  clear oa ka k0 hbW
  have hr3 : ((900 : Int) + (r : Int)) = ((900 + r : Nat) : Int) := by simp
  rw [hr3]
  obtain ⟨n, hn⟩ : ∃ n, n = 900 + r := ⟨_, rfl⟩
  rw [← hn]
  clear hr3 hw
  go_loopw [13] (fun iv wr => DeepI B n w iv wr) (fun iv _ => n - (intOf iv).toNat)
  case atStart => exact ⟨0, _, rfl, by omega, rfl, hb0, ob0, kw⟩
  case round =>
    obtain ⟨j, v, rfl, hj, hvn, hb, hok, HK⟩ := hrel
    by_cases hlt : j < n
    · have dk : decide ((j : Int) < (n : Int)) = true := decide_eq_true (by omega)
      have fin : ∀ W, W = ((((((((wr.setCell ⟨B, 0, none⟩ (.int .i64 9)).setCell ⟨B, 1, none⟩ (.slice none 0 0)).setCell ⟨B, 2, none⟩ (.int .i64 0)).setCell ⟨B, 3, none⟩ (.string ⟨#[]⟩)).setCell ⟨B, 4, none⟩ (.int .i64 0)).setCell ⟨B, 5, none⟩ (.int .i64 (-1))).setCell ⟨B, 6, none⟩ (.bool false)).setCell ⟨B, 7, none⟩ (.slice (some ⟨wr.heap.size, 0, none⟩) 1 1)).alloc (.cells v.cells.toArray 25) → DeepI B n w (.int .i64 ((j : Int) + 1)) W := by
        intro W hW
        have hBl := ltB hb
        have hs := setAll8 hb (.int .i64 9) (.slice none 0 0) (.int .i64 0) (.string ⟨#[]⟩) (.int .i64 0) (.int .i64 (-1)) (.bool false) (.slice (some ⟨wr.heap.size, 0, none⟩) 1 1)
        have kB : Kp [B] wr W := by
          rw [hW]
          refine Kp.alloc ?_ _
          iterate 8 (refine Kp.setCell ?_ (by simp) _)
          exact Kp.refl _ _
        have kw' : Kp [] w W := by
          rw [hW]
          refine Kp.alloc ?_ _
          iterate 8 (refine Kp.setNew ?_ hBw _)
          exact HK
        have hC : W.heap[wr.heap.size]? = some (.cells ([v].flatMap NV.cells).toArray 25 (0, 0)) := by
          rw [hW, show [v].flatMap NV.cells = v.cells by simp]
          exact new_at _ _ _ (by simp [World.setCell])
        refine ⟨j + 1, ⟨chN (j + 1), none, 0, some ⟨wr.heap.size, 0, none⟩, 1⟩, by simp, by omega, rfl, ?_, okB_one (hok.kp kB) hC (by omega) _ (by rw [hvn]; rfl) rfl, kw'⟩
        rw [hW]
        exact (Below.heap_alloc _ _ _ (by simpa [World.setCell] using hBl)).trans hs
      have FIN := Lib.hid fin
      clear fin hok hvn
      obtain ⟨⟨kd, set, num, nm, mn, mx_, lz, subs⟩, D1, e1, D7, e7⟩ := v
      dsimp only [NV.val, NV.cells] at hb FIN
      have z0 := cellB hb 0; have z1 := cellB hb 1; have z2 := cellB hb 2; have z3 := cellB hb 3; have z4 := cellB hb 4; have z5 := cellB hb 5; have z6 := cellB hb 6; have z7 := cellB hb 7
      have f0 := frozB hb 0; have f1 := frozB hb 1; have f2 := frozB hb 2; have f3 := frozB hb 3; have f4 := frozB hb 4; have f5 := frozB hb 5; have f6 := frozB hb 6; have f7 := frozB hb 7
      have hBl := ltB hb
      simp at z0 z1 z2 z3 z4 z5 z6 z7
      clear hb
      go_wp2_with fail
      go_round
      case rel => exact FIN.out _ rfl
      case measure => simp [intOf]; omega
    · obtain rfl : j = n := by omega
      have dk : decide ((j : Int) < (j : Int)) = false := decide_eq_false (by omega)
      have hj1 : 1 ≤ j ∧ j ≤ 2000 := by omega
      clear hn
      have hv := hok.now
      have hst : (stepsL 1000 1 v.n).length = min 1000 (j + 1) := by rw [hvn]; exact ch_steps _ _ _
      have hC24 := ch_check j
      have ht : Thin (j + 1) v.n := by rw [hvn]; exact ch_thin j
      have C38 := Lib.hid (fun W (k : Kp [] wr W) => (size_calls v W (hv.kp k) (by omega)).mono fun e w' ⟨h, q⟩ => (⟨h, k.trans q⟩ : _ ∧ Kp [] wr w'))
      have C39 := Lib.hid (fun W (k : Kp [] wr W) => (depth_calls v W (hv.kp k) ht).mono fun e w' ⟨h, q⟩ => (⟨h, k.trans q⟩ : _ ∧ Kp [] wr w'))
      have C24 := Lib.hid (fun W (k : Kp [] wr W) => (check_calls v W (hv.kp k) ht (by omega)).mono fun e w' ⟨h, q⟩ => (⟨h, k.trans q⟩ : _ ∧ Kp [] wr w'))
      have C40 := Lib.hid (fun W (k : Kp [] wr W) => (nullable_calls v W (hv.kp k)).mono fun e w' ⟨h, q⟩ => (⟨h, k.trans q⟩ : _ ∧ Kp [] wr w'))
      have hnl : nullP 1000 v.n = true := by rw [hvn]; obtain ⟨i, rfl⟩ : ∃ i, j = i + 1 := ⟨j - 1, by omega⟩; exact ch_null i
      have hdp : depthP 1001 v.n = ((min 1000 j + 1 : Nat) : Int) := by rw [hvn]; exact ch_depth 1000 j
      rw [hst] at C38
      rw [hdp] at C39
      rw [hvn, hC24] at C24
      rw [hnl] at C40
      clear hst hC24 ht hnl hdp hv hok hvn
      obtain ⟨⟨kd, set, num, nm, mn, mx_, lz, subs⟩, D1, e1, D7, e7⟩ := v
      dsimp only [NV.val, NV.cells] at hb C38 C39 C24 C40
      have kk := Kp.refl [] wr
      have z0 := cellB hb 0; have z1 := cellB hb 1; have z2 := cellB hb 2; have z3 := cellB hb 3; have z4 := cellB hb 4; have z5 := cellB hb 5; have z6 := cellB hb 6; have z7 := cellB hb 7
      have hBl := ltB hb
      simp at z0 z1 z2 z3 z4 z5 z6 z7
      replace HK := Lib.hid HK
      by_cases h1000 : 1000 ≤ j
      · have d1 : decide ((1000 : Int) ≤ (j : Int)) = true := decide_eq_true (by omega)
        have p1 : (1000 : Int) < (j : Int) + 1 := by omega
        rw [show min 1000 (j + 1) = 1000 by omega] at C38
        rw [show min 1000 j + 1 = 1001 by omega] at C39
        rw [if_pos h1000] at C24
        have wj : IntKind.i64.wrap ((j : Int) + 1) = (j : Int) + 1 := IntWalk.i64_in _ (by omega)
        have wj2 : wrap64 ((j : Int) + 1) = (j : Int) + 1 := by unfold wrap64; omega
        by_cases h1001 : 1001 ≤ j
        · have p2 : (1000 : Int) < (j : Int) := by omega
          go_wp2_with (first | (go_at_call 38; refine (C38.out _ kk).mono ?_; clear C38; rintro e w4 ⟨rfl, kk⟩; have z0 : w4.cell? ⟨B, 0, none⟩ = some (Value.int .i64 kd) := cellB (kblk kk hb) 0; have z1 : w4.cell? ⟨B, 1, none⟩ = some (Value.slice D1 set.length e1) := cellB (kblk kk hb) 1; have z2 : w4.cell? ⟨B, 2, none⟩ = some (Value.int .i64 num) := cellB (kblk kk hb) 2; have z3 : w4.cell? ⟨B, 3, none⟩ = some (Value.string nm) := cellB (kblk kk hb) 3; have z4 : w4.cell? ⟨B, 4, none⟩ = some (Value.int .i64 mn) := cellB (kblk kk hb) 4; have z5 : w4.cell? ⟨B, 5, none⟩ = some (Value.int .i64 mx_) := cellB (kblk kk hb) 5; have z6 : w4.cell? ⟨B, 6, none⟩ = some (Value.bool lz) := cellB (kblk kk hb) 6; have z7 : w4.cell? ⟨B, 7, none⟩ = some (Value.slice D7 subs.length e7) := cellB (kblk kk hb) 7) | (go_at_call 39; refine (C39.out _ kk).mono ?_; clear C39; rintro e w4 ⟨rfl, kk⟩; have z0 : w4.cell? ⟨B, 0, none⟩ = some (Value.int .i64 kd) := cellB (kblk kk hb) 0; have z1 : w4.cell? ⟨B, 1, none⟩ = some (Value.slice D1 set.length e1) := cellB (kblk kk hb) 1; have z2 : w4.cell? ⟨B, 2, none⟩ = some (Value.int .i64 num) := cellB (kblk kk hb) 2; have z3 : w4.cell? ⟨B, 3, none⟩ = some (Value.string nm) := cellB (kblk kk hb) 3; have z4 : w4.cell? ⟨B, 4, none⟩ = some (Value.int .i64 mn) := cellB (kblk kk hb) 4; have z5 : w4.cell? ⟨B, 5, none⟩ = some (Value.int .i64 mx_) := cellB (kblk kk hb) 5; have z6 : w4.cell? ⟨B, 6, none⟩ = some (Value.bool lz) := cellB (kblk kk hb) 6; have z7 : w4.cell? ⟨B, 7, none⟩ = some (Value.slice D7 subs.length e7) := cellB (kblk kk hb) 7) | (go_at_call 24; refine (C24.out _ kk).mono ?_; clear C24; rintro e w4 ⟨rfl, kk⟩; have z0 : w4.cell? ⟨B, 0, none⟩ = some (Value.int .i64 kd) := cellB (kblk kk hb) 0; have z1 : w4.cell? ⟨B, 1, none⟩ = some (Value.slice D1 set.length e1) := cellB (kblk kk hb) 1; have z2 : w4.cell? ⟨B, 2, none⟩ = some (Value.int .i64 num) := cellB (kblk kk hb) 2; have z3 : w4.cell? ⟨B, 3, none⟩ = some (Value.string nm) := cellB (kblk kk hb) 3; have z4 : w4.cell? ⟨B, 4, none⟩ = some (Value.int .i64 mn) := cellB (kblk kk hb) 4; have z5 : w4.cell? ⟨B, 5, none⟩ = some (Value.int .i64 mx_) := cellB (kblk kk hb) 5; have z6 : w4.cell? ⟨B, 6, none⟩ = some (Value.bool lz) := cellB (kblk kk hb) 6; have z7 : w4.cell? ⟨B, 7, none⟩ = some (Value.slice D7 subs.length e7) := cellB (kblk kk hb) 7) | (go_at_call 40; refine (C40.out _ kk).mono ?_; clear C40; rintro e w4 ⟨rfl, kk⟩; have z0 : w4.cell? ⟨B, 0, none⟩ = some (Value.int .i64 kd) := cellB (kblk kk hb) 0; have z1 : w4.cell? ⟨B, 1, none⟩ = some (Value.slice D1 set.length e1) := cellB (kblk kk hb) 1; have z2 : w4.cell? ⟨B, 2, none⟩ = some (Value.int .i64 num) := cellB (kblk kk hb) 2; have z3 : w4.cell? ⟨B, 3, none⟩ = some (Value.string nm) := cellB (kblk kk hb) 3; have z4 : w4.cell? ⟨B, 4, none⟩ = some (Value.int .i64 mn) := cellB (kblk kk hb) 4; have z5 : w4.cell? ⟨B, 5, none⟩ = some (Value.int .i64 mx_) := cellB (kblk kk hb) 5; have z6 : w4.cell? ⟨B, 6, none⟩ = some (Value.bool lz) := cellB (kblk kk hb) 6; have z7 : w4.cell? ⟨B, 7, none⟩ = some (Value.slice D7 subs.length e7) := cellB (kblk kk hb) 7))
          go_ret
          exact ⟨rfl, (HK.out.trans kk).bel⟩
        · obtain rfl : j = 1000 := by omega
          go_wp2_with (first | (go_at_call 38; refine (C38.out _ kk).mono ?_; clear C38; rintro e w4 ⟨rfl, kk⟩; have z0 : w4.cell? ⟨B, 0, none⟩ = some (Value.int .i64 kd) := cellB (kblk kk hb) 0; have z1 : w4.cell? ⟨B, 1, none⟩ = some (Value.slice D1 set.length e1) := cellB (kblk kk hb) 1; have z2 : w4.cell? ⟨B, 2, none⟩ = some (Value.int .i64 num) := cellB (kblk kk hb) 2; have z3 : w4.cell? ⟨B, 3, none⟩ = some (Value.string nm) := cellB (kblk kk hb) 3; have z4 : w4.cell? ⟨B, 4, none⟩ = some (Value.int .i64 mn) := cellB (kblk kk hb) 4; have z5 : w4.cell? ⟨B, 5, none⟩ = some (Value.int .i64 mx_) := cellB (kblk kk hb) 5; have z6 : w4.cell? ⟨B, 6, none⟩ = some (Value.bool lz) := cellB (kblk kk hb) 6; have z7 : w4.cell? ⟨B, 7, none⟩ = some (Value.slice D7 subs.length e7) := cellB (kblk kk hb) 7) | (go_at_call 39; refine (C39.out _ kk).mono ?_; clear C39; rintro e w4 ⟨rfl, kk⟩; have z0 : w4.cell? ⟨B, 0, none⟩ = some (Value.int .i64 kd) := cellB (kblk kk hb) 0; have z1 : w4.cell? ⟨B, 1, none⟩ = some (Value.slice D1 set.length e1) := cellB (kblk kk hb) 1; have z2 : w4.cell? ⟨B, 2, none⟩ = some (Value.int .i64 num) := cellB (kblk kk hb) 2; have z3 : w4.cell? ⟨B, 3, none⟩ = some (Value.string nm) := cellB (kblk kk hb) 3; have z4 : w4.cell? ⟨B, 4, none⟩ = some (Value.int .i64 mn) := cellB (kblk kk hb) 4; have z5 : w4.cell? ⟨B, 5, none⟩ = some (Value.int .i64 mx_) := cellB (kblk kk hb) 5; have z6 : w4.cell? ⟨B, 6, none⟩ = some (Value.bool lz) := cellB (kblk kk hb) 6; have z7 : w4.cell? ⟨B, 7, none⟩ = some (Value.slice D7 subs.length e7) := cellB (kblk kk hb) 7) | (go_at_call 24; refine (C24.out _ kk).mono ?_; clear C24; rintro e w4 ⟨rfl, kk⟩; have z0 : w4.cell? ⟨B, 0, none⟩ = some (Value.int .i64 kd) := cellB (kblk kk hb) 0; have z1 : w4.cell? ⟨B, 1, none⟩ = some (Value.slice D1 set.length e1) := cellB (kblk kk hb) 1; have z2 : w4.cell? ⟨B, 2, none⟩ = some (Value.int .i64 num) := cellB (kblk kk hb) 2; have z3 : w4.cell? ⟨B, 3, none⟩ = some (Value.string nm) := cellB (kblk kk hb) 3; have z4 : w4.cell? ⟨B, 4, none⟩ = some (Value.int .i64 mn) := cellB (kblk kk hb) 4; have z5 : w4.cell? ⟨B, 5, none⟩ = some (Value.int .i64 mx_) := cellB (kblk kk hb) 5; have z6 : w4.cell? ⟨B, 6, none⟩ = some (Value.bool lz) := cellB (kblk kk hb) 6; have z7 : w4.cell? ⟨B, 7, none⟩ = some (Value.slice D7 subs.length e7) := cellB (kblk kk hb) 7) | (go_at_call 40; refine (C40.out _ kk).mono ?_; clear C40; rintro e w4 ⟨rfl, kk⟩; have z0 : w4.cell? ⟨B, 0, none⟩ = some (Value.int .i64 kd) := cellB (kblk kk hb) 0; have z1 : w4.cell? ⟨B, 1, none⟩ = some (Value.slice D1 set.length e1) := cellB (kblk kk hb) 1; have z2 : w4.cell? ⟨B, 2, none⟩ = some (Value.int .i64 num) := cellB (kblk kk hb) 2; have z3 : w4.cell? ⟨B, 3, none⟩ = some (Value.string nm) := cellB (kblk kk hb) 3; have z4 : w4.cell? ⟨B, 4, none⟩ = some (Value.int .i64 mn) := cellB (kblk kk hb) 4; have z5 : w4.cell? ⟨B, 5, none⟩ = some (Value.int .i64 mx_) := cellB (kblk kk hb) 5; have z6 : w4.cell? ⟨B, 6, none⟩ = some (Value.bool lz) := cellB (kblk kk hb) 6; have z7 : w4.cell? ⟨B, 7, none⟩ = some (Value.slice D7 subs.length e7) := cellB (kblk kk hb) 7))
          go_ret
          exact ⟨rfl, (HK.out.trans kk).bel⟩
      · have d1 : decide ((1000 : Int) ≤ (j : Int)) = false := decide_eq_false (by omega)
        have p1 : ¬ (1000 : Int) < (j : Int) + 1 := by omega
        have p2 : ¬ (1000 : Int) < (j : Int) := by omega
        rw [show min 1000 (j + 1) = j + 1 by omega, show ((j + 1 : Nat) : Int) = (j : Int) + 1 by omega] at C38
        rw [show min 1000 j + 1 = j + 1 by omega, show ((j + 1 : Nat) : Int) = (j : Int) + 1 by omega] at C39
        rw [if_neg h1000] at C24
        have wj : IntKind.i64.wrap ((j : Int) + 1) = (j : Int) + 1 := IntWalk.i64_in _ (by omega)
        have wj2 : wrap64 ((j : Int) + 1) = (j : Int) + 1 := by unfold wrap64; omega
        go_wp2_with (first | (go_at_call 38; refine (C38.out _ kk).mono ?_; clear C38; rintro e w4 ⟨rfl, kk⟩; have z0 : w4.cell? ⟨B, 0, none⟩ = some (Value.int .i64 kd) := cellB (kblk kk hb) 0; have z1 : w4.cell? ⟨B, 1, none⟩ = some (Value.slice D1 set.length e1) := cellB (kblk kk hb) 1; have z2 : w4.cell? ⟨B, 2, none⟩ = some (Value.int .i64 num) := cellB (kblk kk hb) 2; have z3 : w4.cell? ⟨B, 3, none⟩ = some (Value.string nm) := cellB (kblk kk hb) 3; have z4 : w4.cell? ⟨B, 4, none⟩ = some (Value.int .i64 mn) := cellB (kblk kk hb) 4; have z5 : w4.cell? ⟨B, 5, none⟩ = some (Value.int .i64 mx_) := cellB (kblk kk hb) 5; have z6 : w4.cell? ⟨B, 6, none⟩ = some (Value.bool lz) := cellB (kblk kk hb) 6; have z7 : w4.cell? ⟨B, 7, none⟩ = some (Value.slice D7 subs.length e7) := cellB (kblk kk hb) 7) | (go_at_call 39; refine (C39.out _ kk).mono ?_; clear C39; rintro e w4 ⟨rfl, kk⟩; have z0 : w4.cell? ⟨B, 0, none⟩ = some (Value.int .i64 kd) := cellB (kblk kk hb) 0; have z1 : w4.cell? ⟨B, 1, none⟩ = some (Value.slice D1 set.length e1) := cellB (kblk kk hb) 1; have z2 : w4.cell? ⟨B, 2, none⟩ = some (Value.int .i64 num) := cellB (kblk kk hb) 2; have z3 : w4.cell? ⟨B, 3, none⟩ = some (Value.string nm) := cellB (kblk kk hb) 3; have z4 : w4.cell? ⟨B, 4, none⟩ = some (Value.int .i64 mn) := cellB (kblk kk hb) 4; have z5 : w4.cell? ⟨B, 5, none⟩ = some (Value.int .i64 mx_) := cellB (kblk kk hb) 5; have z6 : w4.cell? ⟨B, 6, none⟩ = some (Value.bool lz) := cellB (kblk kk hb) 6; have z7 : w4.cell? ⟨B, 7, none⟩ = some (Value.slice D7 subs.length e7) := cellB (kblk kk hb) 7) | (go_at_call 24; refine (C24.out _ kk).mono ?_; clear C24; rintro e w4 ⟨rfl, kk⟩; have z0 : w4.cell? ⟨B, 0, none⟩ = some (Value.int .i64 kd) := cellB (kblk kk hb) 0; have z1 : w4.cell? ⟨B, 1, none⟩ = some (Value.slice D1 set.length e1) := cellB (kblk kk hb) 1; have z2 : w4.cell? ⟨B, 2, none⟩ = some (Value.int .i64 num) := cellB (kblk kk hb) 2; have z3 : w4.cell? ⟨B, 3, none⟩ = some (Value.string nm) := cellB (kblk kk hb) 3; have z4 : w4.cell? ⟨B, 4, none⟩ = some (Value.int .i64 mn) := cellB (kblk kk hb) 4; have z5 : w4.cell? ⟨B, 5, none⟩ = some (Value.int .i64 mx_) := cellB (kblk kk hb) 5; have z6 : w4.cell? ⟨B, 6, none⟩ = some (Value.bool lz) := cellB (kblk kk hb) 6; have z7 : w4.cell? ⟨B, 7, none⟩ = some (Value.slice D7 subs.length e7) := cellB (kblk kk hb) 7) | (go_at_call 40; refine (C40.out _ kk).mono ?_; clear C40; rintro e w4 ⟨rfl, kk⟩; have z0 : w4.cell? ⟨B, 0, none⟩ = some (Value.int .i64 kd) := cellB (kblk kk hb) 0; have z1 : w4.cell? ⟨B, 1, none⟩ = some (Value.slice D1 set.length e1) := cellB (kblk kk hb) 1; have z2 : w4.cell? ⟨B, 2, none⟩ = some (Value.int .i64 num) := cellB (kblk kk hb) 2; have z3 : w4.cell? ⟨B, 3, none⟩ = some (Value.string nm) := cellB (kblk kk hb) 3; have z4 : w4.cell? ⟨B, 4, none⟩ = some (Value.int .i64 mn) := cellB (kblk kk hb) 4; have z5 : w4.cell? ⟨B, 5, none⟩ = some (Value.int .i64 mx_) := cellB (kblk kk hb) 5; have z6 : w4.cell? ⟨B, 6, none⟩ = some (Value.bool lz) := cellB (kblk kk hb) 6; have z7 : w4.cell? ⟨B, 7, none⟩ = some (Value.slice D7 subs.length e7) := cellB (kblk kk hb) 7))
        go_ret
        exact ⟨rfl, (HK.out.trans kk).bel⟩
theorem deep_row (W : World) (a : Int) : Calls Try.prog 6 #[.int .i64 a] W fun e w' => e = .returned (.bool true) ∧ Below W.heap.size W w' := deep_walk a W
end Go.Proofs.Ytojlhlepneefoaa
