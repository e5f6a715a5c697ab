/- Merged by wip/tools/merge.py out of the texts M, N, O, P, each as it stood. -/
import Derived.Test.YtkjkkebaafmheaaDoorM1
import Derived.Test.YtkjkkebaafmheaaDoorPAllx5
/- Package prog: the walk of inst. -/
namespace Go.Proofs.YtkjkkebaafmheaaDoor
open Go.RowKit PAll Go.Proofs.YtkjkkebaafmheaaDoorW.PrintWords Go.Proofs.YtkjkkebaafmheaaDoorW.PrintLast Go.Proofs.YtkjkkebaafmheaaDoorW.PrintMore
open Go.Shelf
set_option linter.unusedVariables false
set_option linter.unusedSimpArgs false
theorem row_kp (w : World) (cs0 cs : Array Value) (t : TypeId) : Kp [] w ((w.alloc (.cells cs0 t)).setRow w.heap.size cs) :=
  ⟨rfl, rfl, rfl, by simp, fun k hk _ => (setRow_other _ _ _ _ (by omega)).trans (Below.heap_alloc w _ k hk)⟩
theorem row_new (w : World) (cs0 cs : Array Value) (t : TypeId) : ((w.alloc (.cells cs0 t)).setRow w.heap.size cs).heap[w.heap.size]? = some (.cells cs t (0, 0)) := setRow_heap _ _ _ _ _ _ (heap_alloc_new w _)
def zI : Array Value := #[.int .i64 0, .int .i64 0, .int .i64 0, .int .i64 0, .int .i64 0]
theorem info35 : (Tryd.prog.info? 35).map (·.size) = some 5 := by kernel_rfl
theorem rowAt_kp {w w' : World} {b : Nat} {cs : Array Value} (k : Kp [] w w') (hb : w.heap.size ≤ b) : Kp [] w (w'.setRow b cs) :=
  ⟨k.os, k.tape, k.output, by have := k.size; simpa [World.setRow] using this, fun i hi hn => (setRow_other _ _ _ _ (by omega)).trans (k.block i hi hn)⟩
theorem setB5 {w : World} {b : Nat} {t : TypeId} {x0 x1 x2 x3 x4 y0 y1 y2 y3 y4 : Value} (h : w.heap[b]? = some (.cells #[x0, x1, x2, x3, x4] t (0, 0))) :
    (((((w.setCell ⟨b, 0, none⟩ y0).setCell ⟨b, 1, none⟩ y1).setCell ⟨b, 2, none⟩ y2).setCell ⟨b, 3, none⟩ y3).setCell ⟨b, 4, none⟩ y4).heap[b]? = some (.cells #[y0, y1, y2, y3, y4] t (0, 0)) := setB (setB (setB (setB (setB h 0 y0) 1 y1) 2 y2) 3 y3) 4 y4
theorem set5_kp {w w' : World} {b : Nat} {y0 y1 y2 y3 y4 : Value} (k : Kp [] w w') (hb : w.heap.size ≤ b) :
    Kp [] w (((((w'.setCell ⟨b, 0, none⟩ y0).setCell ⟨b, 1, none⟩ y1).setCell ⟨b, 2, none⟩ y2).setCell ⟨b, 3, none⟩ y3).setCell ⟨b, 4, none⟩ y4) := ((((k.setNew hb _).setNew hb _).setNew hb _).setNew hb _).setNew hb _
def InstPost (l : List UInt8) (w : World) (e : Ending) (w' : World) : Prop := Kp [] w w' ∧ ∃ (x : S35) (ok : Bool), e = .returned (.tuple #[.agg #[.int .i64 x.f0, .int .i64 x.f1, .int .i64 x.f2, .int .i64 x.f3, .int .i64 x.f4], .bool ok]) ∧ ok = (instL l).isSome ∧ ∀ y, instL l = some y → x = y
set_option maxRecDepth 100000 in
set_option maxHeartbeats 4000000 in
theorem inst_none (l t : List UInt8) (v : Value) (ok : Bool) (m : Int) (w : World) (hbad : (ok = true → opI t = -1))
    (hP : ∀ W, Kp [] w W → Calls Tryd.prog 26 #[.string (bs l)] W fun e w' => Kp [] W w' ∧ e = .returned (.tuple #[.string (bs t), v, .bool ok]))
    (hN : instL l = none) :
    Calls Tryd.prog 27 #[.string (bs l)] w (InstPost l w) := by
  have kk := (Kp.refl [] w).alloc (.cells #[.int .i64 0, .int .i64 0, .int .i64 0, .int .i64 0, .int .i64 0] 35)
  have hb2 := heap_alloc_new w (.cells #[.int .i64 0, .int .i64 0, .int .i64 0, .int .i64 0, .int .i64 0] 35)
  have P1 := Lib.hid (hP _ kk)
  have WC := Lib.hid words_any
  have IX := Lib.hid ix_calls
  replace hN := Lib.hid hN
  clear hP
  go_enter Tryd.func27, Tryd.ntmps27
  go_wp2_with (go_at_call 26; refine P1.out.mono ?_; rintro e w1 ⟨k1, rfl⟩)
  refine (WC.out _).mono ?_
  rintro e w2 ⟨rfl, k2⟩
  have c4 : (w1.alloc (Obj.cells #[Value.string (bs t)] 9)).cell? ⟨w1.heap.size, 0, none⟩ = some (.string (bs t)) := cell_new1 _ _ _ rfl
  replace c4 := kcell k2 c4
  have hb2 := kblk k2 (kblk ((Kp.refl [] w1).alloc _) (kblk k1 hb2))
  have k02 := ((kk.trans k1).alloc _).trans k2
  clear k1 k2 P1 kk
  obtain ⟨b4, hb4⟩ : ∃ b, b = w1.heap.size := ⟨_, rfl⟩
  rw [← hb4] at c4 ⊢
  clear hb4
  obtain ⟨b2, hb2e⟩ : ∃ b, b = w.heap.size := ⟨_, rfl⟩
  have hge : w.heap.size ≤ b2 := by omega
  rw [← hb2e] at hb2 ⊢
  clear hb2e
  go_wp2_with (with_reducible refine wpList_store_row rfl 58 (.tmp 7) (.tmp 18) rfl w2.heap.size wordsC rfl rfl 58 _ (heap_alloc_new w2 _) info86 rfl wordsC_one ?_)
  refine (IX.out t _ b4 _ (row_new _ _ _ _) (kcell (row_kp _ _ _ _) c4)).mono ?_
  rintro e w4 ⟨rfl, k4⟩
  have k24 := (row_kp _ _ _ _).trans k4
  clear k4
  replace c4 := kcell k24 c4
  replace hb2 := kblk k24 hb2
  have k04 := k02.trans k24
  clear k24 k02
  have e0 := cellB hb2 0; have e1 := cellB hb2 1; have e2 := cellB hb2 2; have e3 := cellB hb2 3; have e4 := cellB hb2 4
  have f0 := frozB hb2 0; have f1 := frozB hb2 1; have f2 := frozB hb2 2; have f3 := frozB hb2 3; have f4 := frozB hb2 4
  simp at e0 e1 e2 e3 e4
  cases ok with
  | false =>
    go_wp2_with fail
    refine bodyPost_ret (results_ct rfl _ _ b2 35 #[.int .i64 0, .int .i64 0, .int .i64 0, .int .i64 0, .int .i64 0] (0, 0) _ rfl (setB5 hb2) Tryd.underlying35 rfl info35) rfl ?_
    exact ⟨set5_kp k04 hge, ⟨0, 0, 0, 0, 0⟩, false, rfl, by rw [hN.out]; rfl, by rw [hN.out]; simp⟩
  | true =>
    have ho : opI t = -1 := hbad rfl
    rw [ho]
    clear ho hbad
    go_wp2_with fail
    refine bodyPost_ret (results_ct rfl _ _ b2 35 #[.int .i64 0, .int .i64 0, .int .i64 0, .int .i64 0, .int .i64 0] (0, 0) _ rfl (setB5 hb2) Tryd.underlying35 rfl info35) rfl ?_
    exact ⟨set5_kp k04 hge, ⟨0, 0, 0, 0, 0⟩, false, rfl, by rw [hN.out]; rfl, by rw [hN.out]; simp⟩
set_option maxRecDepth 100000 in
set_option maxHeartbeats 4000000 in
theorem inst_nopart (l t : List UInt8) (ns : List Nat) (m : Int) (w : World) (ho : opI t = -1)
    (hP : ∀ W, Kp [] w W → Calls Tryd.prog 26 #[.string (bs l)] W fun e w' => Kp [] W w' ∧ ∃ v, e = .returned (.tuple #[.string (bs t), v, .bool true]) ∧ w'.ownsRow W.heap.size 3 1 v ns.length (nums ns))
    (hN : instL l = none) :
    Calls Tryd.prog 27 #[.string (bs l)] w (InstPost l w) := by
  have kk := (Kp.refl [] w).alloc (.cells #[.int .i64 0, .int .i64 0, .int .i64 0, .int .i64 0, .int .i64 0] 35)
  have hb2 := heap_alloc_new w (.cells #[.int .i64 0, .int .i64 0, .int .i64 0, .int .i64 0, .int .i64 0] 35)
  have P1 := Lib.hid (hP _ kk)
  have WC := Lib.hid words_any
  have IX := Lib.hid ix_calls
  replace hN := Lib.hid hN
  clear hP
  go_enter Tryd.func27, Tryd.ntmps27
  go_wp2_with fail
  refine P1.out.mono ?_
  rintro e w1 ⟨k1, v, rfl, _⟩
  go_wp2_with fail
  refine (WC.out _).mono ?_
  rintro e w2 ⟨rfl, k2⟩
  have c4 : (w1.alloc (Obj.cells #[Value.string (bs t)] 9)).cell? ⟨w1.heap.size, 0, none⟩ = some (.string (bs t)) := cell_new1 _ _ _ rfl
  replace c4 := kcell k2 c4
  have hb2 := kblk k2 (kblk ((Kp.refl [] w1).alloc _) (kblk k1 hb2))
  have k02 := ((kk.trans k1).alloc _).trans k2
  clear k1 k2 P1 kk
  obtain ⟨b4, hb4⟩ : ∃ b, b = w1.heap.size := ⟨_, rfl⟩
  rw [← hb4] at c4 ⊢
  clear hb4
  obtain ⟨b2, hb2e⟩ : ∃ b, b = w.heap.size := ⟨_, rfl⟩
  have hge : w.heap.size ≤ b2 := by omega
  rw [← hb2e] at hb2 ⊢
  clear hb2e
  go_wp2_with (with_reducible refine wpList_store_row rfl 58 (.tmp 7) (.tmp 18) rfl w2.heap.size wordsC rfl rfl 58 _ (heap_alloc_new w2 _) info86 rfl wordsC_one ?_)
  refine (IX.out t _ b4 _ (row_new _ _ _ _) (kcell (row_kp _ _ _ _) c4)).mono ?_
  rintro e w4 ⟨rfl, k4⟩
  have k24 := (row_kp _ _ _ _).trans k4
  clear k4
  replace c4 := kcell k24 c4
  replace hb2 := kblk k24 hb2
  have k04 := k02.trans k24
  clear k24 k02
  have e0 := cellB hb2 0; have e1 := cellB hb2 1; have e2 := cellB hb2 2; have e3 := cellB hb2 3; have e4 := cellB hb2 4
  have f0 := frozB hb2 0; have f1 := frozB hb2 1; have f2 := frozB hb2 2; have f3 := frozB hb2 3; have f4 := frozB hb2 4
  simp at e0 e1 e2 e3 e4
  rw [ho]
  clear ho
  go_wp2_with fail
  refine bodyPost_ret (results_ct rfl _ _ b2 35 #[.int .i64 0, .int .i64 0, .int .i64 0, .int .i64 0, .int .i64 0] (0, 0) _ rfl (setB5 hb2) Tryd.underlying35 rfl info35) rfl ?_
  exact ⟨set5_kp k04 hge, ⟨0, 0, 0, 0, 0⟩, false, rfl, by rw [hN.out]; rfl, by rw [hN.out]; simp⟩
end Go.Proofs.YtkjkkebaafmheaaDoor
/- Package prog: the walk of inst where a line has a word and numbers. -/
namespace Go.Proofs.YtkjkkebaafmheaaDoor
open Go.RowKit PAll Go.Proofs.YtkjkkebaafmheaaDoorW.PrintWords Go.Proofs.YtkjkkebaafmheaaDoorW.PrintLast Go.Proofs.YtkjkkebaafmheaaDoorW.PrintMore
open Go.Shelf
set_option linter.unusedVariables false
set_option linter.unusedSimpArgs false
theorem fields_op (x : S35) (h : 1 ≤ x.f0 ∧ x.f0 ≤ 6) (w : World) :
    Calls Tryd.prog 21 #[.agg #[.int .i64 x.f0, .int .i64 x.f1, .int .i64 x.f2, .int .i64 x.f3, .int .i64 x.f4]] w (FieldsPost x (ownF x.f0).1 (ownF x.f0).2.1 (ownF x.f0).2.2.1 (ownF x.f0).2.2.2 w) := by
  obtain ⟨op, lo, hi, X, Y⟩ := x
  dsimp only at h
  obtain rfl | rfl | rfl | rfl | rfl | rfl : op = 1 ∨ op = 2 ∨ op = 3 ∨ op = 4 ∨ op = 5 ∨ op = 6 := by omega
  · exact fields_gen w _ _ _ _ _ _ idx1
  · exact fields_gen w _ _ _ _ _ _ idx2
  · exact fields_gen w _ _ _ _ _ _ idx3
  · exact fields_gen w _ _ _ _ _ _ idx4
  · exact fields_gen w _ _ _ _ _ _ idx5
  · exact fields_gen w _ _ _ _ _ _ idx6
def xC (x : S35) : Array Value := #[.int .i64 x.f0, .int .i64 x.f1, .int .i64 x.f2, .int .i64 x.f3, .int .i64 x.f4]
theorem fill_skip {p q r s : Bool} {ns : List Nat} {op : Int} {j k : Nat} {x : S35} (h : fillS p q r s ns op j = some (x, k)) (ho : ownAt p q r s j = false) : fillS p q r s ns op (j + 1) = some (x, k) := by
  unfold fillS; rw [h]; simp [ho]
theorem fill_take {p q r s : Bool} {ns : List Nat} {op : Int} {j k : Nat} {x : S35} (h : fillS p q r s ns op j = some (x, k)) (ho : ownAt p q r s j = true) (hk : k < ns.length) : fillS p q r s ns op (j + 1) = some (setF j x (ns.getD k 0 : Nat), k + 1) := by
  unfold fillS; rw [h]; simp [ho, hk]
theorem fill_stop {p q r s : Bool} {ns : List Nat} {op : Int} {j k : Nat} {x : S35} (h : fillS p q r s ns op j = some (x, k)) (ho : ownAt p q r s j = true) (hk : k = ns.length) (hj : j < 4) : fillR p q r s ns op = none := by
  have h1 : fillS p q r s ns op (j + 1) = none := by unfold fillS; rw [h]; simp [ho, hk]
  have h2 := fillS_none h1 (3 - j)
  rw [show j + 1 + (3 - j) = 4 by omega] at h2
  unfold fillR; rw [h2]
theorem fill_end {p q r s : Bool} {ns : List Nat} {op : Int} {k : Nat} {x : S35} (h : fillS p q r s ns op 4 = some (x, k)) : fillR p q r s ns op = if k = ns.length then some x else none := by
  unfold fillR; rw [h]
theorem kp9 {w w5 wr : World} {b9 : Nat} (k : Kp [] w w5) (kk : Kp [b9] w5 wr) (h : w.heap.size ≤ b9) : Kp [] w wr := k.into kk (fun x hx => .inl (by simp at hx; omega))
def FillI (w5 : World) (b9 g c : Nat) (p q r s : Bool) (ns : List Nat) (op : Int) (sv cv : Value) (wr : World) : Prop :=
  ∃ (j k N C : Nat) (x : S35) (A : Option Addr), cv = .int .i64 j ∧ j ≤ 4 ∧ Aside0 (fillS p q r s ns op j = some (x, k)) ∧ sv = .slice A N C ∧ Hid (N + k = ns.length ∧ C + k = c) ∧ (k < ns.length → A = some ⟨g, k, none⟩) ∧
    Kp [b9] w5 wr ∧ wr.heap[b9]? = some (.cells #[.int .i64 x.f0, .int .i64 x.f1, .int .i64 x.f2, .int .i64 x.f3, .int .i64 x.f4] 35 (0, 0))
set_option maxRecDepth 100000 in
set_option maxHeartbeats 8000000 in
theorem inst_some (l t : List UInt8) (ns : List Nat) (op : Int) (p q r s : Bool) (w : World) (hop : opI t = op) (hop1 : 1 ≤ op) (hop6 : op ≤ 6) (hns : ns.length ≤ 4000000)
    (hP : ∀ W, Kp [] w W → Calls Tryd.prog 26 #[.string (bs l)] W fun e w' => Kp [] W w' ∧ ∃ v, e = .returned (.tuple #[.string (bs t), v, .bool true]) ∧ w'.ownsRow W.heap.size 3 1 v ns.length (nums ns))
    (hF : ∀ W, Calls Tryd.prog 21 #[.agg #[.int .i64 op, .int .i64 0, .int .i64 0, .int .i64 0, .int .i64 0]] W (FieldsPost ⟨op, 0, 0, 0, 0⟩ p q r s W))
    (hR : instL l = fillR p q r s ns op) :
    Calls Tryd.prog 27 #[.string (bs l)] w (InstPost l w) := by
  have kk := (Kp.refl [] w).alloc (.cells #[.int .i64 0, .int .i64 0, .int .i64 0, .int .i64 0, .int .i64 0] 35)
  have hb2 := heap_alloc_new w (.cells #[.int .i64 0, .int .i64 0, .int .i64 0, .int .i64 0, .int .i64 0] 35)
  have P1 := Lib.hid (hP _ kk)
  have WC := Lib.hid words_any
  have IX := Lib.hid ix_calls
  have FC := Lib.hid hF
  replace hR := Lib.hid hR
  clear hP hF
  go_enter Tryd.func27, Tryd.ntmps27
  go_wp2_with fail
  refine P1.out.mono ?_
  rintro e w1 ⟨k1, v, rfl, hO⟩
  obtain ⟨A, c, g, rfl, hc1, hc2, hg⟩ := own_open hO
  clear hO
  go_wp2_with fail
  refine (WC.out _).mono ?_
  rintro e w2 ⟨rfl, k2⟩
  have c4 : (w1.alloc (Obj.cells #[Value.string (bs t)] 9)).cell? ⟨w1.heap.size, 0, none⟩ = some (.string (bs t)) := cell_new1 _ _ _ rfl
  replace c4 := kcell k2 c4
  have hb2 := kblk k2 (kblk ((Kp.refl [] w1).alloc _) (kblk k1 hb2))
  have k12 := ((Kp.refl [] w1).alloc _).trans k2
  have k02 := (kk.trans k1).trans k12
  clear k1 k2 P1 kk
  obtain ⟨b4, hb4⟩ : ∃ b, b = w1.heap.size := ⟨_, rfl⟩
  rw [← hb4] at c4 ⊢
  clear hb4
  obtain ⟨b2, hb2e⟩ : ∃ b, b = w.heap.size := ⟨_, rfl⟩
  have hge : w.heap.size ≤ b2 := by omega
  rw [← hb2e] at hb2 ⊢
  clear hb2e
  go_wp2_with (with_reducible refine wpList_store_row rfl 58 (.tmp 7) (.tmp 18) rfl w2.heap.size wordsC rfl rfl 58 _ (heap_alloc_new w2 _) info86 rfl wordsC_one ?_)
  refine (IX.out t _ b4 _ (row_new _ _ _ _) (kcell (row_kp _ _ _ _) c4)).mono ?_
  rintro e w4 ⟨rfl, k4⟩
  have k24 := (row_kp _ _ _ _).trans k4
  clear k4
  replace c4 := kcell k24 c4
  replace hb2 := kblk k24 hb2
  have k04 := k02.trans k24
  have k14 := k12.trans k24
  clear k24 k02 k12
  rw [hop]
  have dop : decide (op < 0) = false := decide_eq_false (by omega)
  go_wp2_with fail
  refine (FC.out _).mono ?_
  rintro e w5 ⟨k5, gF, rfl, hF⟩
  have hb9 := kblk k5 (heap_alloc_new w4 _)
  have k45 := ((Kp.refl [] w4).alloc _).trans k5
  clear k5
  obtain ⟨b9, hb9e⟩ : ∃ b, b = w4.heap.size := ⟨_, rfl⟩
  rw [← hb9e] at hb9 ⊢
  have n92 : b9 ≠ b2 := by have := ltB hb2; omega
  have ge9 : w.heap.size ≤ b9 := by have := k04.size; omega
  have lt9 := ltB hb9
  have hgg : 0 < ns.length → b9 ≠ g ∧ ∀ W' : World, W'.heap[g]? = w5.heap[g]? → ∀ i, i < ns.length → W'.cell? ⟨g, i, none⟩ = some (.int .i64 ((ns.getD i 0 : Nat) : Int)) := by
    intro h0
    obtain ⟨_, hlt, hcc⟩ := hg h0
    refine ⟨by have := k14.size; omega, fun W' hW => hcc W' (hW.trans ((k14.trans k45).block g hlt (by simp)))⟩
  have hA0 : 0 < ns.length → A = some ⟨g, 0, none⟩ := fun h => (hg h).1
  have hglt : 0 < ns.length → g < w5.heap.size := fun h => by have := (hg h).2.1; have := k14.size; have := k45.size; omega
  clear hg
  replace hb2 := kblk k45 hb2
  have k05 := k04.trans k45
  have n9F : b9 ≠ gF := by rintro rfl; rw [hb9] at hF; simp at hF
  have ltF := ltB hF
  clear hb9e k45 k04 k14 c4
  have HGG := Lib.hid hgg
  have HA0 := Lib.hid hA0
  clear hgg hA0
  go_wp2_with fail
  go_loopw [5, 34] (fun sv cv wr => FillI w5 b9 g c p q r s ns op sv cv wr) (fun _ cv _ => 4 - (intOf cv).toNat)
  case atStart => exact ⟨0, 0, ns.length, c, ⟨op, 0, 0, 0, 0⟩, A, rfl, by omega, ⟨rfl⟩, rfl, Lib.hid ⟨rfl, rfl⟩, HA0.out, Kp.refl _ _, hb9⟩
  case round =>
    obtain ⟨j, k, N, C, x, A', rfl, hj, hfs, rfl, hNC, hA', kk, hx⟩ := hrel
    have hk := fillS_le p q r s ns op j x k hfs.out
    have hFr : wr.heap[gF]? = _ := (kk.block gF ltF (by simpa using Ne.symm n9F)).trans hF
    have h2r : wr.heap[b2]? = _ := (kk.block b2 (ltB hb2) (by simpa using Ne.symm n92)).trans hb2
    have e0 := cellB hx 0; have e1 := cellB hx 1; have e2 := cellB hx 2; have e3 := cellB hx 3; have e4 := cellB hx 4
    have f1 := frozB hx 1; have f2 := frozB hx 2; have f3 := frozB hx 3; have f4 := frozB hx 4
    simp at e0 e1 e2 e3 e4
    have lt9r := ltB hx
    have lt2r := ltB h2r
    have ltFr := ltB hFr
    have d0 := cellB hFr 0; have d1 := cellB hFr 1; have d2 := cellB hFr 2; have d3 := cellB hFr 3; have d4 := cellB hFr 4; have d5 := cellB hFr 5; have d6 := cellB hFr 6; have d7 := cellB hFr 7
    simp at d0 d1 d2 d3 d4 d5 d6 d7
    have g0 := cellB h2r 0; have g1 := cellB h2r 1; have g2 := cellB h2r 2; have g3 := cellB h2r 3; have g4 := cellB h2r 4
    simp at g0 g1 g2 g3 g4
    have q0 := frozB h2r 0; have q1 := frozB h2r 1; have q2 := frozB h2r 2; have q3 := frozB h2r 3; have q4 := frozB h2r 4
    have hgk : k < ns.length → g < wr.heap.size ∧ b9 ≠ g ∧ wr.cell? ⟨g, k, none⟩ = some (.int .i64 ((ns.getD k 0 : Nat) : Int)) := by
      intro h
      obtain ⟨h1, h2⟩ := HGG.out (by omega)
      have h3 := hglt (by omega)
      exact ⟨Nat.lt_of_lt_of_le h3 kk.size, h1, h2 wr (kk.block g h3 (by simpa using Ne.symm h1)) k h⟩
    obtain rfl | rfl | rfl | rfl | rfl : j = 0 ∨ j = 1 ∨ j = 2 ∨ j = 3 ∨ j = 4 := by omega
    · cases p with
      | false =>
        have hs := Lib.hid (fill_skip hfs.out rfl)
        clear hgk
        go_wp2_with fail
        go_roundw
        case rel => exact ⟨1, k, N, C, x, A', rfl, by omega, ⟨hs.out⟩, rfl, hNC, hA', kk.alloc _, kblk ((Kp.refl [] _).alloc _) hx⟩
        case measure => simp [intOf]
      | true =>
        by_cases hkn : k = ns.length
        · have hs := Lib.hid (hR.out.trans (fill_stop hfs.out rfl hkn (by omega)))
          obtain rfl : N = 0 := by have := hNC.out; omega
          clear hA' hgk
          replace hkn := Lib.hid hkn
          go_wp2_with fail
          refine bodyPost_ret (results_ct rfl _ _ b2 35 #[.int .i64 0, .int .i64 0, .int .i64 0, .int .i64 0, .int .i64 0] (0, 0) _ rfl (kblk ((Kp.refl [] _).alloc _) (setB5 h2r)) Tryd.underlying35 rfl info35) rfl ?_
          exact ⟨(set5_kp (kp9 k05 kk ge9) hge).alloc _, ⟨0, 0, 0, 0, 0⟩, false, rfl, by rw [hs.out]; rfl, by rw [hs.out]; simp⟩
        · have hk1 : k < ns.length := by omega
          obtain ⟨h1, h2, h3⟩ := hgk hk1
          have hs := fill_take hfs.out rfl hk1
          generalize ns.getD k 0 = u at h3 hs
          replace hs := Lib.hid hs
          have hA2 := hA' hk1
          subst hA2
          have hN1 : 1 ≤ N := by have := hNC.out; omega
          have hNle : N ≤ C := by have := hNC.out; omega
          have hNC1 : Hid (N - 1 + (k + 1) = ns.length ∧ C - 1 + (k + 1) = c) := Lib.hid (by have := hNC.out; omega)
          have dN : ((N : Int) == 0) = false := by simp; omega
          clear hA' hgk hkn
          by_cases hC : C = 1
          · subst hC
            have hNN : ¬ k + 1 < ns.length := by have := hNC.out; omega
            have hN0 : N - 1 = 0 := by omega
            rw [hN0] at hNC1
            clear hN0
            go_wp2_with fail
            go_roundw
            case rel => exact ⟨1, k + 1, 0, 0, setF 0 x u, some ⟨g, k, none⟩, rfl, by omega, ⟨hs.out⟩, rfl, hNC1, fun h => absurd h hNN, (kk.setCell (by simp) _).alloc _, kblk ((Kp.refl [] _).alloc _) (setB hx 1 _)⟩
            case measure => simp [intOf]
          · go_wp2_with fail
            go_roundw
            case rel => exact ⟨1, k + 1, N - 1, C - 1, setF 0 x u, some ⟨g, k + 1, none⟩, rfl, by omega, ⟨hs.out⟩, rfl, hNC1, fun _ => rfl, (kk.setCell (by simp) _).alloc _, kblk ((Kp.refl [] _).alloc _) (setB hx 1 _)⟩
            case measure => simp [intOf]
    · cases q with
      | false =>
        have hs := Lib.hid (fill_skip hfs.out rfl)
        clear hgk
        go_wp2_with fail
        go_roundw
        case rel => exact ⟨2, k, N, C, x, A', rfl, by omega, ⟨hs.out⟩, rfl, hNC, hA', kk.alloc _, kblk ((Kp.refl [] _).alloc _) hx⟩
        case measure => simp [intOf]
      | true =>
        by_cases hkn : k = ns.length
        · have hs := Lib.hid (hR.out.trans (fill_stop hfs.out rfl hkn (by omega)))
          obtain rfl : N = 0 := by have := hNC.out; omega
          clear hA' hgk
          replace hkn := Lib.hid hkn
          go_wp2_with fail
          refine bodyPost_ret (results_ct rfl _ _ b2 35 #[.int .i64 0, .int .i64 0, .int .i64 0, .int .i64 0, .int .i64 0] (0, 0) _ rfl (kblk ((Kp.refl [] _).alloc _) (setB5 h2r)) Tryd.underlying35 rfl info35) rfl ?_
          exact ⟨(set5_kp (kp9 k05 kk ge9) hge).alloc _, ⟨0, 0, 0, 0, 0⟩, false, rfl, by rw [hs.out]; rfl, by rw [hs.out]; simp⟩
        · have hk1 : k < ns.length := by omega
          obtain ⟨h1, h2, h3⟩ := hgk hk1
          have hs := fill_take hfs.out rfl hk1
          generalize ns.getD k 0 = u at h3 hs
          replace hs := Lib.hid hs
          have hA2 := hA' hk1
          subst hA2
          have hN1 : 1 ≤ N := by have := hNC.out; omega
          have hNle : N ≤ C := by have := hNC.out; omega
          have hNC1 : Hid (N - 1 + (k + 1) = ns.length ∧ C - 1 + (k + 1) = c) := Lib.hid (by have := hNC.out; omega)
          have dN : ((N : Int) == 0) = false := by simp; omega
          clear hA' hgk hkn
          by_cases hC : C = 1
          · subst hC
            have hNN : ¬ k + 1 < ns.length := by have := hNC.out; omega
            have hN0 : N - 1 = 0 := by omega
            rw [hN0] at hNC1
            clear hN0
            go_wp2_with fail
            go_roundw
            case rel => exact ⟨2, k + 1, 0, 0, setF 1 x u, some ⟨g, k, none⟩, rfl, by omega, ⟨hs.out⟩, rfl, hNC1, fun h => absurd h hNN, (kk.setCell (by simp) _).alloc _, kblk ((Kp.refl [] _).alloc _) (setB hx 2 _)⟩
            case measure => simp [intOf]
          · go_wp2_with fail
            go_roundw
            case rel => exact ⟨2, k + 1, N - 1, C - 1, setF 1 x u, some ⟨g, k + 1, none⟩, rfl, by omega, ⟨hs.out⟩, rfl, hNC1, fun _ => rfl, (kk.setCell (by simp) _).alloc _, kblk ((Kp.refl [] _).alloc _) (setB hx 2 _)⟩
            case measure => simp [intOf]
    · cases r with
      | false =>
        have hs := Lib.hid (fill_skip hfs.out rfl)
        clear hgk
        go_wp2_with fail
        go_roundw
        case rel => exact ⟨3, k, N, C, x, A', rfl, by omega, ⟨hs.out⟩, rfl, hNC, hA', kk.alloc _, kblk ((Kp.refl [] _).alloc _) hx⟩
        case measure => simp [intOf]
      | true =>
        by_cases hkn : k = ns.length
        · have hs := Lib.hid (hR.out.trans (fill_stop hfs.out rfl hkn (by omega)))
          obtain rfl : N = 0 := by have := hNC.out; omega
          clear hA' hgk
          replace hkn := Lib.hid hkn
          go_wp2_with fail
          refine bodyPost_ret (results_ct rfl _ _ b2 35 #[.int .i64 0, .int .i64 0, .int .i64 0, .int .i64 0, .int .i64 0] (0, 0) _ rfl (kblk ((Kp.refl [] _).alloc _) (setB5 h2r)) Tryd.underlying35 rfl info35) rfl ?_
          exact ⟨(set5_kp (kp9 k05 kk ge9) hge).alloc _, ⟨0, 0, 0, 0, 0⟩, false, rfl, by rw [hs.out]; rfl, by rw [hs.out]; simp⟩
        · have hk1 : k < ns.length := by omega
          obtain ⟨h1, h2, h3⟩ := hgk hk1
          have hs := fill_take hfs.out rfl hk1
          generalize ns.getD k 0 = u at h3 hs
          replace hs := Lib.hid hs
          have hA2 := hA' hk1
          subst hA2
          have hN1 : 1 ≤ N := by have := hNC.out; omega
          have hNle : N ≤ C := by have := hNC.out; omega
          have hNC1 : Hid (N - 1 + (k + 1) = ns.length ∧ C - 1 + (k + 1) = c) := Lib.hid (by have := hNC.out; omega)
          have dN : ((N : Int) == 0) = false := by simp; omega
          clear hA' hgk hkn
          by_cases hC : C = 1
          · subst hC
            have hNN : ¬ k + 1 < ns.length := by have := hNC.out; omega
            have hN0 : N - 1 = 0 := by omega
            rw [hN0] at hNC1
            clear hN0
            go_wp2_with fail
            go_roundw
            case rel => exact ⟨3, k + 1, 0, 0, setF 2 x u, some ⟨g, k, none⟩, rfl, by omega, ⟨hs.out⟩, rfl, hNC1, fun h => absurd h hNN, (kk.setCell (by simp) _).alloc _, kblk ((Kp.refl [] _).alloc _) (setB hx 3 _)⟩
            case measure => simp [intOf]
          · go_wp2_with fail
            go_roundw
            case rel => exact ⟨3, k + 1, N - 1, C - 1, setF 2 x u, some ⟨g, k + 1, none⟩, rfl, by omega, ⟨hs.out⟩, rfl, hNC1, fun _ => rfl, (kk.setCell (by simp) _).alloc _, kblk ((Kp.refl [] _).alloc _) (setB hx 3 _)⟩
            case measure => simp [intOf]
    · cases s with
      | false =>
        have hs := Lib.hid (fill_skip hfs.out rfl)
        clear hgk
        go_wp2_with fail
        go_roundw
        case rel => exact ⟨4, k, N, C, x, A', rfl, by omega, ⟨hs.out⟩, rfl, hNC, hA', kk.alloc _, kblk ((Kp.refl [] _).alloc _) hx⟩
        case measure => simp [intOf]
      | true =>
        by_cases hkn : k = ns.length
        · have hs := Lib.hid (hR.out.trans (fill_stop hfs.out rfl hkn (by omega)))
          obtain rfl : N = 0 := by have := hNC.out; omega
          clear hA' hgk
          replace hkn := Lib.hid hkn
          go_wp2_with fail
          refine bodyPost_ret (results_ct rfl _ _ b2 35 #[.int .i64 0, .int .i64 0, .int .i64 0, .int .i64 0, .int .i64 0] (0, 0) _ rfl (kblk ((Kp.refl [] _).alloc _) (setB5 h2r)) Tryd.underlying35 rfl info35) rfl ?_
          exact ⟨(set5_kp (kp9 k05 kk ge9) hge).alloc _, ⟨0, 0, 0, 0, 0⟩, false, rfl, by rw [hs.out]; rfl, by rw [hs.out]; simp⟩
        · have hk1 : k < ns.length := by omega
          obtain ⟨h1, h2, h3⟩ := hgk hk1
          have hs := fill_take hfs.out rfl hk1
          generalize ns.getD k 0 = u at h3 hs
          replace hs := Lib.hid hs
          have hA2 := hA' hk1
          subst hA2
          have hN1 : 1 ≤ N := by have := hNC.out; omega
          have hNle : N ≤ C := by have := hNC.out; omega
          have hNC1 : Hid (N - 1 + (k + 1) = ns.length ∧ C - 1 + (k + 1) = c) := Lib.hid (by have := hNC.out; omega)
          have dN : ((N : Int) == 0) = false := by simp; omega
          clear hA' hgk hkn
          by_cases hC : C = 1
          · subst hC
            have hNN : ¬ k + 1 < ns.length := by have := hNC.out; omega
            have hN0 : N - 1 = 0 := by omega
            rw [hN0] at hNC1
            clear hN0
            go_wp2_with fail
            go_roundw
            case rel => exact ⟨4, k + 1, 0, 0, setF 3 x u, some ⟨g, k, none⟩, rfl, by omega, ⟨hs.out⟩, rfl, hNC1, fun h => absurd h hNN, (kk.setCell (by simp) _).alloc _, kblk ((Kp.refl [] _).alloc _) (setB hx 4 _)⟩
            case measure => simp [intOf]
          · go_wp2_with fail
            go_roundw
            case rel => exact ⟨4, k + 1, N - 1, C - 1, setF 3 x u, some ⟨g, k + 1, none⟩, rfl, by omega, ⟨hs.out⟩, rfl, hNC1, fun _ => rfl, (kk.setCell (by simp) _).alloc _, kblk ((Kp.refl [] _).alloc _) (setB hx 4 _)⟩
            case measure => simp [intOf]
    · by_cases hkn : k = ns.length
      · have hs := Lib.hid (hR.out.trans ((fill_end hfs.out).trans (if_pos hkn)))
        obtain rfl : N = 0 := by have := hNC.out; omega
        clear hA' hgk
        replace hkn := Lib.hid hkn
        go_wp2_with fail
        refine bodyPost_ret (results_ct rfl _ _ b2 35 #[.int .i64 x.f0, .int .i64 x.f1, .int .i64 x.f2, .int .i64 x.f3, .int .i64 x.f4] (0, 0) _ rfl (setB5 h2r) Tryd.underlying35 rfl info35) rfl ?_
        exact ⟨set5_kp (kp9 k05 kk ge9) hge, x, true, rfl, by rw [hs.out]; rfl, by rw [hs.out]; simp⟩
      · have hs := Lib.hid (hR.out.trans ((fill_end hfs.out).trans (if_neg hkn)))
        have dN : ((N : Int) == 0) = false := by have := hNC.out; simp; omega
        clear hA' hgk
        replace hkn := Lib.hid hkn
        go_wp2_with fail
        refine bodyPost_ret (results_ct rfl _ _ b2 35 #[.int .i64 x.f0, .int .i64 x.f1, .int .i64 x.f2, .int .i64 x.f3, .int .i64 x.f4] (0, 0) _ rfl (setB5 h2r) Tryd.underlying35 rfl info35) rfl ?_
        exact ⟨set5_kp (kp9 k05 kk ge9) hge, x, false, rfl, by rw [hs.out]; rfl, by rw [hs.out]; simp⟩
theorem partsL_len {l : List UInt8} {t : List UInt8} {ns : List Nat} (h : partsL l = some (t, ns)) : ns.length ≤ l.length := by
  obtain ⟨_, _, h3⟩ := (partsL_iff l t ns).1 h
  rw [h3]
  unfold lineP
  have : ∀ r : List Nat, r.length ≤ (r.flatMap fun n => (32 : UInt8) :: digN n).length := by
    intro r
    induction r with
    | nil => simp
    | cons a r ih => rw [List.flatMap_cons, List.length_append, List.length_cons, List.length_cons]; omega
  have := this ns
  simp only [List.length_append]
  omega
theorem inst_calls (l : List UInt8) (m : Int) (w : World) (hm : w.cell? ⟨0, 0, none⟩ = some (.int .i64 m)) (hl : l.length ≤ 4000000) :
    Calls Tryd.prog 27 #[.string (bs l)] w (InstPost l w) := by
  have PC : ∀ W, Kp [] w W → Calls Tryd.prog 26 #[.string (bs l)] W (PartsPost l W) := fun W k => parts_calls l m W (kcell k hm) hl
  cases hp : partsL l with
  | none =>
    have hN : instL l = none := by unfold instL; rw [hp]
    refine inst_none l [] (.slice none 0 0) false m w (fun h => by simp at h) (fun W k => (PC W k).mono ?_) hN
    rintro e w' ⟨k', h⟩
    rw [hp] at h
    exact ⟨k', h⟩
  | some a =>
    obtain ⟨t, ns⟩ := a
    have hns := partsL_len hp
    have hP : ∀ W, Kp [] w W → Calls Tryd.prog 26 #[.string (bs l)] W fun e w' => Kp [] W w' ∧ ∃ v, e = .returned (.tuple #[.string (bs t), v, .bool true]) ∧ w'.ownsRow W.heap.size 3 1 v ns.length (nums ns) := by
      intro W k
      refine (PC W k).mono ?_
      rintro e w' ⟨k', h⟩
      rw [hp] at h
      exact ⟨k', h⟩
    cases ho : opOf t with
    | none =>
      have hN : instL l = none := by unfold instL; rw [hp]; simp only [ho]
      exact inst_nopart l t ns m w (by unfold opI; rw [ho]) hP hN
    | some op =>
      have hop := ((opOf_iff t op).1 ho).1
      have hR : instL l = fillL op ns := by unfold instL; rw [hp]; simp only [ho]
      rw [fill_eq op hop ns] at hR
      exact inst_some l t ns op _ _ _ _ w (by unfold opI; rw [ho]) hop.1 hop.2 (by omega) hP (fun W => fields_op ⟨op, 0, 0, 0, 0⟩ hop W) hR
end Go.Proofs.YtkjkkebaafmheaaDoor
/- Package prog: the walk of Read. -/
namespace Go.Proofs.YtkjkkebaafmheaaDoor
open Go.RowKit PAll Go.Proofs.YtkjkkebaafmheaaDoorW.PrintWords Go.Proofs.YtkjkkebaafmheaaDoorW.PrintLast Go.Proofs.YtkjkkebaafmheaaDoorW.PrintMore
open Go.Shelf
set_option linter.unusedVariables false
set_option linter.unusedSimpArgs false
def ReadPost (l : List UInt8) (w : World) (e : Ending) (w' : World) : Prop := Kp [] w w' ∧
  match readL l with
  | none => e = .returned (.tuple #[.agg #[.slice none 0 0, .int .i64 0, .int .i64 0], .int .i64 130])
  | some (xs, a, b) => ∃ v, e = .returned (.tuple #[.agg #[v, .int .i64 a, .int .i64 b], .int .i64 0]) ∧ Kd.R k35 35 w' w.heap.size (fun _ => True) v xs
theorem read_no {l : List UInt8} (h : readL l = none) {w w' : World} (k : Kp [] w w') : ReadPost l w (.returned (.tuple #[.agg #[.slice none 0 0, .int .i64 0, .int .i64 0], .int .i64 130])) w' := by
  refine ⟨k, ?_⟩
  rw [h]
theorem cut_small (c : UInt8) (l x : List UInt8) (h : x ∈ cutL c l) : x.length ≤ l.length := by
  have hj := join_cut c l
  have key : ∀ (r : List (List UInt8)) (y : List UInt8), y ∈ r → y.length ≤ (r.flatMap (c :: ·)).length := by
    intro r
    induction r with
    | nil => intro y hy; simp at hy
    | cons a r ih =>
      intro y hy
      rw [List.flatMap_cons, List.length_append, List.length_cons]
      rcases List.mem_cons.1 hy with h | h
      · subst h; omega
      · have := ih y h; omega
  cases hc : cutL c l with
  | nil => rw [hc] at h; simp at h
  | cons a r =>
    rw [hc] at h hj
    rw [← hj]
    unfold joinL
    rw [List.length_append]
    rcases List.mem_cons.1 h with h | h
    · subst h; omega
    · have := key r x h; omega
theorem rn1 {l : List UInt8} {ps : List (List UInt8)} (hps : cutL 10 l = ps) (h0 : ps.length - 1 < ps.length) (h : ps[ps.length - 1] ≠ []) : readL l = none := by
  unfold readL
  rw [if_pos]
  rw [hps]
  refine .inl (fun h' => h ?_)
  rw [List.getLast?_eq_getElem?, List.getElem?_eq_getElem h0] at h'
  exact Option.some.inj h'
theorem rn2 {l : List UInt8} {ps : List (List UInt8)} (hps : cutL 10 l = ps) (h : ps.length < 2 ∨ 4002 < ps.length) : readL l = none := by
  unfold readL
  rw [if_pos]
  rw [hps]
  exact .inr h
def readM (o : Option (List UInt8 × List Nat)) (mid : List (List UInt8)) : Option (List S35 × Int × Int) :=
  match o with
  | some (w, [a, b]) => if w = [112, 114, 111, 103, 114, 97, 109] then
      (match mid.mapM instL with
        | none => none
        | some l => if checkB l a b = 0 then some (l, (a : Int), (b : Int)) else none) else none
  | _ => none
theorem ry {l : List UInt8} {ps : List (List UInt8)} (hps : cutL 10 l = ps) (h0 : ps.length - 1 < ps.length) (h : ps[ps.length - 1] = []) (h2 : ¬ ps.length < 2) (h4 : ¬ 4002 < ps.length) :
    readL l = readM (partsL (ps[0]'(by omega))) ((ps.drop 1).take (ps.length - 2)) := by
  unfold readL
  rw [hps, if_neg]
  · have e1 : ps.headD [] = ps[0]'(by omega) := by cases ps with | nil => simp at h2 | cons a r => rfl
    have e2 : ps.tail.dropLast = (ps.drop 1).take (ps.length - 2) := by rw [List.dropLast_eq_take, List.drop_one, List.length_tail]; rfl
    rw [e1, e2]
    rfl
  · simp only [not_or, Decidable.not_not]
    refine ⟨?_, h2, h4⟩
    rw [List.getLast?_eq_getElem?, List.getElem?_eq_getElem h0, h]
theorem readM_word {t : List UInt8} {ns : List Nat} {mid : List (List UInt8)} (h : t ≠ [112, 114, 111, 103, 114, 97, 109]) : readM (some (t, ns)) mid = none := by
  unfold readM
  split
  · next heq =>
    obtain ⟨rfl, rfl⟩ := Prod.mk.inj (Option.some.inj heq)
    rw [if_neg h]
  · rfl
theorem readM_two {t : List UInt8} {ns : List Nat} {mid : List (List UInt8)} (h : ns.length ≠ 2) : readM (some (t, ns)) mid = none := by
  unfold readM
  split
  · next heq =>
    obtain ⟨rfl, rfl⟩ := Prod.mk.inj (Option.some.inj heq)
    simp at h
  · rfl
theorem readM_mid {a b : Nat} {mid : List (List UInt8)} : readM (some ([112, 114, 111, 103, 114, 97, 109], [a, b])) mid = match mid.mapM instL with
        | none => none
        | some l => if checkB l a b = 0 then some (l, (a : Int), (b : Int)) else none := by
  show (if ([112, 114, 111, 103, 114, 97, 109] : List UInt8) = [112, 114, 111, 103, 114, 97, 109] then (match mid.mapM instL with
        | none => none
        | some l => if checkB l a b = 0 then some (l, (a : Int), (b : Int)) else none) else none) = _
  rw [if_pos rfl]
theorem readM_bad {a b : Nat} {mid : List (List UInt8)} {x : List UInt8} (hx : x ∈ mid) (h : instL x = none) : readM (some ([112, 114, 111, 103, 114, 97, 109], [a, b])) mid = none := by
  have : ∀ r : List (List UInt8), x ∈ r → r.mapM instL = none := by
    intro r
    induction r with
    | nil => intro h; simp at h
    | cons y r ih =>
      intro hy
      rw [List.mapM_cons]
      rcases List.mem_cons.1 hy with e | e
      · subst e; rw [h]; rfl
      · rw [ih e]
        cases instL y <;> rfl
  rw [readM_mid, this mid hx]
theorem mapI_snoc (r : List (List UInt8)) (x : List UInt8) (l : List S35) (y : S35) (h : r.mapM instL = some l) (hx : instL x = some y) : (r ++ [x]).mapM instL = some (l ++ [y]) := by
  obtain ⟨h1, h2⟩ := (mapM_inst r l).1 h
  obtain ⟨h3, h4⟩ := (instL_iff x y).1 hx
  refine (mapM_inst _ _).2 ⟨?_, by simp [h2, h4]⟩
  intro z hz
  rcases List.mem_append.1 hz with h | h
  · exact h1 z h
  · rw [List.mem_singleton] at h; subst h; exact h3
theorem mapI_len {r : List (List UInt8)} {l : List S35} (h : r.mapM instL = some l) : l.length = r.length := by
  have := congrArg List.length ((mapM_inst r l).1 h).2
  simpa using this.symm
def ReadI (w3 : World) (b9 : Nat) (mid : List (List UInt8)) (a b : Nat) (cv : Value) (wr : World) : Prop :=
  ∃ (i : Nat) (xs : List S35) (A : Option Addr) (c : Nat), cv = .int .i64 i ∧ i ≤ mid.length ∧ Aside0 ((mid.take i).mapM instL = some xs ∧ xs.length = i) ∧ Aside0 (Kd.R k35 35 wr w3.heap.size (fun k => w3.heap.size ≤ k) (.slice A xs.length c) xs) ∧
    wr.heap[b9]? = some (.cells #[.slice A xs.length c, .int .i64 a, .int .i64 b] 24 (0, 0)) ∧ Kp [b9] w3 wr
theorem info24 : (Tryd.prog.info? 24).map (·.size) = some 3 := by kernel_rfl
theorem info35' : (Tryd.prog.info? 35).map (fun i => (i.zero, i.size, i.bytes)) = some (some (.agg #[.int .i64 0, .int .i64 0, .int .i64 0, .int .i64 0, .int .i64 0]), 5, 40) := by kernel_rfl
theorem setB3 {w : World} {b : Nat} {t : TypeId} {x y z u v r : Value} (h : w.heap[b]? = some (.cells #[x, y, z] t (0, 0))) : (((w.setCell ⟨b, 0, none⟩ u).setCell ⟨b, 1, none⟩ v).setCell ⟨b, 2, none⟩ r).heap[b]? = some (.cells #[u, v, r] t (0, 0)) := setB (setB (setB h 0 u) 1 v) 2 r
theorem set3_kp {w w' : World} {b : Nat} {y0 y1 y2 : Value} (k : Kp [] w w') (hb : w.heap.size ≤ b) :
    Kp [] w (((w'.setCell ⟨b, 0, none⟩ y0).setCell ⟨b, 1, none⟩ y1).setCell ⟨b, 2, none⟩ y2) := ((k.setNew hb _).setNew hb _).setNew hb _
set_option maxRecDepth 100000 in
set_option maxHeartbeats 8000000 in
theorem read_calls (l : List UInt8) (m : Int) (w : World) (hm : w.cell? ⟨0, 0, none⟩ = some (.int .i64 m)) (hl : l.length ≤ 1000000) :
    Calls Tryd.prog 10 #[.string (bs l)] w (ReadPost l w) := by
  have kk := (Kp.refl [] w).alloc (.cells #[.slice none 0 0, .int .i64 0, .int .i64 0] 24)
  have hb2 := heap_alloc_new w (.cells #[.slice none 0 0, .int .i64 0, .int .i64 0] 24)
  have SC := Lib.hid (show Calls Tryd.prog 25 #[.string (bs l), .string (bs [10])] (w.alloc (.cells #[.slice none 0 0, .int .i64 0, .int .i64 0] 24)) fun e w' => ∃ g, e = .returned (.slice (some ⟨g, 0, none⟩) (cutL 10 l).length (cutL 10 l).length) ∧ Kp [] (w.alloc (.cells #[.slice none 0 0, .int .i64 0, .int .i64 0] 24)) w' ∧ w'.heap[g]? = some (.cells (texts (cutL 10 l)) 9 (0, 0)) from by
    refine (split_calls 10 l m _ (cellAlloc _ hm) (by omega)).mono ?_
    rintro e w' ⟨rfl, rfl⟩
    exact ⟨_, rfl, (Kp.refl [] _).alloc _, heap_alloc_new _ _⟩)
  have PC := Lib.hid (show ∀ (t : List UInt8) W, t.length ≤ 1000000 → Kp [] w W → Calls Tryd.prog 26 #[.string (bs t)] W (PartsPost t W) from fun t W ht k => parts_calls t m W (kcell k hm) (by omega))
  have IC := Lib.hid (show ∀ (t : List UInt8) W, t.length ≤ 1000000 → Kp [] w W → Calls Tryd.prog 27 #[.string (bs t)] W (InstPost t W) from fun t W ht k => inst_calls t m W (kcell k hm) (by omega))
  obtain ⟨ps, hps⟩ : ∃ ps, cutL 10 l = ps := ⟨_, rfl⟩
  have hne : ps ≠ [] := hps ▸ cutL_ne 10 l
  have hpos : 0 < ps.length := List.length_pos_iff.2 hne
  have hlen := cutL_len 10 l
  rw [hps] at SC hlen
  replace hps := Lib.hid hps
  clear hm
  go_enter Tryd.func10, Tryd.ntmps10
  go_wp2_with fail
  refine SC.out.mono ?_
  rintro e w1 ⟨g, rfl, k1, H1⟩
  have k01 := kk.trans k1
  replace hb2 := kblk k1 hb2
  obtain ⟨b2, hb2e⟩ : ∃ b, b = w.heap.size := ⟨_, rfl⟩
  have hge : w.heap.size ≤ b2 := by omega
  rw [← hb2e] at hb2 ⊢
  clear hb2e kk k1 SC
  have hcl : w1.cell? ⟨g, ps.length - 1, none⟩ = some (.string (bs (ps[ps.length - 1]'(by omega)))) := by rw [cellB H1, texts_at ps _ (by omega)]
  have e0 := cellB hb2 0; have e1 := cellB hb2 1; have e2 := cellB hb2 2
  have f0 := frozB hb2 0; have f1 := frozB hb2 1; have f2 := frozB hb2 2
  simp at e0 e1 e2
  have hw1 : IntKind.i64.wrap ((ps.length : Int) - 1) = (ps.length : Int) - 1 := IntWalk.i64_in _ (by omega)
  have hbg := ltB H1
  by_cases hlast : ps[ps.length - 1]'(by omega) = []
  · by_cases h2 : ps.length < 2
    · have hN := Lib.hid (rn2 hps.out (.inl h2))
      have d1 : decide ((ps.length : Int) - 1 < 1) = true := decide_eq_true (by omega)
      have G1 : (bs (ps[ps.length - 1]'(by omega))).toList = [] := by rw [bs_list]; exact hlast
      have G2 : (bs (ps[ps.length - 1]'(by omega))).toList.isEmpty = true := by rw [bs_list, hlast]; rfl
      replace hlast := Lib.hid hlast
      go_wp2_with fail
      refine bodyPost_ret (results_ct rfl _ _ b2 24 #[.slice none 0 0, .int .i64 0, .int .i64 0] (0, 0) _ rfl (setB3 hb2) Tryd.underlying24 rfl info24) rfl ?_
      exact read_no hN.out (set3_kp k01 hge)
    have d1 : decide ((ps.length : Int) - 1 < 1) = false := decide_eq_false (by omega)
    by_cases h4 : 4002 < ps.length
    · have hN := Lib.hid (rn2 hps.out (.inr h4))
      have d2 : decide ((4001 : Int) < (ps.length : Int) - 1) = true := decide_eq_true (by omega)
      have G1 : (bs (ps[ps.length - 1]'(by omega))).toList = [] := by rw [bs_list]; exact hlast
      have G2 : (bs (ps[ps.length - 1]'(by omega))).toList.isEmpty = true := by rw [bs_list, hlast]; rfl
      replace hlast := Lib.hid hlast
      go_wp2_with fail
      refine bodyPost_ret (results_ct rfl _ _ b2 24 #[.slice none 0 0, .int .i64 0, .int .i64 0] (0, 0) _ rfl (setB3 hb2) Tryd.underlying24 rfl info24) rfl ?_
      exact read_no hN.out (set3_kp k01 hge)
    have d2 : decide ((4001 : Int) < (ps.length : Int) - 1) = false := decide_eq_false (by omega)
    have hY := ry hps.out (by omega) hlast h2 h4
    have G1 : (bs (ps[ps.length - 1]'(by omega))).toList = [] := by rw [bs_list]; exact hlast
    have G2 : (bs (ps[ps.length - 1]'(by omega))).toList.isEmpty = true := by rw [bs_list, hlast]; rfl
    replace hlast := Lib.hid hlast
    have hcl0 : w1.cell? ⟨g, 0, none⟩ = some (.string (bs (ps[0]'(by omega)))) := by rw [cellB H1, texts_at ps _ (by omega)]
    have hps0 : (ps[0]'(by omega)).length ≤ 1000000 := by have := cut_small 10 l (ps[0]'(by omega)) (by rw [hps.out]; exact List.getElem_mem _); omega
    have P1 := PC.out (ps[0]'(by omega)) w1 hps0 k01
    obtain ⟨p0, hp0⟩ : ∃ p0, p0 = ps[0]'(by omega) := ⟨_, rfl⟩
    rw [← hp0] at hY hcl0 P1 hps0
    clear hp0
    replace P1 := Lib.hid P1
    replace hY := Lib.hid hY
    go_wp2_with fail
    refine P1.out.mono ?_
    rintro e w2 ⟨k2, hpp⟩
    have k02 := k01.trans k2
    replace hb2 := kblk k2 hb2
    replace H1 := kblk k2 H1
    clear e0 e1 e2 f0 f1 f2 hbg hcl hcl0
    have e0 := cellB hb2 0; have e1 := cellB hb2 1; have e2 := cellB hb2 2
    have f0 := frozB hb2 0; have f1 := frozB hb2 1; have f2 := frozB hb2 2
    simp at e0 e1 e2
    cases hq : partsL p0 with
    | none =>
      rw [hq] at hpp hY
      have hN := Lib.hid (show readL l = none from hY.out)
      obtain rfl := hpp
      go_wp2_with fail
      refine bodyPost_ret (results_ct rfl _ _ b2 24 #[.slice none 0 0, .int .i64 0, .int .i64 0] (0, 0) _ rfl (setB3 hb2) Tryd.underlying24 rfl info24) rfl ?_
      exact read_no hN.out (set3_kp k02 hge)
    | some tn =>
      obtain ⟨t, ns⟩ := tn
      rw [hq] at hpp hY
      obtain ⟨v, rfl, hO⟩ := hpp
      obtain ⟨A, c, g2, rfl, hc1, hc2, hg2⟩ := own_open hO
      clear hO
      by_cases ht : t = [112, 114, 111, 103, 114, 97, 109]
      rotate_left
      · have hN := Lib.hid (show readL l = none from hY.out.trans (readM_word ht))
        have F1 : ¬ (bs t).toList = [112, 114, 111, 103, 114, 97, 109] := by rw [bs_list]; exact ht
        replace ht := Lib.hid ht
        go_wp2_with fail
        refine bodyPost_ret (results_ct rfl _ _ b2 24 #[.slice none 0 0, .int .i64 0, .int .i64 0] (0, 0) _ rfl (setB3 hb2) Tryd.underlying24 rfl info24) rfl ?_
        exact read_no hN.out (set3_kp k02 hge)
      by_cases hn2 : ns.length = 2
      rotate_left
      · have hN := Lib.hid (show readL l = none from hY.out.trans (readM_two hn2))
        have F1 : (bs t).toList = [112, 114, 111, 103, 114, 97, 109] := by rw [bs_list]; exact ht
        have F2 : ((ns.length : Int) != 2) = true := by simp; omega
        replace ht := Lib.hid ht
        replace hn2 := Lib.hid hn2
        go_wp2_with fail
        refine bodyPost_ret (results_ct rfl _ _ b2 24 #[.slice none 0 0, .int .i64 0, .int .i64 0] (0, 0) _ rfl (setB3 hb2) Tryd.underlying24 rfl info24) rfl ?_
        exact read_no hN.out (set3_kp k02 hge)
      obtain ⟨a, b, rfl⟩ : ∃ a b, ns = [a, b] := by
        match ns, hn2 with
        | [a, b], _ => exact ⟨a, b, rfl⟩
      subst ht
      obtain ⟨rfl, hg3, hg4⟩ := hg2 (by simp)
      have q0 := hg4 w2 rfl 0 (by simp)
      have q1 := hg4 w2 rfl 1 (by simp)
      simp only [List.getD_cons_zero, List.getD_cons_succ] at q0 q1
      have hc3 : 2 ≤ c := hc1
      clear hg4 hn2 hq
      have F1 : (bs [112, 114, 111, 103, 114, 97, 109]).toList = [112, 114, 111, 103, 114, 97, 109] := bs_list _
      go_upto_region 8 with fail
      go_region
      have hb9 : (w2.alloc (Obj.cells #[Value.slice none 0 0, Value.int IntKind.i64 ↑a, Value.int IntKind.i64 ↑b] 24)).drew.heap[w2.heap.size]? = some (Obj.cells #[Value.slice none 0 0, Value.int IntKind.i64 ↑a, Value.int IntKind.i64 ↑b] 24) := heap_alloc_new w2 _
      have k23 := ((Kp.refl [] w2).alloc (Obj.cells #[Value.slice none 0 0, Value.int IntKind.i64 ↑a, Value.int IntKind.i64 ↑b] 24)).drew
      obtain ⟨w3, hw3⟩ : ∃ w3, w3 = (w2.alloc (Obj.cells #[Value.slice none 0 0, Value.int IntKind.i64 ↑a, Value.int IntKind.i64 ↑b] 24)).drew := ⟨_, rfl⟩
      rw [← hw3] at hb9 k23 ⊢
      clear hw3
      obtain ⟨b9, hb9e⟩ : ∃ b, b = w2.heap.size := ⟨_, rfl⟩
      rw [← hb9e] at hb9 ⊢
      have n92 : b9 ≠ b2 := by have := ltB hb2; omega
      have n9g : b9 ≠ g := by have := ltB H1; omega
      have ge9 : w.heap.size ≤ b9 := by have := k02.size; omega
      have k03 := k02.trans k23
      replace hb2 := kblk k23 hb2
      replace H1 := kblk k23 H1
      clear hb9e k23 k02 k2 q0 q1 hg3 e0 e1 e2 f0 f1 f2 G1 G2 F1
      have hps2 : 2 ≤ ps.length := by omega
      have hw2 : ((ps.length : Int) - 1).toNat = ps.length - 1 := by omega
      obtain ⟨mid, hmid⟩ : ∃ mid, mid = (ps.drop 1).take (ps.length - 2) := ⟨_, rfl⟩
      have hml : mid.length = ps.length - 2 := by rw [hmid]; simp; omega
      have hmx : ∀ i (h : i < mid.length), ∃ h' : 1 + i < ps.length, mid[i] = ps[1 + i] := fun i h => ⟨by omega, by simp [hmid, Nat.add_comm]⟩
      rw [← hmid] at hY
      clear hmid
      have hmm : ∀ x ∈ mid, x.length ≤ 1000000 := by
        intro x hx
        obtain ⟨i, hi, rfl⟩ := List.mem_iff_getElem.1 hx
        obtain ⟨h', e⟩ := hmx i hi
        rw [e]
        have := cut_small 10 l (ps[1 + i]) (by rw [hps.out]; exact List.getElem_mem _)
        omega
      have HMX := Lib.hid hmx
      have HMM := Lib.hid hmm
      clear hmx hmm
      go_wp2_with fail
      have hn11 : ps.length - 1 - 1 = mid.length := by omega
      rw [hn11]
      have HML := Lib.hid hml
      clear hn11 hml
      go_loopw [65] (fun cv wr => ReadI w3 b9 mid a b cv wr) (fun cv _ => mid.length - (intOf cv).toNat)
      case atStart => exact ⟨0, [], none, 0, rfl, by omega, ⟨by simp⟩, ⟨Kd.R_nil _ _ _ _ _⟩, hb9, Kp.refl _ _⟩
      case round =>
        obtain ⟨i, xs, A, cA, rfl, hi, ⟨hxs, hxl⟩, ⟨hR⟩, h9, kk⟩ := hrel
        have kw := kp9 k03 kk ge9
        have h2r : wr.heap[b2]? = _ := (kk.block b2 (ltB hb2) (by simpa using Ne.symm n92)).trans hb2
        have hgr : wr.heap[g]? = _ := (kk.block g (ltB H1) (by simpa using Ne.symm n9g)).trans H1
        have hbg := ltB hgr
        by_cases hlt : i < mid.length
        · have di : decide ((i : Int) < (mid.length : Int)) = true := decide_eq_true (by omega)
          obtain ⟨h', hme⟩ := HMX.out i hlt
          have hcl : wr.cell? ⟨g, 1 + i, none⟩ = some (.string (bs mid[i])) := by rw [hme, cellB hgr, texts_at ps _ h']
          have I1 := Lib.hid (IC.out mid[i] wr (HMM.out _ (List.getElem_mem _)) kw)
          have hsn : ∀ y, instL mid[i] = some y → (mid.take i ++ [mid[i]]).mapM instL = some (xs ++ [y]) := fun y hh => mapI_snoc _ _ _ _ hxs hh
          rw [List.take_append_getElem hlt] at hsn
          replace hsn := Lib.hid hsn
          have hbad : instL mid[i] = none → readL l = none := fun hh => hY.out.trans (readM_bad (List.getElem_mem hlt) hh)
          replace hbad := Lib.hid hbad
          have hwi : IntKind.i64.wrap ((i : Int) + 1) = (i : Int) + 1 := IntWalk.i64_in _ (by omega)
          clear hme
          obtain ⟨y, hy⟩ : ∃ y, y = mid[i] := ⟨_, rfl⟩
          rw [← hy] at hcl I1 hsn hbad
          replace hy := Lib.hid hy
          replace hxs := Lib.hid hxs
          replace hxl := Lib.hid hxl
          replace hR := Lib.hid hR
          go_wp2_with fail
          refine I1.out.mono ?_
          rintro e w6 ⟨k6, x, ok, rfl, hok, hx⟩
          have h96 := kblk k6 h9
          have h26 := kblk k6 h2r
          cases ok with
          | false =>
            have hnn : instL y = none := by cases h : instL y with | none => rfl | some _ => rw [h] at hok; simp at hok
            have hN := Lib.hid (hbad.out hnn)
            have e0 := cellB h26 0; have e1 := cellB h26 1; have e2 := cellB h26 2
            have f0 := frozB h26 0; have f1 := frozB h26 1; have f2 := frozB h26 2
            simp at e0 e1 e2
            have lt26 := ltB h26
            clear hok hx hnn
            go_wp2_with fail
            refine bodyPost_ret (results_ct rfl _ _ b2 24 #[.slice none 0 0, .int .i64 0, .int .i64 0] (0, 0) _ rfl (kblk ((Kp.refl [] _).alloc _) (setB3 h26)) Tryd.underlying24 rfl info24) rfl ?_
            exact read_no hN.out ((set3_kp (kw.trans k6) hge).alloc _)
          | true =>
            have hyx : instL y = some x := by
              cases h : instL y with
              | none => rw [h] at hok; simp at hok
              | some z => rw [hx z h]
            have hsn1 := Lib.hid (hsn.out x hyx)
            clear hok hx
            have c9 := cellB h96 0
            simp at c9
            have lt9 := ltB h96
            have R6 := Lib.hid (Kd.R_below hR.out ((k6.alloc (Obj.cells #[Value.int IntKind.i64 x.f0, Value.int IntKind.i64 x.f1, Value.int IntKind.i64 x.f2, Value.int IntKind.i64 x.f3, Value.int IntKind.i64 x.f4] 35)).below (Nat.le_refl _) (by simp)))
            have hsz : w3.heap.size ≤ w6.heap.size := by have := kk.size; have := k6.size; omega
            have AX := Lib.hid (show ∀ (w7 : World) (ob : Option Nat), ob = (Value.slice A xs.length cA).ownBlock → (w6.alloc (Obj.cells #[Value.int IntKind.i64 x.f0, Value.int IntKind.i64 x.f1, Value.int IntKind.i64 x.f2, Value.int IntKind.i64 x.f3, Value.int IntKind.i64 x.f4] 35)).grownBy w7 ob → w7.heap[b9]? = some (Obj.cells #[Value.slice A xs.length cA, Value.int IntKind.i64 ↑a, Value.int IntKind.i64 ↑b] 24) from by
              intro w7 ob hob hg
              rw [hg.block b9 (by simp; omega) (by rw [hob]; intro e; have := hR.out.1 b9 e.symm; have := ltB hb9; omega)]
              exact kblk ((Kp.refl [] w6).alloc _) h96)
            have ltb9 := ltB hb9
            have hxl4 : xs.length ≤ 1000000 := by have := hxl.out; have := HML.out; omega
            go_wp2_with (at_builtin; refine Kd.R_append k35 (w0 := w6.alloc (Obj.cells #[Value.int IntKind.i64 x.f0, Value.int IntKind.i64 x.f1, Value.int IntKind.i64 x.f2, Value.int IntKind.i64 x.f3, Value.int IntKind.i64 x.f4] 35)) w3.heap.size rfl (.tmp 78) (.tmp 80) 22 35 (.agg #[(.int .i64 0), (.int .i64 0), (.int .i64 0), (.int .i64 0), (.int .i64 0)]) 40 rfl Tryd.underlying22 info35' rfl (by decide) (by decide) (.slice A xs.length cA) xs x [.int .i64 x.f0, .int .i64 x.f1, .int .i64 x.f2, .int .i64 x.f3, .int .i64 x.f4] (fun k => w3.heap.size ≤ k) (fun _ => False) rfl (by first | (go_simp; done) | (go_simp; rfl)) (k35_mkM _ _ _ x) (fun _ hk => hk.elim) ?aF R6.out (Below.refl _ _) ?aB ?aL ?_; (case aF => intro k hk; simp at hk; omega); (case aB => simp; omega); (case aL => omega); intro v1 w7 hR1 hB1 hg1 _; obtain ⟨Av, cv, rfl⟩ := Kd.R_slice hR1; have h97 := AX.out w7 (Value.slice A xs.length cA).ownBlock rfl hg1; have u0 := cellB h97 0; have fu0 := frozB h97 0; simp at u0)
            have k37 : Kp [b9] w3 w7 := ((kk.trans (k6.mono (by simp))).alloc _).grown hg1 (fun q hq => .inr (hR.out.1 q hq))
            go_roundw
            case rel =>
              refine ⟨i + 1, xs ++ [x], Av, cv, rfl, hlt, ⟨hsn1.out, by simp [hxl.out]⟩, ⟨?_⟩, ?_, k37.setCell (by simp) _⟩
              · exact Kd.R_far (p := ⟨b9, 0, none⟩) hR1 (fun k hk => by show k ≠ b9; omega) _
              · have := setB h97 0 (Value.slice Av (xs ++ [x]).length cv)
                simpa using this
            case measure => simp [intOf]; omega
        · obtain rfl : i = mid.length := by omega
          have di : decide ((mid.length : Int) < (mid.length : Int)) = false := decide_eq_false (by omega)
          rw [List.take_length] at hxs
          have hYY := hY.out.trans readM_mid
          rw [hxs] at hYY
          simp only at hYY
          obtain ⟨A', c', he, _, hC⟩ := Kd.R_reads hR
          obtain ⟨rfl, rfl⟩ : A = A' ∧ cA = c' := by injection he with h1 h2 h3; exact ⟨h1, h3⟩
          have CC := Lib.hid (check_calls A cA xs a b wr hC)
          have RL := Lib.hid (Kd.R_mono (Kd.R_lower hR (by have := k03.size; omega : w.heap.size ≤ w3.heap.size)) (fun _ _ => trivial))
          clear he hC
          replace hxs := Lib.hid hxs
          replace hxl := Lib.hid hxl
          replace hR := Lib.hid hR
          have c90 := cellB h9 0; have c91 := cellB h9 1; have c92 := cellB h9 2
          simp at c90 c91 c92
          have lt9 := ltB h9
          rcases check_val xs a b with hch | hch
          · rw [if_pos hch] at hYY
            rw [hch] at CC
            replace hYY := Lib.hid hYY
            replace hch := Lib.hid hch
            go_wp2_with fail
            refine CC.out.mono ?_
            rintro e w6 ⟨rfl, k6⟩
            have h96 := kblk k6 h9
            have h26 := kblk k6 h2r
            clear c90 c91 c92 lt9
            have c90 := cellB h96 0; have c91 := cellB h96 1; have c92 := cellB h96 2
            simp at c90 c91 c92
            have e0 := cellB h26 0; have e1 := cellB h26 1; have e2 := cellB h26 2
            have f0 := frozB h26 0; have f1 := frozB h26 1; have f2 := frozB h26 2
            simp at e0 e1 e2
            go_wp2_with fail
            refine bodyPost_ret (results_ct rfl _ _ b2 24 #[.slice A xs.length cA, .int .i64 a, .int .i64 b] (0, 0) _ rfl (setB3 h26) Tryd.underlying24 rfl info24) rfl ?_
            refine ⟨set3_kp (kw.trans k6) hge, ?_⟩
            rw [hYY.out]
            refine ⟨_, rfl, ?_⟩
            have R6 := Kd.R_below RL.out (k6.below (Nat.le_refl _) (by simp))
            refine Kd.R_set (Kd.R_set (Kd.R_set R6 h26 (by decide) 0 _) (setB h26 0 _) (by decide) 1 _) (setB (setB h26 0 _) 1 _) (by decide) 2 _
          · rw [if_neg (by rw [hch]; decide)] at hYY
            rw [hch] at CC
            replace hYY := Lib.hid hYY
            replace hch := Lib.hid hch
            go_wp2_with fail
            refine CC.out.mono ?_
            rintro e w6 ⟨rfl, k6⟩
            have h26 := kblk k6 h2r
            have e0 := cellB h26 0; have e1 := cellB h26 1; have e2 := cellB h26 2
            have f0 := frozB h26 0; have f1 := frozB h26 1; have f2 := frozB h26 2
            simp at e0 e1 e2
            go_wp2_with fail
            refine bodyPost_ret (results_ct rfl _ _ b2 24 #[.slice none 0 0, .int .i64 0, .int .i64 0] (0, 0) _ rfl (setB3 h26) Tryd.underlying24 rfl info24) rfl ?_
            exact read_no hYY.out (set3_kp (kw.trans k6) hge)
  · have G1 : ¬ (bs (ps[ps.length - 1]'(by omega))).toList = [] := by rw [bs_list]; exact hlast
    have G2 : (bs (ps[ps.length - 1]'(by omega))).toList.isEmpty = false := by rw [bs_list]; simpa using hlast
    have hN := Lib.hid (rn1 hps.out (by omega) hlast)
    replace hlast := Lib.hid hlast
    go_wp2_with fail
    refine bodyPost_ret (results_ct rfl _ _ b2 24 #[.slice none 0 0, .int .i64 0, .int .i64 0] (0, 0) _ rfl (setB3 hb2) Tryd.underlying24 rfl info24) rfl ?_
    exact read_no hN.out (set3_kp k01 hge)
end Go.Proofs.YtkjkkebaafmheaaDoor
/- Package prog: what number and line answer; the builder over lists of bytes. -/
namespace Go.Proofs.YtkjkkebaafmheaaDoor
open Go.RowKit PAll Go.Proofs.YtkjkkebaafmheaaDoorW.PrintWords Go.Proofs.YtkjkkebaafmheaaDoorW.PrintLast Go.Proofs.YtkjkkebaafmheaaDoorW.PrintMore
open Go.Shelf
set_option linter.unusedVariables false
set_option linter.unusedSimpArgs false
theorem dig_ext (d : Nat) (h : d < 10) : (⟨#[48, 49, 50, 51, 52, 53, 54, 55, 56, 57]⟩ : ByteArray).extract ((d : Nat) : Int).toNat (((d : Nat) : Int) + 1).toNat = bs [UInt8.ofNat (48 + d)] := by
  have e : (⟨#[48, 49, 50, 51, 52, 53, 54, 55, 56, 57]⟩ : ByteArray) = bs [48, 49, 50, 51, 52, 53, 54, 55, 56, 57] := rfl
  rw [e, bs_ext]
  congr 1
  have e1 : ((d : Nat) : Int).toNat = d := by omega
  have e2 : (((d : Nat) : Int) + 1).toNat = d + 1 := by omega
  rw [e1, e2]
  have : d = 0 ∨ d = 1 ∨ d = 2 ∨ d = 3 ∨ d = 4 ∨ d = 5 ∨ d = 6 ∨ d = 7 ∨ d = 8 ∨ d = 9 := by omega
  rcases this with rfl | rfl | rfl | rfl | rfl | rfl | rfl | rfl | rfl | rfl <;> rfl
theorem digN_len4 {n : Nat} (h : n < 10000) : (digN n).length ≤ 4 := digN_len n 3 (by omega)
theorem num_step (n : Nat) (t : List UInt8) : (if n / 10 = 0 then [] else digN (n / 10)) ++ ([UInt8.ofNat (48 + n % 10)] ++ t) = digN n ++ t := by
  by_cases h9 : n < 10
  · have e : n / 10 = 0 := by omega
    rw [if_pos e, digN_lt h9, show n % 10 = n by omega]; rfl
  · have e : ¬ n / 10 = 0 := by omega
    rw [if_neg e, digN_ge (n := n) (by omega), List.append_assoc]
theorem num_l : ∀ (k n : Nat) (t : List UInt8), n < 10 ^ k → k ≤ 8 → t.length + k ≤ 1000 → prog_number.l0 (k + 1) (n : Nat) (bs t) = some (bs ((if n = 0 then [] else digN n) ++ t))
  | 0, n, t, hn, _, _ => by
    have : n = 0 := by omega
    subst this
    rw [prog_number.l0, if_neg (by omega)]
    rfl
  | k + 1, n, t, hn, hk, ht => by
    rw [prog_number.l0]
    by_cases h : n = 0
    · subst h
      rw [if_neg (by omega)]
      rfl
    · have e1 : Int.tmod (n : Int) 10 = ((n % 10 : Nat) : Int) := by rw [Int.tmod_eq_emod_of_nonneg (by omega)]; omega
      have e2 : Int.tdiv (n : Int) 10 = ((n / 10 : Nat) : Int) := by rw [Int.tdiv_eq_ediv_of_nonneg (by omega)]; omega
      have hp : n < 10 ^ 9 := Nat.lt_of_lt_of_le hn (Nat.pow_le_pow_right (by omega) (by omega))
      rw [e1, e2, w64 (((n % 10 : Nat) : Int) + 1) (by omega) (by omega), w64 (((n / 10 : Nat)) : Int) (by omega) (by omega)]
      rw [if_pos (by omega), if_pos (by omega), if_pos (by omega), if_pos (by omega), dig_ext _ (by omega), bs_app]
      rw [if_pos (by simp only [bs_size, List.length_cons, List.length_nil]; omega)]
      rw [num_l k (n / 10) _ (by rw [Nat.pow_succ] at hn; omega) (by omega) (by simp only [List.length_append, List.length_cons, List.length_nil]; omega)]
      rw [if_neg h, num_step]
theorem num_f (n : Nat) (hn : n < 10000) : prog_number.f 9 (n : Nat) = some (bs (digN n)) := by
  unfold prog_number.f
  have e1 : Int.tmod (n : Int) 10 = ((n % 10 : Nat) : Int) := by rw [Int.tmod_eq_emod_of_nonneg (by omega)]; omega
  have e2 : Int.tdiv (n : Int) 10 = ((n / 10 : Nat) : Int) := by rw [Int.tdiv_eq_ediv_of_nonneg (by omega)]; omega
  rw [e1, e2, w64 (((n % 10 : Nat) : Int) + 1) (by omega) (by omega), w64 (((n / 10 : Nat)) : Int) (by omega) (by omega)]
  rw [if_pos (by omega), if_pos (by omega), if_pos (by omega), dig_ext _ (by omega)]
  rw [num_l 8 (n / 10) _ (by omega) (by omega) (by simp)]
  have := num_step n []
  simp only [List.append_nil] at this
  rw [this]
def ints (ns : List Nat) : List Int := ns.map fun n => ((n : Nat) : Int)
theorem ints_len (ns : List Nat) : (ints ns).length = ns.length := by simp [ints]
theorem line_l (w : List UInt8) (ns : List Nat) (hns : ∀ n ∈ ns, n < 10000) (hw : w.length ≤ 1000) (hl : ns.length ≤ 1000) : ∀ (k i : Nat), i ≤ ns.length → ns.length - i < k → prog_line.l0 (k + 9) (bs (lineP w (ns.take i))) (ints ns) (ns.length : Nat) (i : Nat) = some (bs (lineP w ns ++ [10]))
  | 0, i, _, h => by omega
  | k + 1, i, hi, hk => by
    have hln : ∀ j, j ≤ ns.length → (lineP w (ns.take j)).length ≤ 1000 + 5 * j := by
      intro j
      induction j with
      | zero => intro _; simp [lineP]; exact hw
      | succ j ih =>
        intro hj
        have := ih (by omega)
        have hd := digN_len4 (hns ns[j] (List.getElem_mem _))
        rw [← List.take_append_getElem (show j < ns.length by omega)]
        unfold lineP at this ⊢
        simp only [List.flatMap_append, List.flatMap_cons, List.flatMap_nil, List.length_append, List.length_cons, List.length_nil] at this ⊢
        omega
    rw [show k + 1 + 9 = (k + 9) + 1 by omega, prog_line.l0]
    by_cases h : i < ns.length
    · rw [if_pos (by omega), if_pos (by omega), if_pos (by rw [ints_len]; omega)]
      have hr : rd (ints ns) (i : Int) = ((ns[i] : Nat) : Int) := by simp [rd, ints, h]
      have hd := digN_len4 (hns ns[i] (List.getElem_mem _))
      have hf : prog_number.f (k + 9) (ns[i] : Nat) = some (bs (digN ns[i])) := at_rounds (g := fun m => prog_number.f m (ns[i] : Nat)) (fun m => prog_number.mono (ns[i] : Nat) m) (show 9 ≤ k + 9 by omega) (num_f _ (hns _ (List.getElem_mem _)))
      rw [hr, hf]
      simp only [Option.bind_some]
      have e1 : (⟨#[32]⟩ : ByteArray) ++ bs (digN ns[i]) = bs (32 :: digN ns[i]) := by rw [show (⟨#[32]⟩ : ByteArray) = bs [32] from rfl, bs_app]; rfl
      rw [e1, bs_app]
      have := hln i hi
      rw [if_pos (by simp only [bs_size]; omega), if_pos (by simp only [bs_size, List.length_cons]; omega)]
      have e2 : lineP w (ns.take i) ++ 32 :: digN ns[i] = lineP w (ns.take (i + 1)) := by
        rw [← List.take_append_getElem h]; unfold lineP; rw [List.flatMap_append, ← List.append_assoc]; simp only [List.flatMap_cons, List.flatMap_nil, List.append_nil]
      rw [e2, w64 ((i : Int) + 1) (by omega) (by omega), show ((i : Int) + 1) = ((i + 1 : Nat) : Int) by omega]
      exact line_l w ns hns hw hl k (i + 1) h (by omega)
    · have : i = ns.length := by omega
      subst this
      rw [if_neg (by omega), List.take_length]
      have := hln ns.length (Nat.le_refl _)
      rw [List.take_length] at this
      rw [if_pos (by simp only [bs_size]; omega)]
      congr 1
theorem line_f (w : List UInt8) (ns : List Nat) (hns : ∀ n ∈ ns, n < 10000) (hw : w.length ≤ 1000) (hl : ns.length ≤ 1000) : prog_line.f (ns.length + 10) (bs w) (ints ns) = some (bs (lineP w ns ++ [10])) := by
  have := line_l w ns hns hw hl (ns.length + 1) 0 (by omega) (by omega)
  unfold prog_line.f
  rw [ints_len]
  simpa [lineP] using this
theorem line_calls (t : List UInt8) (ns : List Nat) (hns : ∀ n ∈ ns, n < 10000) (ht : t.length ≤ 1000) (hl : ns.length ≤ 1000) (A : Option Addr) (c : Nat) (w : World) (h : Kd.C (Kd.int .i64) w A ns.length (ints ns)) (hc : ns.length ≤ c) :
    Calls Tryd.prog 20 #[.string (bs t), .slice A ns.length c] w fun e w' => e = .returned (.string (bs (lineP t ns ++ [10]))) ∧ Kp [] w w' := by
  have := prog_line.calls (ns.length + 10) (bs t) A c (ints ns) _ w (by rw [ints_len]; exact h) (by rw [ints_len]; exact hc) (line_f t ns hns ht hl)
  rw [ints_len] at this
  refine this.mono ?_
  rintro e w' ⟨rfl, n, rfl⟩
  exact ⟨rfl, (Kp.refl [] w).drewN n⟩
theorem rowAt {w : World} {b g c n : Nat} {xs : List Value} (h : w.ownsRow b 3 1 (.slice (some ⟨g, 0, none⟩) n c) n xs) : ∀ j u, xs[j]? = some u → w.cell? ⟨g, j, none⟩ = some u := by
  intro j u hu
  rcases h.2 with ⟨h0, _⟩ | ⟨g', cap, cur, hv, hb, hg, hnc, hcm, hcs, ht⟩
  · cases h0
  · cases hv
    rw [cellB hg]
    rw [← ht, Nat.mul_one] at hu
    have hj : j < n := by
      have := (List.getElem?_eq_some_iff.1 hu).1
      rw [List.length_take] at this
      omega
    rw [List.getElem?_take_of_lt hj, Array.getElem?_toList] at hu
    exact hu
theorem ownInts {w : World} {b : Nat} {v : Value} {ns : List Nat} (h : w.ownsRow b 3 1 v ns.length (nums ns)) (hl : ns.length ≤ 1000000) : ∃ A c, v = .slice A ns.length c ∧ ns.length ≤ c ∧ Kd.C (Kd.int .i64) w A ns.length (ints ns) := by
  rcases h.2 with ⟨rfl, h0⟩ | ⟨g, cap, cur, rfl, hb, hg, hnc, hcm, hcs, _⟩
  · have : ns = [] := List.eq_nil_of_length_eq_zero h0
    subst this
    exact ⟨none, 0, rfl, Nat.le_refl _, Kd.C_nil _ _⟩
  · refine ⟨some ⟨g, 0, none⟩, cap, rfl, hnc, Kd.C_of_reads (enc := Value.int .i64) (d := 0) ⟨by simp [ints], by omega, fun _ => ⟨_, rfl, fun j hj => ?_⟩⟩⟩
    rw [addNone, Nat.zero_add]
    refine rowAt h j _ ?_
    simp [nums, ints, hj]
/-- A used builder. -/
def UB (B b : Nat) (bs : List UInt8) (w : World) : Prop := Lib.BuilderAt 43 5 B b (.pointer (some ⟨b, 0, none⟩)) (Lib.byteCells bs) w
def UBP (B b : Nat) (bs : List UInt8) (w w' : World) : Prop := UB B b bs w' ∧ Below B w w' ∧ Lib.OthersKept 5 (some b) w w'
theorem UB.kp {B b : Nat} {bs : List UInt8} {w w' : World} (h : UB B b bs w) (k : Kp [] w w') : UB B b bs w' := by
  obtain ⟨hB, v, hb, ho, hn⟩ := h
  refine ⟨hB, v, kblk k hb, own_move ho (fun i hi => ?_), hn⟩
  obtain ⟨c, hc⟩ := own_typed ho i hi
  exact (kblk k hc).trans hc.symm
theorem strCells_bs (s : List UInt8) : Lib.strCells (bs s) = Lib.byteCells s := by simp [Lib.strCells, Lib.byteCells, bs]
theorem ubs_gen (B b : Nat) (t : List UInt8) (s : List UInt8) (w : World) (h : Lib.IsBuilder 43 5 B b (Lib.byteCells t) w) (hlen : t.length + s.length ≤ 100000000) (hBw : B ≤ w.heap.size) :
    Calls Tryd.prog 19 #[.pointer (some ⟨b, 0, none⟩), .string (bs s)] w fun e w' => (∃ r, e = .returned r) ∧ UBP B b (t ++ s) w w' := by
  refine (ws_calls B b _ (bs s) w h (by rw [Lib.byteCells_length, bs_size]; omega) hBw).mono ?_
  rintro e w' ⟨rfl, h1, h2, h3⟩
  refine ⟨⟨_, rfl⟩, ?_, h2, h3⟩
  unfold UB
  rw [Lib.byteCells_append, ← strCells_bs s]
  exact h1
theorem blk_ub {B b k : Nat} {bs : List UInt8} {w w' : World} {cs : Array Value} {t : TypeId} {fz : Nat × Nat} (hh : w.heap[k]? = some (.cells cs t fz)) (h : UBP B b bs w w') (hk : k ≠ b) (ht : t ≠ 5) : w'.heap[k]? = some (.cells cs t fz) :=
  h.2.2 k _ hh (fun e => hk (Option.some.inj e)) (fun c fz e => by injection e with _ e2; exact ht e2)
theorem kp_ub {B b : Nat} {bs : List UInt8} {a w w' : World} (k : Kp [] a w) (h : UBP B b bs w w') (hB : a.heap.size ≤ B) : Kp [] a w' :=
  Kp.ofBelow ((k.below (Nat.le_refl _) (by simp)).trans (h.2.1.mono hB))
end Go.Proofs.YtkjkkebaafmheaaDoor
