/- Merged by wip/tools/merge.py out of the texts F, C, D, E, H, I, J, K, L, each as it stood. -/
import Derived.Test.YtkjkkebaafmheaaDoorB
import Derived.Test.YtkjkkebaafmheaaDoorShelf
import Derived.Test.YtkjkkebaafmheaaDoorPAllx0
import Derived.Lib.OthersKept
import Derived.Test.YtkjkkebaafmheaaDoorPAllx3
import Derived.Test.YtkjkkebaafmheaaDoorShelfQ
import Derived.Deep.RegionHeld3
import Derived.Deep.RegionWith
import Derived.Deep.MidRow
import Derived.Test.YtkjkkebaafmheaaDoorPAllx10
import Derived.Lib.SplitLaws
import Derived.Lib.CountLaws
/- strings.Builder at this dump: copyCheck, WriteString with what they keep. -/
namespace Go.Proofs.YtkjkkebaafmheaaDoor
open Go.RowKit PAll Go.Proofs.YtkjkkebaafmheaaDoorW.PrintWords Go.Proofs.YtkjkkebaafmheaaDoorW.PrintLast Go.Proofs.YtkjkkebaafmheaaDoorW.PrintMore
open Go.Shelf
set_option linter.unusedVariables false
set_option linter.unusedSimpArgs false
theorem info5 : (Tryd.prog.info? 5).map (fun i => (i.zero, i.size, i.bytes)) = some (some (.int .u8 0), 1, 1) := by kernel_rfl
theorem sizeBuilder : (Tryd.prog.info? 43).map (·.size) = some 2 := by kernel_rfl
theorem liesBuilder : liesAt Tryd.prog Tryd.prog.depth 43 (2 / Tryd.prog.cellsOf 43) 0 43 1 = true := by kernel_rfl
set_option maxHeartbeats 1000000 in
set_option maxRecDepth 100000 in
theorem cc_used (b : Nat) (w : World) (h0 : w.cell? ⟨b, 0, none⟩ = some (.pointer (some ⟨b, 0, none⟩))) :
    Calls Tryd.prog 37 #[.pointer (some ⟨b, 0, none⟩)] w fun e w' => e = .returned (.tuple #[]) ∧ w' = w := by
  obtain ⟨j, hj, _⟩ := Option.map_eq_some_iff.1 sizeBuilder
  go_enter Tryd.func37, Tryd.ntmps37
  go_wp2
  rw [Lib.run_neq_ptr_same w _ Tryd.underlying40 hj]
  go_wp2
  go_end0
  exact ⟨rfl, rfl⟩
set_option maxHeartbeats 1000000 in
set_option maxRecDepth 100000 in
theorem cc_fresh (b : Nat) (w : World) (h0 : w.cell? ⟨b, 0, none⟩ = some (.pointer none)) (hsh : w.shape? b = some (43, 2)) (hfz : w.frozen? ⟨b, 0, none⟩ = false) :
    Calls Tryd.prog 37 #[.pointer (some ⟨b, 0, none⟩)] w fun e w' => e = .returned (.tuple #[]) ∧ w' = w.setCell ⟨b, 0, none⟩ (.pointer (some ⟨b, 0, none⟩)) := by
  obtain ⟨j, hj, hjs⟩ := Option.map_eq_some_iff.1 sizeBuilder
  go_enter Tryd.func37, Tryd.ntmps37
  go_wp2
  rw [Lib.run_to_unsafe w ⟨b, 0, none⟩ Tryd.underlying40 Tryd.underlying91 hj (by rw [hjs]; decide) hsh (Nat.zero_lt_succ 1)]
  simp only [Result.andThen]
  rw [Oper.upon_value]
  go_wp2
  rw [run_callFunc_extern Tryd.func47 (by kernel_rfl) (by kernel_rfl) (by kernel_rfl) (e := Extern.AbiNoEscape.same) (by kernel_rfl)]
  rw [Lib.run_noEscape]
  simp only [Result.andThen]
  rw [Oper.upon_value]
  go_wp2
  rw [Lib.run_from_unsafe w ⟨b, 0, none⟩ Tryd.underlying91 Tryd.underlying40 hj hsh liesBuilder]
  simp only [Result.andThen]
  rw [Oper.upon_value]
  go_wp2
  go_end0
  exact ⟨rfl, rfl⟩
/-- A builder's state, and what a write keeps. -/
def BP (B b : Nat) (bs : List Value) (w w' : World) : Prop := Lib.BuilderAt 43 5 B b (.pointer (some ⟨b, 0, none⟩)) bs w' ∧ Below B w w' ∧ Lib.OthersKept 5 (some b) w w'
theorem cc_calls (B b : Nat) (bs : List Value) (w : World) (h : Lib.IsBuilder 43 5 B b bs w) :
    Calls Tryd.prog 37 #[.pointer (some ⟨b, 0, none⟩)] w fun e w' => e = .returned (.tuple #[]) ∧ BP B b bs w w' := by
  rcases h with h | h
  · refine (cc_fresh b w h.cell0 h.shape h.frozen0).mono ?_
    rintro e w' ⟨rfl, rfl⟩
    exact ⟨rfl, h.used _, (Below.refl B w).setCell (p := ⟨b, 0, none⟩) h.1 _, (Lib.OthersKept.refl 5 (some b) w).setCell _ rfl _⟩
  · refine (cc_used b w h.cell0).mono ?_
    rintro e w' ⟨rfl, rfl⟩
    exact ⟨rfl, h, Below.refl B _, Lib.OthersKept.refl _ _ _⟩
theorem ownTyped {w : World} {B : Nat} {v : Value} {n : Nat} {bs : List Value} (hown : w.ownsRow B 5 1 v n bs) : ∀ g, v.ownBlock = some g → ∃ c fz, w.heap[g]? = some (.cells c 5 fz) := by
  intro g hg
  obtain ⟨c, hc⟩ := own_typed hown g hg
  exact ⟨c, _, hc⟩
set_option maxHeartbeats 2000000 in
set_option maxRecDepth 100000 in
theorem ws_calls (B b : Nat) (bs : List Value) (s : ByteArray) (w : World) (h : Lib.IsBuilder 43 5 B b bs w) (hlen : bs.length + s.size ≤ 140737488355328) (hBw : B ≤ w.heap.size) :
    Calls Tryd.prog 19 #[.pointer (some ⟨b, 0, none⟩), .string s] w fun e w' => e = .returned (.tuple #[.int .i64 s.size, .nilIface]) ∧ BP B b (bs ++ Lib.strCells s) w w' := by
  obtain ⟨i0, hi, hz0, hz1, hz2⟩ := info_parts info5
  have CC := Lib.hid cc_calls
  go_enter Tryd.func19, Tryd.ntmps19
  go_wp2_with (go_at_call 37; refine (CC.out B b bs _ h).mono ?_)
  rintro e w1 ⟨rfl, h1, hb1, ho1⟩
  obtain ⟨hB, v, hbk, hown, hne⟩ := h1
  have c0 : w1.cell? ⟨b, 0, none⟩ = some (.pointer (some ⟨b, 0, none⟩)) := by rw [Lib.cell_of_heap hbk]; rfl
  have c1 : w1.cell? ⟨b, 1, none⟩ = some v := by rw [Lib.cell_of_heap hbk]; rfl
  go_wp2_with (at_builtin; refine Lib.wpList_append_own_string _ rfl _ _ 41 9 rfl B 5 i0 Tryd.underlying41 Tryd.underlying9 hi hz0 hz1 hz2 _ _ _ rfl hown s rfl ?c3 ?c4 ?c5 ?_)
  case c3 => unfold maxLen; omega
  case c4 => omega
  case c5 => have := hb1.size; omega
  intro v' w2 hown' hgrow _
  have hlt : b < w1.heap.size := by
    rcases Nat.lt_or_ge b w1.heap.size with h' | h'
    · exact h'
    · simp [Array.getElem?_eq_none h'] at hbk
  have hb2 : w2.heap[b]? = some (.cells #[.pointer (some ⟨b, 0, none⟩), v] 43 (0, 0)) := by
    rw [hgrow.block b hlt (fun e => hne e.symm)]
    exact hbk
  have d0 : w2.cell? ⟨b, 0, none⟩ = some (.pointer (some ⟨b, 0, none⟩)) := by rw [Lib.cell_of_heap hb2]; rfl
  have d1 : w2.cell? ⟨b, 1, none⟩ = some v := by rw [Lib.cell_of_heap hb2]; rfl
  have f1 : w2.frozen? ⟨b, 1, none⟩ = false := Lib.frozen_of_heap hb2 1
  obtain ⟨ao, n', cap, rfl⟩ : ∃ ao n' cap, v' = .slice ao n' cap := by
    rcases hown'.2 with ⟨hv, _⟩ | ⟨g, cap, cur, hv, _⟩
    · exact ⟨_, _, _, hv⟩
    · exact ⟨_, _, _, hv⟩
  go_wp2
  go_ret2
  refine ⟨rfl, ?_, ?_, ?_⟩
  · exact Lib.BuilderAt.put (T := 43) (e := 5) hB hb2 (bs' := bs ++ Lib.strCells s) (by simpa [Lib.strCells_length] using hown') (by decide)
  · exact (hb1.grown hgrow (by have := hb1.size; omega) (fun k hk => (hown.lt k hk).1)).setCell (p := ⟨b, 1, none⟩) hB _
  · exact (ho1.grown hgrow (ownTyped hown)).setCell ⟨b, 1, none⟩ rfl _
end Go.Proofs.YtkjkkebaafmheaaDoor
/- Package prog: whether an instruction fits, and a program may be written: the walks of fields, Fits, Check. -/
namespace Go.Proofs.YtkjkkebaafmheaaDoor
open Go.RowKit PAll Go.Proofs.YtkjkkebaafmheaaDoorW.PrintWords Go.Proofs.YtkjkkebaafmheaaDoorW.PrintLast Go.Proofs.YtkjkkebaafmheaaDoorW.PrintMore
open Go.Shelf
set_option linter.unusedVariables false
set_option linter.unusedSimpArgs false

def wordsC : Array Value := #[.string ⟨#[]⟩, .bool false, .bool false, .bool false, .bool false, .string ⟨#[98, 121, 116, 101]⟩, .bool true, .bool true, .bool true, .bool false, .string ⟨#[115, 112, 108, 105, 116]⟩, .bool false, .bool false, .bool true, .bool true, .string ⟨#[99, 97, 112]⟩, .bool true, .bool false, .bool true, .bool false, .string ⟨#[97, 115, 115, 101, 114, 116]⟩, .bool true, .bool false, .bool true, .bool false, .string ⟨#[109, 97, 116, 99, 104]⟩, .bool false, .bool false, .bool false, .bool false, .string ⟨#[102, 97, 105, 108]⟩, .bool false, .bool false, .bool false, .bool false]
theorem wordsC_one : wordsC.all (·.oneCell') = true := by simp [wordsC, Value.oneCell']
theorem info86 : (Tryd.prog.info? 58).map (·.size) = some wordsC.size := by kernel_rfl
set_option maxRecDepth 100000 in
theorem words_any (w : World) : Calls Tryd.prog 22 #[] w fun e w' => e = .returned (.agg wordsC) ∧ Kp [] w w' := by
  go_enter Tryd.func22, Tryd.ntmps22
  go_wp2_with (with_reducible refine wpList_store_row rfl 58 (.tmp 0) (.tmp 13) rfl w.heap.size wordsC rfl rfl 58 _ (heap_alloc_new w _) info86 rfl wordsC_one ?_)
  refine bodyPost_ret (v := .agg wordsC) (results_cell_row rfl _ _ w.heap.size 58 wordsC (0, 0) _ rfl (setRow_heap _ _ _ _ _ _ (heap_alloc_new w _)) Tryd.underlying58 rfl info86) rfl ⟨rfl, ?_⟩
  exact ⟨rfl, rfl, rfl, by simp, fun k hk _ => (setRow_other _ _ _ _ (by omega)).trans (Below.heap_alloc w _ k hk)⟩
theorem idx1 (w : World) : Sem.run Tryd.prog (Instr.index 58 (.agg wordsC) (.int .i64 1)) w = .ok (.agg #[.string ⟨#[98, 121, 116, 101]⟩, .bool true, .bool true, .bool true, .bool false]) w := by kernel_rfl
theorem idx2 (w : World) : Sem.run Tryd.prog (Instr.index 58 (.agg wordsC) (.int .i64 2)) w = .ok (.agg #[.string ⟨#[115, 112, 108, 105, 116]⟩, .bool false, .bool false, .bool true, .bool true]) w := by kernel_rfl
theorem idx3 (w : World) : Sem.run Tryd.prog (Instr.index 58 (.agg wordsC) (.int .i64 3)) w = .ok (.agg #[.string ⟨#[99, 97, 112]⟩, .bool true, .bool false, .bool true, .bool false]) w := by kernel_rfl
theorem idx4 (w : World) : Sem.run Tryd.prog (Instr.index 58 (.agg wordsC) (.int .i64 4)) w = .ok (.agg #[.string ⟨#[97, 115, 115, 101, 114, 116]⟩, .bool true, .bool false, .bool true, .bool false]) w := by kernel_rfl
theorem idx5 (w : World) : Sem.run Tryd.prog (Instr.index 58 (.agg wordsC) (.int .i64 5)) w = .ok (.agg #[.string ⟨#[109, 97, 116, 99, 104]⟩, .bool false, .bool false, .bool false, .bool false]) w := by kernel_rfl
theorem idx6 (w : World) : Sem.run Tryd.prog (Instr.index 58 (.agg wordsC) (.int .i64 6)) w = .ok (.agg #[.string ⟨#[102, 97, 105, 108]⟩, .bool false, .bool false, .bool false, .bool false]) w := by kernel_rfl
theorem fld85 (s : ByteArray) (a b c d : Bool) (w : World) : Sem.run Tryd.prog (Instr.field 57 (.agg #[.string s, .bool a, .bool b, .bool c, .bool d]) 1) w = .ok (.agg #[.bool a, .bool b, .bool c, .bool d]) w := by kernel_rfl
theorem cellAlloc {w : World} {a : Addr} {v : Value} (o : Obj) (h : w.cell? a = some v) : (w.alloc o).cell? a = some v :=
  (World.cell?_of_block (Below.heap_alloc w o a.block (World.block_lt_of_cell? w _ h))).trans h
theorem kcell {w w' : World} {a : Addr} {v : Value} (k : Kp [] w w') (h : w.cell? a = some v) : w'.cell? a = some v :=
  (World.cell?_of_block (k.block a.block (World.block_lt_of_cell? w _ h) (by simp))).trans h
theorem new_at (w : World) (o : Obj) (B : Nat) (hB : B = w.heap.size) : (w.alloc o).heap[B]? = some o := by subst hB; exact heap_alloc_new w o
theorem kblk {w w' : World} {b : Nat} {o : Obj} (k : Kp [] w w') (h : w.heap[b]? = some o) : w'.heap[b]? = some o := (k.block b (ltB h) (by simp)).trans h
/-- An operation's own fields. -/
def ownF (op : Int) : Bool × Bool × Bool × Bool := if op = 1 then (true, true, true, false) else if op = 2 then (false, false, true, true) else if op = 3 ∨ op = 4 then (true, false, true, false) else (false, false, false, false)
def FieldsPost (x : S35) (a b c d : Bool) (w : World) (e : Ending) (w' : World) : Prop := Kp [] w w' ∧ ∃ g, e = .returned (.slice (some ⟨g, 0, none⟩) 4 4) ∧
  w'.heap[g]? = some (.cells #[.int .i64 x.f1, .bool a, .int .i64 x.f2, .bool b, .int .i64 x.f3, .bool c, .int .i64 x.f4, .bool d] 53 (0, 0))
theorem FieldsPost.mk' {x : S35} {a b c d : Bool} {w W : World} (k : Kp [] w W) : FieldsPost x a b c d w (.returned (.slice (some ⟨W.heap.size, 0, none⟩) 4 4)) (W.alloc (.cells #[.int .i64 x.f1, .bool a, .int .i64 x.f2, .bool b, .int .i64 x.f3, .bool c, .int .i64 x.f4, .bool d] 53)) :=
  ⟨k.alloc _, _, rfl, heap_alloc_new W _⟩
set_option maxRecDepth 100000 in
set_option maxHeartbeats 8000000 in
theorem fields_gen (w : World) (x : S35) (nm : ByteArray) (a b c d : Bool) (hix : ∀ w, Sem.run Tryd.prog (Instr.index 58 (.agg wordsC) (.int .i64 x.f0)) w = .ok (.agg #[.string nm, .bool a, .bool b, .bool c, .bool d]) w) :
    Calls Tryd.prog 21 #[.agg #[.int .i64 x.f0, .int .i64 x.f1, .int .i64 x.f2, .int .i64 x.f3, .int .i64 x.f4]] w (FieldsPost x a b c d w) := by
  obtain ⟨op, lo, hi, X, Y⟩ := x
  dsimp only at hix ⊢
  have ka := (Kp.refl [] w).alloc (.cells #[.int .i64 op, .int .i64 lo, .int .i64 hi, .int .i64 X, .int .i64 Y] 35)
  have hb := heap_alloc_new w (.cells #[.int .i64 op, .int .i64 lo, .int .i64 hi, .int .i64 X, .int .i64 Y] 35)
  generalize hW1 : w.alloc (.cells #[.int .i64 op, .int .i64 lo, .int .i64 hi, .int .i64 X, .int .i64 Y] 35) = W1 at ka hb
  have HW1 := Lib.hid hW1
  clear hW1
  have HB := Lib.hid hb
  have hfl := fld85
  have C47 := Lib.hid words_any
  go_enter Tryd.func21, Tryd.ntmps21
  go_wp2_with fail
  rw [HW1.out]
  have c0 : W1.cell? ⟨w.heap.size, 0, none⟩ = some (.int .i64 op) := by rw [cellB HB.out]; rfl
  have hlt := ltB hb
  clear hb
  go_region_with (go_at_call 22; refine (C47.out _).mono ?_; rintro e w' ⟨rfl, k2⟩; have yb := kblk (b := w.heap.size) k2 (by first | exact HB.out | exact (Below.heap_alloc W1.drew _ _ hlt).trans HB.out); have y0 := cellB yb 0; have y1 := cellB yb 1; have y2 := cellB yb 2; have y3 := cellB yb 3; have y4 := cellB yb 4; simp at y0 y1 y2 y3 y4; have z0 := ltB yb; have KK : Kp [] w w' := (by first | exact (ka.drew).trans k2 | exact ((ka.drew).alloc _).trans k2); have KS := k2.size; clear yb; try (have q := kblk (b := W1.heap.size) k2 (heap_alloc_new W1.drew _); have q0 := cellB q 0; have q1 := cellB q 1; have q2 := cellB q 2; have q3 := cellB q 3; have r0 := frozB q 0; have r1 := frozB q 1; have r2 := frozB q 2; have r3 := frozB q 3; simp at q0 q1 q2 q3))
  all_goals
    go_wp2
    go_ret
    refine ⟨?_, _, rfl, new_at _ _ _ (by simp)⟩
    first
      | exact (KK.alloc _).alloc _
      | exact ((((KK.setNew (by show w.heap.size ≤ W1.heap.size; exact Nat.le_of_lt hlt) _).setNew (by show w.heap.size ≤ W1.heap.size; exact Nat.le_of_lt hlt) _).setNew (by show w.heap.size ≤ W1.heap.size; exact Nat.le_of_lt hlt) _).setNew (by show w.heap.size ≤ W1.heap.size; exact Nat.le_of_lt hlt) _).alloc _
end Go.Proofs.YtkjkkebaafmheaaDoor
/- Package prog: the walks of Fits and Check. -/
namespace Go.Proofs.YtkjkkebaafmheaaDoor
open Go.RowKit PAll Go.Proofs.YtkjkkebaafmheaaDoorW.PrintWords Go.Proofs.YtkjkkebaafmheaaDoorW.PrintLast Go.Proofs.YtkjkkebaafmheaaDoorW.PrintMore
open Go.Shelf
set_option linter.unusedVariables false
set_option linter.unusedSimpArgs false

def placeB (x : Int) : Bool := decide (0 ≤ x) && decide (x < 4000)
theorem Kp.ofBelow {w w' : World} (h : Below w.heap.size w w') : Kp [] w w' := ⟨h.os, h.tape, h.output, h.size, fun k hk _ => h.block k hk⟩
theorem Kp.drewN {S} {a w : World} (h : Kp S a w) (n : Nat) : Kp S a (w.drewN n) := ⟨h.os, h.tape, h.output, h.size, h.block⟩
theorem place_calls (x : Int) (w : World) : Calls Tryd.prog 31 #[.int .i64 x] w fun e w' => e = .returned (.bool (placeB x)) ∧ Kp [] w w' := by
  refine (prog_place.calls x (placeB x) w ?_).mono ?_
  · unfold prog_place.f placeB
    by_cases h : x ≥ 0
    · rw [if_pos h, decide_eq_true (show 0 ≤ x from h), Bool.true_and]
    · rw [if_neg h, decide_eq_false (show ¬ 0 ≤ x from h), Bool.false_and]
  · rintro e w' ⟨rfl, n, rfl⟩
    exact ⟨rfl, (Kp.refl [] w).drewN n⟩
def fbad (f : Int × Bool) : Bool := !f.2 && f.1 != 0
theorem fits1_calls (x : Int) (b : Bool) (w : World) : Calls Tryd.prog 33 #[.agg #[.int .i64 x, .bool b]] w fun e w' => e = .returned (.bool (fbad (x, b))) ∧ Kp [] w w' := by
  have ka := (Kp.refl [] w).alloc (.cells #[.int .i64 x, .bool b] 53)
  have hb := heap_alloc_new w (.cells #[.int .i64 x, .bool b] 53)
  cases b
  · go_enter Tryd.func33, Tryd.ntmps33
    go_wp2
    go_ret
    exact ⟨by simp [fbad], by first | exact ka | exact ka.drew⟩
  · go_enter Tryd.func33, Tryd.ntmps33
    go_wp2
    go_ret
    exact ⟨by simp [fbad], by first | exact ka | exact ka.drew⟩
def fieldsOf (x : S35) : List (Int × Bool) := match ownF x.f0 with | (a, b, c, d) => [(x.f1, a), (x.f2, b), (x.f3, c), (x.f4, d)]
def encF (f : Int × Bool) : List Value := [.int .i64 f.1, .bool f.2]
theorem fits_pred (w : World) : PredBelow Tryd.prog 33 #[] (fun x => .agg (encF x).toArray) fbad w := by
  intro W x hW
  refine (fits1_calls x.1 x.2 W).mono ?_
  rintro e w' ⟨rfl, k⟩
  exact ⟨rfl, hW.trans (k.below hW.size (by simp))⟩
theorem any_calls (x : S35) (a b c d : Bool) (g : Nat) (w : World) (h : w.heap[g]? = some (.cells #[.int .i64 x.f1, .bool a, .int .i64 x.f2, .bool b, .int .i64 x.f3, .bool c, .int .i64 x.f4, .bool d] 53 (0, 0))) :
    Calls Tryd.prog 32 #[.slice (some ⟨g, 0, none⟩) 4 4, .func (.func 33) #[] #[]] w fun e w' => e = .returned (.bool ([(x.f1, a), (x.f2, b), (x.f3, c), (x.f4, d)].any fbad)) ∧ Kp [] w w' := by
  refine (AnyQ.slices_ContainsFunc Tryd.cfField 2 (by intro w; kernel_rfl) (by intro w; kernel_rfl) encF (fun _ => rfl) fbad 33 #[] (fun args w => by go_simp) g 0 4 4 [(x.f1, a), (x.f2, b), (x.f3, c), (x.f4, d)] w (fits_pred w) (by simp) (by omega) (ltB h) ?_).mono ?_
  · intro j hj i v hv
    rw [cellB h]
    simp only [List.length_cons, List.length_nil] at hj
    have hi : i < 2 := by
      have := (List.getElem?_eq_some_iff.1 hv).1
      simpa [encF] using this
    obtain rfl | rfl : i = 0 ∨ i = 1 := by omega
    all_goals
      obtain rfl | rfl | rfl | rfl : j = 0 ∨ j = 1 ∨ j = 2 ∨ j = 3 := by omega
      all_goals exact hv
  · rintro e w' ⟨rfl, hb⟩
    exact ⟨rfl, Kp.ofBelow hb⟩
def fitsB (x : S35) : Bool :=
  if x.f0 < 1 then false else if x.f0 > 6 then false else if placeB x.f3 = false then false else if placeB x.f4 = false then false
  else if (fieldsOf x).any fbad = true then false
  else if x.f0 = 1 then decide (0 ≤ x.f1) && (decide (x.f1 ≤ x.f2) && decide (x.f2 ≤ 255))
  else if x.f0 = 3 then decide (0 ≤ x.f1) && decide (x.f1 < 64)
  else if x.f0 = 4 then decide (1 ≤ x.f1) && decide (x.f1 ≤ 6)
  else true
set_option maxRecDepth 100000 in
set_option maxHeartbeats 8000000 in
theorem fits_calls (x : S35) (w : World) : Calls Tryd.prog 14 #[.agg #[.int .i64 x.f0, .int .i64 x.f1, .int .i64 x.f2, .int .i64 x.f3, .int .i64 x.f4]] w fun e w' => e = .returned (.bool (fitsB x)) ∧ Kp [] w w' := by
  obtain ⟨op, lo, hi, X, Y⟩ := x
  dsimp only
  have kk := (Kp.refl [] w).alloc (.cells #[.int .i64 op, .int .i64 lo, .int .i64 hi, .int .i64 X, .int .i64 Y] 35)
  have hh := heap_alloc_new w (.cells #[.int .i64 op, .int .i64 lo, .int .i64 hi, .int .i64 X, .int .i64 Y] 35)
  have CP := Lib.hid place_calls
  by_cases p1 : op < 1
  · have d1 := decide_eq_true p1
    go_enter Tryd.func14, Tryd.ntmps14
    go_wp2
    go_ret
    exact ⟨by simp [fitsB, p1], by first | exact kk | exact kk.drew⟩
  have d1 := decide_eq_false p1
  by_cases p2 : op > 6
  · have d2 := decide_eq_true (show 6 < op from p2)
    go_enter Tryd.func14, Tryd.ntmps14
    go_wp2
    go_ret
    exact ⟨by simp [fitsB, p1, p2], by first | exact kk | exact kk.drew⟩
  have d2 := decide_eq_false (show ¬ 6 < op from p2)
  cases pX : placeB X with
  | false =>
    go_enter Tryd.func14, Tryd.ntmps14
    have pY := pX
    go_wp2_with (first
      | (go_at_call 31; refine (CP.out _ _).mono ?_; rintro e w2 ⟨he, k2⟩; (first | rw [pX] at he | rw [pY] at he); subst he; replace hh := kblk (b := w.heap.size) k2 hh; replace kk := kk.trans (show Kp [] _ _ from k2); have y0 := cellB hh 0; have y1 := cellB hh 1; have y2 := cellB hh 2; have y3 := cellB hh 3; have y4 := cellB hh 4; simp at y0 y1 y2 y3 y4)
      | (go_at_call 21; refine (CF.out _).mono ?_; rintro e w2 ⟨k2, g, rfl, hg⟩; replace hh := kblk (b := w.heap.size) k2 hh; replace kk := kk.trans (show Kp [] _ _ from k2))
      | (go_at_call 32; refine (any_calls ⟨op, lo, hi, X, Y⟩ _ _ _ _ g _ hg).mono ?_; rintro e w2 ⟨rfl, k2⟩; replace hh := kblk (b := w.heap.size) k2 hh; replace kk := kk.trans (show Kp [] _ _ from k2); have y0 := cellB hh 0; have y1 := cellB hh 1; have y2 := cellB hh 2; have y3 := cellB hh 3; have y4 := cellB hh 4; simp at y0 y1 y2 y3 y4))
    go_ret
    exact ⟨by simp [fitsB, p1, p2, pX], by first | exact kk | exact kk.drew⟩
  | true =>
    cases pY : placeB Y with
    | false =>
      go_enter Tryd.func14, Tryd.ntmps14
      go_wp2_with (first
      | (go_at_call 31; refine (CP.out _ _).mono ?_; rintro e w2 ⟨he, k2⟩; (first | rw [pX] at he | rw [pY] at he); subst he; replace hh := kblk (b := w.heap.size) k2 hh; replace kk := kk.trans (show Kp [] _ _ from k2); have y0 := cellB hh 0; have y1 := cellB hh 1; have y2 := cellB hh 2; have y3 := cellB hh 3; have y4 := cellB hh 4; simp at y0 y1 y2 y3 y4)
      | (go_at_call 21; refine (CF.out _).mono ?_; rintro e w2 ⟨k2, g, rfl, hg⟩; replace hh := kblk (b := w.heap.size) k2 hh; replace kk := kk.trans (show Kp [] _ _ from k2))
      | (go_at_call 32; refine (any_calls ⟨op, lo, hi, X, Y⟩ _ _ _ _ g _ hg).mono ?_; rintro e w2 ⟨rfl, k2⟩; replace hh := kblk (b := w.heap.size) k2 hh; replace kk := kk.trans (show Kp [] _ _ from k2); have y0 := cellB hh 0; have y1 := cellB hh 1; have y2 := cellB hh 2; have y3 := cellB hh 3; have y4 := cellB hh 4; simp at y0 y1 y2 y3 y4))
      go_ret
      exact ⟨by simp [fitsB, p1, p2, pX, pY], by first | exact kk | exact kk.drew⟩
    | true =>
      have CF0 := fun (a b c d : Bool) (nm : ByteArray) (w : World) (hix : _) => fields_gen w ⟨op, lo, hi, X, Y⟩ nm a b c d hix
      dsimp only at CF0
      by_cases q6 : op = 6
      · subst q6
        have CF := Lib.hid (fun w => CF0 false false false false _ w idx6)
        cases hA : [(lo, false), (hi, false), (X, false), (Y, false)].any fbad with
        | true =>
          have hA' : (fieldsOf ⟨6, lo, hi, X, Y⟩).any fbad = true := hA
          go_enter Tryd.func14, Tryd.ntmps14
          go_wp2_with (first
      | (go_at_call 31; refine (CP.out _ _).mono ?_; rintro e w2 ⟨he, k2⟩; (first | rw [pX] at he | rw [pY] at he); subst he; replace hh := kblk (b := w.heap.size) k2 hh; replace kk := kk.trans (show Kp [] _ _ from k2); have y0 := cellB hh 0; have y1 := cellB hh 1; have y2 := cellB hh 2; have y3 := cellB hh 3; have y4 := cellB hh 4; simp at y0 y1 y2 y3 y4)
      | (go_at_call 21; refine (CF.out _).mono ?_; rintro e w2 ⟨k2, g, rfl, hg⟩; replace hh := kblk (b := w.heap.size) k2 hh; replace kk := kk.trans (show Kp [] _ _ from k2))
      | (go_at_call 32; refine (any_calls ⟨0, lo, hi, X, Y⟩ _ _ _ _ g _ hg).mono ?_; rintro e w2 ⟨he, k2⟩; dsimp only at he; rw [hA] at he; subst he; replace hh := kblk (b := w.heap.size) k2 hh; replace kk := kk.trans (show Kp [] _ _ from k2); have y0 := cellB hh 0; have y1 := cellB hh 1; have y2 := cellB hh 2; have y3 := cellB hh 3; have y4 := cellB hh 4; simp at y0 y1 y2 y3 y4))
          go_ret
          exact ⟨by rw [fitsB, hA', pX, pY]; simp, by first | exact kk | exact kk.drew⟩
        | false =>
          have hA' : (fieldsOf ⟨6, lo, hi, X, Y⟩).any fbad = false := hA
          go_enter Tryd.func14, Tryd.ntmps14
          go_wp2_with (first
      | (go_at_call 31; refine (CP.out _ _).mono ?_; rintro e w2 ⟨he, k2⟩; (first | rw [pX] at he | rw [pY] at he); subst he; replace hh := kblk (b := w.heap.size) k2 hh; replace kk := kk.trans (show Kp [] _ _ from k2); have y0 := cellB hh 0; have y1 := cellB hh 1; have y2 := cellB hh 2; have y3 := cellB hh 3; have y4 := cellB hh 4; simp at y0 y1 y2 y3 y4)
      | (go_at_call 21; refine (CF.out _).mono ?_; rintro e w2 ⟨k2, g, rfl, hg⟩; replace hh := kblk (b := w.heap.size) k2 hh; replace kk := kk.trans (show Kp [] _ _ from k2))
      | (go_at_call 32; refine (any_calls ⟨0, lo, hi, X, Y⟩ _ _ _ _ g _ hg).mono ?_; rintro e w2 ⟨he, k2⟩; dsimp only at he; rw [hA] at he; subst he; replace hh := kblk (b := w.heap.size) k2 hh; replace kk := kk.trans (show Kp [] _ _ from k2); have y0 := cellB hh 0; have y1 := cellB hh 1; have y2 := cellB hh 2; have y3 := cellB hh 3; have y4 := cellB hh 4; simp at y0 y1 y2 y3 y4))
          go_ret
          exact ⟨by rw [fitsB, hA', pX, pY]; simp [] <;> omega, by first | exact kk | exact kk.drew⟩
      by_cases q5 : op = 5
      · subst q5
        have CF := Lib.hid (fun w => CF0 false false false false _ w idx5)
        cases hA : [(lo, false), (hi, false), (X, false), (Y, false)].any fbad with
        | true =>
          have hA' : (fieldsOf ⟨5, lo, hi, X, Y⟩).any fbad = true := hA
          go_enter Tryd.func14, Tryd.ntmps14
          go_wp2_with (first
      | (go_at_call 31; refine (CP.out _ _).mono ?_; rintro e w2 ⟨he, k2⟩; (first | rw [pX] at he | rw [pY] at he); subst he; replace hh := kblk (b := w.heap.size) k2 hh; replace kk := kk.trans (show Kp [] _ _ from k2); have y0 := cellB hh 0; have y1 := cellB hh 1; have y2 := cellB hh 2; have y3 := cellB hh 3; have y4 := cellB hh 4; simp at y0 y1 y2 y3 y4)
      | (go_at_call 21; refine (CF.out _).mono ?_; rintro e w2 ⟨k2, g, rfl, hg⟩; replace hh := kblk (b := w.heap.size) k2 hh; replace kk := kk.trans (show Kp [] _ _ from k2))
      | (go_at_call 32; refine (any_calls ⟨0, lo, hi, X, Y⟩ _ _ _ _ g _ hg).mono ?_; rintro e w2 ⟨he, k2⟩; dsimp only at he; rw [hA] at he; subst he; replace hh := kblk (b := w.heap.size) k2 hh; replace kk := kk.trans (show Kp [] _ _ from k2); have y0 := cellB hh 0; have y1 := cellB hh 1; have y2 := cellB hh 2; have y3 := cellB hh 3; have y4 := cellB hh 4; simp at y0 y1 y2 y3 y4))
          go_ret
          exact ⟨by rw [fitsB, hA', pX, pY]; simp, by first | exact kk | exact kk.drew⟩
        | false =>
          have hA' : (fieldsOf ⟨5, lo, hi, X, Y⟩).any fbad = false := hA
          go_enter Tryd.func14, Tryd.ntmps14
          go_wp2_with (first
      | (go_at_call 31; refine (CP.out _ _).mono ?_; rintro e w2 ⟨he, k2⟩; (first | rw [pX] at he | rw [pY] at he); subst he; replace hh := kblk (b := w.heap.size) k2 hh; replace kk := kk.trans (show Kp [] _ _ from k2); have y0 := cellB hh 0; have y1 := cellB hh 1; have y2 := cellB hh 2; have y3 := cellB hh 3; have y4 := cellB hh 4; simp at y0 y1 y2 y3 y4)
      | (go_at_call 21; refine (CF.out _).mono ?_; rintro e w2 ⟨k2, g, rfl, hg⟩; replace hh := kblk (b := w.heap.size) k2 hh; replace kk := kk.trans (show Kp [] _ _ from k2))
      | (go_at_call 32; refine (any_calls ⟨0, lo, hi, X, Y⟩ _ _ _ _ g _ hg).mono ?_; rintro e w2 ⟨he, k2⟩; dsimp only at he; rw [hA] at he; subst he; replace hh := kblk (b := w.heap.size) k2 hh; replace kk := kk.trans (show Kp [] _ _ from k2); have y0 := cellB hh 0; have y1 := cellB hh 1; have y2 := cellB hh 2; have y3 := cellB hh 3; have y4 := cellB hh 4; simp at y0 y1 y2 y3 y4))
          go_ret
          exact ⟨by rw [fitsB, hA', pX, pY]; simp [] <;> omega, by first | exact kk | exact kk.drew⟩
      by_cases q2 : op = 2
      · subst q2
        have CF := Lib.hid (fun w => CF0 false false true true _ w idx2)
        cases hA : [(lo, false), (hi, false), (X, true), (Y, true)].any fbad with
        | true =>
          have hA' : (fieldsOf ⟨2, lo, hi, X, Y⟩).any fbad = true := hA
          go_enter Tryd.func14, Tryd.ntmps14
          go_wp2_with (first
      | (go_at_call 31; refine (CP.out _ _).mono ?_; rintro e w2 ⟨he, k2⟩; (first | rw [pX] at he | rw [pY] at he); subst he; replace hh := kblk (b := w.heap.size) k2 hh; replace kk := kk.trans (show Kp [] _ _ from k2); have y0 := cellB hh 0; have y1 := cellB hh 1; have y2 := cellB hh 2; have y3 := cellB hh 3; have y4 := cellB hh 4; simp at y0 y1 y2 y3 y4)
      | (go_at_call 21; refine (CF.out _).mono ?_; rintro e w2 ⟨k2, g, rfl, hg⟩; replace hh := kblk (b := w.heap.size) k2 hh; replace kk := kk.trans (show Kp [] _ _ from k2))
      | (go_at_call 32; refine (any_calls ⟨0, lo, hi, X, Y⟩ _ _ _ _ g _ hg).mono ?_; rintro e w2 ⟨he, k2⟩; dsimp only at he; rw [hA] at he; subst he; replace hh := kblk (b := w.heap.size) k2 hh; replace kk := kk.trans (show Kp [] _ _ from k2); have y0 := cellB hh 0; have y1 := cellB hh 1; have y2 := cellB hh 2; have y3 := cellB hh 3; have y4 := cellB hh 4; simp at y0 y1 y2 y3 y4))
          go_ret
          exact ⟨by rw [fitsB, hA', pX, pY]; simp, by first | exact kk | exact kk.drew⟩
        | false =>
          have hA' : (fieldsOf ⟨2, lo, hi, X, Y⟩).any fbad = false := hA
          go_enter Tryd.func14, Tryd.ntmps14
          go_wp2_with (first
      | (go_at_call 31; refine (CP.out _ _).mono ?_; rintro e w2 ⟨he, k2⟩; (first | rw [pX] at he | rw [pY] at he); subst he; replace hh := kblk (b := w.heap.size) k2 hh; replace kk := kk.trans (show Kp [] _ _ from k2); have y0 := cellB hh 0; have y1 := cellB hh 1; have y2 := cellB hh 2; have y3 := cellB hh 3; have y4 := cellB hh 4; simp at y0 y1 y2 y3 y4)
      | (go_at_call 21; refine (CF.out _).mono ?_; rintro e w2 ⟨k2, g, rfl, hg⟩; replace hh := kblk (b := w.heap.size) k2 hh; replace kk := kk.trans (show Kp [] _ _ from k2))
      | (go_at_call 32; refine (any_calls ⟨0, lo, hi, X, Y⟩ _ _ _ _ g _ hg).mono ?_; rintro e w2 ⟨he, k2⟩; dsimp only at he; rw [hA] at he; subst he; replace hh := kblk (b := w.heap.size) k2 hh; replace kk := kk.trans (show Kp [] _ _ from k2); have y0 := cellB hh 0; have y1 := cellB hh 1; have y2 := cellB hh 2; have y3 := cellB hh 3; have y4 := cellB hh 4; simp at y0 y1 y2 y3 y4))
          go_ret
          exact ⟨by rw [fitsB, hA', pX, pY]; simp [] <;> omega, by first | exact kk | exact kk.drew⟩
      by_cases q3 : op = 3
      · subst q3
        have CF := Lib.hid (fun w => CF0 true false true false _ w idx3)
        cases hA : [(lo, true), (hi, false), (X, true), (Y, false)].any fbad with
        | true =>
          have hA' : (fieldsOf ⟨3, lo, hi, X, Y⟩).any fbad = true := hA
          go_enter Tryd.func14, Tryd.ntmps14
          go_wp2_with (first
      | (go_at_call 31; refine (CP.out _ _).mono ?_; rintro e w2 ⟨he, k2⟩; (first | rw [pX] at he | rw [pY] at he); subst he; replace hh := kblk (b := w.heap.size) k2 hh; replace kk := kk.trans (show Kp [] _ _ from k2); have y0 := cellB hh 0; have y1 := cellB hh 1; have y2 := cellB hh 2; have y3 := cellB hh 3; have y4 := cellB hh 4; simp at y0 y1 y2 y3 y4)
      | (go_at_call 21; refine (CF.out _).mono ?_; rintro e w2 ⟨k2, g, rfl, hg⟩; replace hh := kblk (b := w.heap.size) k2 hh; replace kk := kk.trans (show Kp [] _ _ from k2))
      | (go_at_call 32; refine (any_calls ⟨0, lo, hi, X, Y⟩ _ _ _ _ g _ hg).mono ?_; rintro e w2 ⟨he, k2⟩; dsimp only at he; rw [hA] at he; subst he; replace hh := kblk (b := w.heap.size) k2 hh; replace kk := kk.trans (show Kp [] _ _ from k2); have y0 := cellB hh 0; have y1 := cellB hh 1; have y2 := cellB hh 2; have y3 := cellB hh 3; have y4 := cellB hh 4; simp at y0 y1 y2 y3 y4))
          go_ret
          exact ⟨by rw [fitsB, hA', pX, pY]; simp, by first | exact kk | exact kk.drew⟩
        | false =>
          have hA' : (fieldsOf ⟨3, lo, hi, X, Y⟩).any fbad = false := hA
          by_cases e1 : 0 ≤ lo
          · have g1 := decide_eq_true e1
            by_cases e2 : lo < 64
            · have g2 := decide_eq_true e2
              go_enter Tryd.func14, Tryd.ntmps14
              go_wp2_with (first
      | (go_at_call 31; refine (CP.out _ _).mono ?_; rintro e w2 ⟨he, k2⟩; (first | rw [pX] at he | rw [pY] at he); subst he; replace hh := kblk (b := w.heap.size) k2 hh; replace kk := kk.trans (show Kp [] _ _ from k2); have y0 := cellB hh 0; have y1 := cellB hh 1; have y2 := cellB hh 2; have y3 := cellB hh 3; have y4 := cellB hh 4; simp at y0 y1 y2 y3 y4)
      | (go_at_call 21; refine (CF.out _).mono ?_; rintro e w2 ⟨k2, g, rfl, hg⟩; replace hh := kblk (b := w.heap.size) k2 hh; replace kk := kk.trans (show Kp [] _ _ from k2))
      | (go_at_call 32; refine (any_calls ⟨0, lo, hi, X, Y⟩ _ _ _ _ g _ hg).mono ?_; rintro e w2 ⟨he, k2⟩; dsimp only at he; rw [hA] at he; subst he; replace hh := kblk (b := w.heap.size) k2 hh; replace kk := kk.trans (show Kp [] _ _ from k2); have y0 := cellB hh 0; have y1 := cellB hh 1; have y2 := cellB hh 2; have y3 := cellB hh 3; have y4 := cellB hh 4; simp at y0 y1 y2 y3 y4))
              go_ret
              exact ⟨by rw [fitsB, hA', pX, pY]; simp [e1, e2] <;> omega, by first | exact kk | exact kk.drew⟩
            · have g2 := decide_eq_false e2
              go_enter Tryd.func14, Tryd.ntmps14
              go_wp2_with (first
      | (go_at_call 31; refine (CP.out _ _).mono ?_; rintro e w2 ⟨he, k2⟩; (first | rw [pX] at he | rw [pY] at he); subst he; replace hh := kblk (b := w.heap.size) k2 hh; replace kk := kk.trans (show Kp [] _ _ from k2); have y0 := cellB hh 0; have y1 := cellB hh 1; have y2 := cellB hh 2; have y3 := cellB hh 3; have y4 := cellB hh 4; simp at y0 y1 y2 y3 y4)
      | (go_at_call 21; refine (CF.out _).mono ?_; rintro e w2 ⟨k2, g, rfl, hg⟩; replace hh := kblk (b := w.heap.size) k2 hh; replace kk := kk.trans (show Kp [] _ _ from k2))
      | (go_at_call 32; refine (any_calls ⟨0, lo, hi, X, Y⟩ _ _ _ _ g _ hg).mono ?_; rintro e w2 ⟨he, k2⟩; dsimp only at he; rw [hA] at he; subst he; replace hh := kblk (b := w.heap.size) k2 hh; replace kk := kk.trans (show Kp [] _ _ from k2); have y0 := cellB hh 0; have y1 := cellB hh 1; have y2 := cellB hh 2; have y3 := cellB hh 3; have y4 := cellB hh 4; simp at y0 y1 y2 y3 y4))
              go_ret
              exact ⟨by rw [fitsB, hA', pX, pY]; simp [e1, e2] <;> omega, by first | exact kk | exact kk.drew⟩
          · have g1 := decide_eq_false e1
            go_enter Tryd.func14, Tryd.ntmps14
            go_wp2_with (first
      | (go_at_call 31; refine (CP.out _ _).mono ?_; rintro e w2 ⟨he, k2⟩; (first | rw [pX] at he | rw [pY] at he); subst he; replace hh := kblk (b := w.heap.size) k2 hh; replace kk := kk.trans (show Kp [] _ _ from k2); have y0 := cellB hh 0; have y1 := cellB hh 1; have y2 := cellB hh 2; have y3 := cellB hh 3; have y4 := cellB hh 4; simp at y0 y1 y2 y3 y4)
      | (go_at_call 21; refine (CF.out _).mono ?_; rintro e w2 ⟨k2, g, rfl, hg⟩; replace hh := kblk (b := w.heap.size) k2 hh; replace kk := kk.trans (show Kp [] _ _ from k2))
      | (go_at_call 32; refine (any_calls ⟨0, lo, hi, X, Y⟩ _ _ _ _ g _ hg).mono ?_; rintro e w2 ⟨he, k2⟩; dsimp only at he; rw [hA] at he; subst he; replace hh := kblk (b := w.heap.size) k2 hh; replace kk := kk.trans (show Kp [] _ _ from k2); have y0 := cellB hh 0; have y1 := cellB hh 1; have y2 := cellB hh 2; have y3 := cellB hh 3; have y4 := cellB hh 4; simp at y0 y1 y2 y3 y4))
            go_ret
            exact ⟨by rw [fitsB, hA', pX, pY]; simp [e1] <;> omega, by first | exact kk | exact kk.drew⟩
      by_cases q4 : op = 4
      · subst q4
        have CF := Lib.hid (fun w => CF0 true false true false _ w idx4)
        cases hA : [(lo, true), (hi, false), (X, true), (Y, false)].any fbad with
        | true =>
          have hA' : (fieldsOf ⟨4, lo, hi, X, Y⟩).any fbad = true := hA
          go_enter Tryd.func14, Tryd.ntmps14
          go_wp2_with (first
      | (go_at_call 31; refine (CP.out _ _).mono ?_; rintro e w2 ⟨he, k2⟩; (first | rw [pX] at he | rw [pY] at he); subst he; replace hh := kblk (b := w.heap.size) k2 hh; replace kk := kk.trans (show Kp [] _ _ from k2); have y0 := cellB hh 0; have y1 := cellB hh 1; have y2 := cellB hh 2; have y3 := cellB hh 3; have y4 := cellB hh 4; simp at y0 y1 y2 y3 y4)
      | (go_at_call 21; refine (CF.out _).mono ?_; rintro e w2 ⟨k2, g, rfl, hg⟩; replace hh := kblk (b := w.heap.size) k2 hh; replace kk := kk.trans (show Kp [] _ _ from k2))
      | (go_at_call 32; refine (any_calls ⟨0, lo, hi, X, Y⟩ _ _ _ _ g _ hg).mono ?_; rintro e w2 ⟨he, k2⟩; dsimp only at he; rw [hA] at he; subst he; replace hh := kblk (b := w.heap.size) k2 hh; replace kk := kk.trans (show Kp [] _ _ from k2); have y0 := cellB hh 0; have y1 := cellB hh 1; have y2 := cellB hh 2; have y3 := cellB hh 3; have y4 := cellB hh 4; simp at y0 y1 y2 y3 y4))
          go_ret
          exact ⟨by rw [fitsB, hA', pX, pY]; simp, by first | exact kk | exact kk.drew⟩
        | false =>
          have hA' : (fieldsOf ⟨4, lo, hi, X, Y⟩).any fbad = false := hA
          by_cases e1 : 1 ≤ lo
          · have g1 := decide_eq_true e1
            by_cases e2 : lo ≤ 6
            · have g2 := decide_eq_true e2
              go_enter Tryd.func14, Tryd.ntmps14
              go_wp2_with (first
      | (go_at_call 31; refine (CP.out _ _).mono ?_; rintro e w2 ⟨he, k2⟩; (first | rw [pX] at he | rw [pY] at he); subst he; replace hh := kblk (b := w.heap.size) k2 hh; replace kk := kk.trans (show Kp [] _ _ from k2); have y0 := cellB hh 0; have y1 := cellB hh 1; have y2 := cellB hh 2; have y3 := cellB hh 3; have y4 := cellB hh 4; simp at y0 y1 y2 y3 y4)
      | (go_at_call 21; refine (CF.out _).mono ?_; rintro e w2 ⟨k2, g, rfl, hg⟩; replace hh := kblk (b := w.heap.size) k2 hh; replace kk := kk.trans (show Kp [] _ _ from k2))
      | (go_at_call 32; refine (any_calls ⟨0, lo, hi, X, Y⟩ _ _ _ _ g _ hg).mono ?_; rintro e w2 ⟨he, k2⟩; dsimp only at he; rw [hA] at he; subst he; replace hh := kblk (b := w.heap.size) k2 hh; replace kk := kk.trans (show Kp [] _ _ from k2); have y0 := cellB hh 0; have y1 := cellB hh 1; have y2 := cellB hh 2; have y3 := cellB hh 3; have y4 := cellB hh 4; simp at y0 y1 y2 y3 y4))
              go_ret
              exact ⟨by rw [fitsB, hA', pX, pY]; simp [e1, e2] <;> omega, by first | exact kk | exact kk.drew⟩
            · have g2 := decide_eq_false e2
              go_enter Tryd.func14, Tryd.ntmps14
              go_wp2_with (first
      | (go_at_call 31; refine (CP.out _ _).mono ?_; rintro e w2 ⟨he, k2⟩; (first | rw [pX] at he | rw [pY] at he); subst he; replace hh := kblk (b := w.heap.size) k2 hh; replace kk := kk.trans (show Kp [] _ _ from k2); have y0 := cellB hh 0; have y1 := cellB hh 1; have y2 := cellB hh 2; have y3 := cellB hh 3; have y4 := cellB hh 4; simp at y0 y1 y2 y3 y4)
      | (go_at_call 21; refine (CF.out _).mono ?_; rintro e w2 ⟨k2, g, rfl, hg⟩; replace hh := kblk (b := w.heap.size) k2 hh; replace kk := kk.trans (show Kp [] _ _ from k2))
      | (go_at_call 32; refine (any_calls ⟨0, lo, hi, X, Y⟩ _ _ _ _ g _ hg).mono ?_; rintro e w2 ⟨he, k2⟩; dsimp only at he; rw [hA] at he; subst he; replace hh := kblk (b := w.heap.size) k2 hh; replace kk := kk.trans (show Kp [] _ _ from k2); have y0 := cellB hh 0; have y1 := cellB hh 1; have y2 := cellB hh 2; have y3 := cellB hh 3; have y4 := cellB hh 4; simp at y0 y1 y2 y3 y4))
              go_ret
              exact ⟨by rw [fitsB, hA', pX, pY]; simp [e1, e2] <;> omega, by first | exact kk | exact kk.drew⟩
          · have g1 := decide_eq_false e1
            go_enter Tryd.func14, Tryd.ntmps14
            go_wp2_with (first
      | (go_at_call 31; refine (CP.out _ _).mono ?_; rintro e w2 ⟨he, k2⟩; (first | rw [pX] at he | rw [pY] at he); subst he; replace hh := kblk (b := w.heap.size) k2 hh; replace kk := kk.trans (show Kp [] _ _ from k2); have y0 := cellB hh 0; have y1 := cellB hh 1; have y2 := cellB hh 2; have y3 := cellB hh 3; have y4 := cellB hh 4; simp at y0 y1 y2 y3 y4)
      | (go_at_call 21; refine (CF.out _).mono ?_; rintro e w2 ⟨k2, g, rfl, hg⟩; replace hh := kblk (b := w.heap.size) k2 hh; replace kk := kk.trans (show Kp [] _ _ from k2))
      | (go_at_call 32; refine (any_calls ⟨0, lo, hi, X, Y⟩ _ _ _ _ g _ hg).mono ?_; rintro e w2 ⟨he, k2⟩; dsimp only at he; rw [hA] at he; subst he; replace hh := kblk (b := w.heap.size) k2 hh; replace kk := kk.trans (show Kp [] _ _ from k2); have y0 := cellB hh 0; have y1 := cellB hh 1; have y2 := cellB hh 2; have y3 := cellB hh 3; have y4 := cellB hh 4; simp at y0 y1 y2 y3 y4))
            go_ret
            exact ⟨by rw [fitsB, hA', pX, pY]; simp [e1] <;> omega, by first | exact kk | exact kk.drew⟩
      by_cases q1 : op = 1
      · subst q1
        have CF := Lib.hid (fun w => CF0 true true true false _ w idx1)
        cases hA : [(lo, true), (hi, true), (X, true), (Y, false)].any fbad with
        | true =>
          have hA' : (fieldsOf ⟨1, lo, hi, X, Y⟩).any fbad = true := hA
          go_enter Tryd.func14, Tryd.ntmps14
          go_wp2_with (first
      | (go_at_call 31; refine (CP.out _ _).mono ?_; rintro e w2 ⟨he, k2⟩; (first | rw [pX] at he | rw [pY] at he); subst he; replace hh := kblk (b := w.heap.size) k2 hh; replace kk := kk.trans (show Kp [] _ _ from k2); have y0 := cellB hh 0; have y1 := cellB hh 1; have y2 := cellB hh 2; have y3 := cellB hh 3; have y4 := cellB hh 4; simp at y0 y1 y2 y3 y4)
      | (go_at_call 21; refine (CF.out _).mono ?_; rintro e w2 ⟨k2, g, rfl, hg⟩; replace hh := kblk (b := w.heap.size) k2 hh; replace kk := kk.trans (show Kp [] _ _ from k2))
      | (go_at_call 32; refine (any_calls ⟨0, lo, hi, X, Y⟩ _ _ _ _ g _ hg).mono ?_; rintro e w2 ⟨he, k2⟩; dsimp only at he; rw [hA] at he; subst he; replace hh := kblk (b := w.heap.size) k2 hh; replace kk := kk.trans (show Kp [] _ _ from k2); have y0 := cellB hh 0; have y1 := cellB hh 1; have y2 := cellB hh 2; have y3 := cellB hh 3; have y4 := cellB hh 4; simp at y0 y1 y2 y3 y4))
          go_ret
          exact ⟨by rw [fitsB, hA', pX, pY]; simp, by first | exact kk | exact kk.drew⟩
        | false =>
          have hA' : (fieldsOf ⟨1, lo, hi, X, Y⟩).any fbad = false := hA
          by_cases e1 : 0 ≤ lo
          · have g1 := decide_eq_true e1
            by_cases e2 : lo ≤ hi
            · have g2 := decide_eq_true e2
              by_cases e3 : hi ≤ 255
              · have g3 := decide_eq_true e3
                go_enter Tryd.func14, Tryd.ntmps14
                go_wp2_with (first
      | (go_at_call 31; refine (CP.out _ _).mono ?_; rintro e w2 ⟨he, k2⟩; (first | rw [pX] at he | rw [pY] at he); subst he; replace hh := kblk (b := w.heap.size) k2 hh; replace kk := kk.trans (show Kp [] _ _ from k2); have y0 := cellB hh 0; have y1 := cellB hh 1; have y2 := cellB hh 2; have y3 := cellB hh 3; have y4 := cellB hh 4; simp at y0 y1 y2 y3 y4)
      | (go_at_call 21; refine (CF.out _).mono ?_; rintro e w2 ⟨k2, g, rfl, hg⟩; replace hh := kblk (b := w.heap.size) k2 hh; replace kk := kk.trans (show Kp [] _ _ from k2))
      | (go_at_call 32; refine (any_calls ⟨0, lo, hi, X, Y⟩ _ _ _ _ g _ hg).mono ?_; rintro e w2 ⟨he, k2⟩; dsimp only at he; rw [hA] at he; subst he; replace hh := kblk (b := w.heap.size) k2 hh; replace kk := kk.trans (show Kp [] _ _ from k2); have y0 := cellB hh 0; have y1 := cellB hh 1; have y2 := cellB hh 2; have y3 := cellB hh 3; have y4 := cellB hh 4; simp at y0 y1 y2 y3 y4))
                go_ret
                exact ⟨by rw [fitsB, hA', pX, pY]; simp [e1, e2, e3] <;> omega, by first | exact kk | exact kk.drew⟩
              · have g3 := decide_eq_false e3
                go_enter Tryd.func14, Tryd.ntmps14
                go_wp2_with (first
      | (go_at_call 31; refine (CP.out _ _).mono ?_; rintro e w2 ⟨he, k2⟩; (first | rw [pX] at he | rw [pY] at he); subst he; replace hh := kblk (b := w.heap.size) k2 hh; replace kk := kk.trans (show Kp [] _ _ from k2); have y0 := cellB hh 0; have y1 := cellB hh 1; have y2 := cellB hh 2; have y3 := cellB hh 3; have y4 := cellB hh 4; simp at y0 y1 y2 y3 y4)
      | (go_at_call 21; refine (CF.out _).mono ?_; rintro e w2 ⟨k2, g, rfl, hg⟩; replace hh := kblk (b := w.heap.size) k2 hh; replace kk := kk.trans (show Kp [] _ _ from k2))
      | (go_at_call 32; refine (any_calls ⟨0, lo, hi, X, Y⟩ _ _ _ _ g _ hg).mono ?_; rintro e w2 ⟨he, k2⟩; dsimp only at he; rw [hA] at he; subst he; replace hh := kblk (b := w.heap.size) k2 hh; replace kk := kk.trans (show Kp [] _ _ from k2); have y0 := cellB hh 0; have y1 := cellB hh 1; have y2 := cellB hh 2; have y3 := cellB hh 3; have y4 := cellB hh 4; simp at y0 y1 y2 y3 y4))
                go_ret
                exact ⟨by rw [fitsB, hA', pX, pY]; simp [e1, e2, e3] <;> omega, by first | exact kk | exact kk.drew⟩
            · have g2 := decide_eq_false e2
              go_enter Tryd.func14, Tryd.ntmps14
              go_wp2_with (first
      | (go_at_call 31; refine (CP.out _ _).mono ?_; rintro e w2 ⟨he, k2⟩; (first | rw [pX] at he | rw [pY] at he); subst he; replace hh := kblk (b := w.heap.size) k2 hh; replace kk := kk.trans (show Kp [] _ _ from k2); have y0 := cellB hh 0; have y1 := cellB hh 1; have y2 := cellB hh 2; have y3 := cellB hh 3; have y4 := cellB hh 4; simp at y0 y1 y2 y3 y4)
      | (go_at_call 21; refine (CF.out _).mono ?_; rintro e w2 ⟨k2, g, rfl, hg⟩; replace hh := kblk (b := w.heap.size) k2 hh; replace kk := kk.trans (show Kp [] _ _ from k2))
      | (go_at_call 32; refine (any_calls ⟨0, lo, hi, X, Y⟩ _ _ _ _ g _ hg).mono ?_; rintro e w2 ⟨he, k2⟩; dsimp only at he; rw [hA] at he; subst he; replace hh := kblk (b := w.heap.size) k2 hh; replace kk := kk.trans (show Kp [] _ _ from k2); have y0 := cellB hh 0; have y1 := cellB hh 1; have y2 := cellB hh 2; have y3 := cellB hh 3; have y4 := cellB hh 4; simp at y0 y1 y2 y3 y4))
              go_ret
              exact ⟨by rw [fitsB, hA', pX, pY]; simp [e1, e2] <;> omega, by first | exact kk | exact kk.drew⟩
          · have g1 := decide_eq_false e1
            go_enter Tryd.func14, Tryd.ntmps14
            go_wp2_with (first
      | (go_at_call 31; refine (CP.out _ _).mono ?_; rintro e w2 ⟨he, k2⟩; (first | rw [pX] at he | rw [pY] at he); subst he; replace hh := kblk (b := w.heap.size) k2 hh; replace kk := kk.trans (show Kp [] _ _ from k2); have y0 := cellB hh 0; have y1 := cellB hh 1; have y2 := cellB hh 2; have y3 := cellB hh 3; have y4 := cellB hh 4; simp at y0 y1 y2 y3 y4)
      | (go_at_call 21; refine (CF.out _).mono ?_; rintro e w2 ⟨k2, g, rfl, hg⟩; replace hh := kblk (b := w.heap.size) k2 hh; replace kk := kk.trans (show Kp [] _ _ from k2))
      | (go_at_call 32; refine (any_calls ⟨0, lo, hi, X, Y⟩ _ _ _ _ g _ hg).mono ?_; rintro e w2 ⟨he, k2⟩; dsimp only at he; rw [hA] at he; subst he; replace hh := kblk (b := w.heap.size) k2 hh; replace kk := kk.trans (show Kp [] _ _ from k2); have y0 := cellB hh 0; have y1 := cellB hh 1; have y2 := cellB hh 2; have y3 := cellB hh 3; have y4 := cellB hh 4; simp at y0 y1 y2 y3 y4))
            go_ret
            exact ⟨by rw [fitsB, hA', pX, pY]; simp [e1] <;> omega, by first | exact kk | exact kk.drew⟩
      omega
end Go.Proofs.YtkjkkebaafmheaaDoor
/- Package prog: the walk of Check. -/
namespace Go.Proofs.YtkjkkebaafmheaaDoor
open Go.RowKit PAll Go.Proofs.YtkjkkebaafmheaaDoorW.PrintWords Go.Proofs.YtkjkkebaafmheaaDoorW.PrintLast Go.Proofs.YtkjkkebaafmheaaDoorW.PrintMore
open Go.Shelf
set_option linter.unusedVariables false
set_option linter.unusedSimpArgs false
instance : Inhabited S35 := ⟨z35⟩
def encI (x : S35) : List Value := [.int .i64 x.f0, .int .i64 x.f1, .int .i64 x.f2, .int .i64 x.f3, .int .i64 x.f4]
theorem addNone (b o n : Nat) : Addr.add ⟨b, o, none⟩ n = ⟨b, o + n, none⟩ := by unfold Addr.add; by_cases h : n = 0 <;> simp [h]
theorem rowOpen {w : World} {A : Option Addr} {l : List S35} (h : Kd.C k35 w A l.length l) (hn : 0 < l.length) : ∃ b o, A = some ⟨b, o, none⟩ ∧ b < w.heap.size ∧
    ∀ j, j < l.length → ∀ i v, (encI l[j]!)[i]? = some v → w.cell? ⟨b, o + j * 5 + i, none⟩ = some v := by
  obtain ⟨ad, rfl, h0, -⟩ := at_T35 h 0 (by omega) (by omega)
  obtain ⟨b, o, s⟩ := ad
  obtain rfl : s = none := by
    cases s with
    | none => rfl
    | some k => simp [Addr.add, World.cell?] at h0; split at h0 <;> simp at h0
  refine ⟨b, o, rfl, World.block_lt_of_cell? w _ h0, ?_⟩
  intro j hj i v hv
  obtain ⟨ad, he, k0, k1, k2, k3, k4⟩ := at_T35 h j (by omega) (by omega)
  obtain rfl := Option.some.inj he
  rw [addNone] at k0 k1 k2 k3 k4
  have hr : rd_T35 l j = l[j]! := by simp [rd_T35, List.getD, List.getElem?_eq_getElem hj, getElem!_pos l j hj]
  rw [hr] at k0 k1 k2 k3 k4
  simp only [Int.toNat_natCast] at k0 k1 k2 k3 k4
  have hi : i < 5 := by simpa [encI] using (List.getElem?_eq_some_iff.1 hv).1
  obtain rfl | rfl | rfl | rfl | rfl : i = 0 ∨ i = 1 ∨ i = 2 ∨ i = 3 ∨ i = 4 := by omega
  · exact k0.trans hv
  · exact k1.trans hv
  · exact k2.trans hv
  · exact k3.trans hv
  · exact k4.trans hv
theorem check1_calls (x : S35) (w : World) : Calls Tryd.prog 35 #[.agg #[.int .i64 x.f0, .int .i64 x.f1, .int .i64 x.f2, .int .i64 x.f3, .int .i64 x.f4]] w fun e w' => e = .returned (.bool (!fitsB x)) ∧ Kp [] w w' := by
  have kk := (Kp.refl [] w).alloc (.cells #[.int .i64 x.f0, .int .i64 x.f1, .int .i64 x.f2, .int .i64 x.f3, .int .i64 x.f4] 35)
  have C := Lib.hid fits_calls
  go_enter Tryd.func35, Tryd.ntmps35
  go_wp2_with (go_at_call 14; refine (C.out x _).mono ?_; rintro e w2 ⟨rfl, k2⟩; replace kk := kk.trans (show Kp [] _ _ from k2))
  go_ret
  exact ⟨rfl, kk⟩
theorem check_pred (w : World) : PredBelow Tryd.prog 35 #[] (fun x => .agg (encI x).toArray) (fun x => !fitsB x) w := by
  intro W x hW
  refine (check1_calls x W).mono ?_
  rintro e w' ⟨rfl, k⟩
  exact ⟨rfl, hW.trans (k.below hW.size (by simp))⟩
theorem cont_calls (w W : World) (A : Option Addr) (c : Nat) (l : List S35) (h : Kd.C k35 w A l.length l) (hn : 0 < l.length) (hb : l.length ≤ 4000) (hW : Kp [] w W) :
    Calls Tryd.prog 34 #[.slice A l.length c, .func (.func 35) #[] #[]] W fun e w' => e = .returned (.bool (l.any fun x => !fitsB x)) ∧ Kp [] W w' := by
  obtain ⟨b, o, rfl, hlt, hc⟩ := rowOpen h hn
  refine (AnyQ.slices_ContainsFunc Tryd.cfInst 5 (by intro w; kernel_rfl) (by intro w; kernel_rfl) encI (fun _ => rfl) (fun x => !fitsB x) 35 #[] (fun args w => by go_simp) b o l.length c l W (check_pred W) (Nat.le_refl _) (by omega) (Nat.lt_of_lt_of_le hlt hW.size) (fun j hj i v hv => kcell hW (hc j hj i v hv))).mono ?_
  rintro e w' ⟨rfl, k⟩
  rw [List.take_length]
  exact ⟨rfl, Kp.ofBelow k⟩
def checkB (l : List S35) (start slots : Int) : Int :=
  if (l.length : Int) < 1 then 130 else if (l.length : Int) > 4000 then 130 else if placeB start = false then 130 else if slots < 0 then 130 else if slots > 64 then 130
  else if (l.any fun x => !fitsB x) = true then 130 else 0
set_option maxRecDepth 100000 in
set_option maxHeartbeats 8000000 in
theorem check_calls (A : Option Addr) (c : Nat) (l : List S35) (start slots : Int) (w : World) (h : Kd.C k35 w A l.length l) :
    Calls Tryd.prog 15 #[.agg #[.slice A l.length c, .int .i64 start, .int .i64 slots]] w fun e w' => e = .returned (.int .i64 (checkB l start slots)) ∧ Kp [] w w' := by
  have kk := (Kp.refl [] w).alloc (.cells #[.slice A l.length c, .int .i64 start, .int .i64 slots] 24)
  have hh := heap_alloc_new w (.cells #[.slice A l.length c, .int .i64 start, .int .i64 slots] 24)
  have CP := Lib.hid place_calls
  by_cases p1 : (l.length : Int) < 1
  · have d1 := decide_eq_true p1
    have hv : checkB l start slots = 130 := by rw [checkB]; rw [if_pos p1]
    replace hv := Lib.hid hv
    go_enter Tryd.func15, Tryd.ntmps15
    go_wp2
    go_ret
    exact ⟨by rw [hv.out]; rfl, by first | exact kk | exact kk.drew⟩
  have d1 := decide_eq_false p1
  by_cases p2 : (l.length : Int) > 4000
  · have d2 := decide_eq_true (show 4000 < (l.length : Int) from p2)
    have hv : checkB l start slots = 130 := by rw [checkB, if_neg p1, if_pos p2]
    replace hv := Lib.hid hv
    go_enter Tryd.func15, Tryd.ntmps15
    go_wp2
    go_ret
    exact ⟨by rw [hv.out]; rfl, by first | exact kk | exact kk.drew⟩
  have d2 := decide_eq_false (show ¬ 4000 < (l.length : Int) from p2)
  have hc1 := Lib.hid (fun W => cont_calls w W A c l h (by omega) (by omega))
  cases pS : placeB start with
  | false =>
    have hv : checkB l start slots = 130 := by rw [checkB, if_neg p1, if_neg p2, pS, if_pos rfl]
    replace hv := Lib.hid hv
    go_enter Tryd.func15, Tryd.ntmps15
    go_wp2_with (go_at_call 31; refine (CP.out _ _).mono ?_; rintro e w2 ⟨he, k2⟩; rw [pS] at he; subst he; replace hh := kblk (b := w.heap.size) k2 hh; replace kk := kk.trans (show Kp [] _ _ from k2); have y0 := cellB hh 0; have y1 := cellB hh 1; have y2 := cellB hh 2; simp at y0 y1 y2)
    go_ret
    exact ⟨by rw [hv.out]; rfl, by first | exact kk | exact kk.drew⟩
  | true =>
    by_cases p3 : slots < 0
    · have d3 := decide_eq_true p3
      have hv : checkB l start slots = 130 := by rw [checkB, if_neg p1, if_neg p2, pS, if_neg (by simp), if_pos p3]
      replace hv := Lib.hid hv
      go_enter Tryd.func15, Tryd.ntmps15
      go_wp2_with (go_at_call 31; refine (CP.out _ _).mono ?_; rintro e w2 ⟨he, k2⟩; rw [pS] at he; subst he; replace hh := kblk (b := w.heap.size) k2 hh; replace kk := kk.trans (show Kp [] _ _ from k2); have y0 := cellB hh 0; have y1 := cellB hh 1; have y2 := cellB hh 2; simp at y0 y1 y2)
      go_ret
      exact ⟨by rw [hv.out]; rfl, by first | exact kk | exact kk.drew⟩
    have d3 := decide_eq_false p3
    by_cases p4 : slots > 64
    · have d4 := decide_eq_true (show 64 < slots from p4)
      have hv : checkB l start slots = 130 := by rw [checkB, if_neg p1, if_neg p2, pS, if_neg (by simp), if_neg p3, if_pos p4]
      replace hv := Lib.hid hv
      go_enter Tryd.func15, Tryd.ntmps15
      go_wp2_with (go_at_call 31; refine (CP.out _ _).mono ?_; rintro e w2 ⟨he, k2⟩; rw [pS] at he; subst he; replace hh := kblk (b := w.heap.size) k2 hh; replace kk := kk.trans (show Kp [] _ _ from k2); have y0 := cellB hh 0; have y1 := cellB hh 1; have y2 := cellB hh 2; simp at y0 y1 y2)
      go_ret
      exact ⟨by rw [hv.out]; rfl, by first | exact kk | exact kk.drew⟩
    have d4 := decide_eq_false (show ¬ 64 < slots from p4)
    cases hA : (l.any fun x => !fitsB x) with
    | _ =>
      all_goals
        have hv : checkB l start slots = if ((l.any fun x => !fitsB x) = true) then 130 else 0 := by rw [checkB, if_neg p1, if_neg p2, pS, if_neg (by simp), if_neg p3, if_neg p4]
        rw [hA] at hv
        replace hv := Lib.hid hv
        go_enter Tryd.func15, Tryd.ntmps15
        go_wp2_with (first
          | (go_at_call 31; refine (CP.out _ _).mono ?_; rintro e w2 ⟨he, k2⟩; rw [pS] at he; subst he; replace hh := kblk (b := w.heap.size) k2 hh; replace kk := kk.trans (show Kp [] _ _ from k2); have y0 := cellB hh 0; have y1 := cellB hh 1; have y2 := cellB hh 2; simp at y0 y1 y2)
          | (go_at_call 34; refine (hc1.out _ (by first | exact kk | exact kk.drew)).mono ?_; rintro e w2 ⟨he, k2⟩; rw [hA] at he; subst he; replace kk := kk.trans (show Kp [] _ _ from k2)))
        go_ret
        exact ⟨by rw [hv.out]; rfl, by first | exact kk | exact kk.drew⟩
end Go.Proofs.YtkjkkebaafmheaaDoor
/- Plain laws of decimal digits, of a text that is cut at a byte, and of a line of a word and numbers. No program in sight. -/
namespace Go.Proofs.YtkjkkebaafmheaaDoor
set_option linter.unusedVariables false
set_option linter.unusedSimpArgs false

/-- A number's digits. -/
def digN (n : Nat) : List UInt8 := if n < 10 then [UInt8.ofNat (48 + n)] else digN (n / 10) ++ [UInt8.ofNat (48 + n % 10)]
termination_by n
decreasing_by omega

theorem digN_lt {n : Nat} (h : n < 10) : digN n = [UInt8.ofNat (48 + n)] := by rw [digN, if_pos h]
theorem digN_ge {n : Nat} (h : 10 ≤ n) : digN n = digN (n / 10) ++ [UInt8.ofNat (48 + n % 10)] := by rw [digN, if_neg (by omega)]

theorem toNat_dig {k : Nat} (h : k < 10) : (UInt8.ofNat (48 + k)).toNat = 48 + k := by
  simp [UInt8.toNat_ofNat']; omega

theorem digN_digit (n : Nat) : ∀ c ∈ digN n, 48 ≤ c.toNat ∧ c.toNat ≤ 57 := by
  induction n using Nat.strongRecOn with
  | _ n ih =>
    by_cases h : n < 10
    · rw [digN_lt h]; intro c hc
      rw [List.mem_singleton] at hc; subst hc
      rw [toNat_dig h]; omega
    · rw [digN_ge (by omega)]; intro c hc
      rcases List.mem_append.1 hc with h1 | h1
      · exact ih _ (by omega) c h1
      · rw [List.mem_singleton] at h1; subst h1
        rw [toNat_dig (by omega)]; omega

theorem digN_ne (n : Nat) : digN n ≠ [] := by
  by_cases h : n < 10
  · rw [digN_lt h]; simp
  · rw [digN_ge (by omega)]; simp

theorem digN_no {n : Nat} {c : UInt8} (h : c.toNat < 48 ∨ 57 < c.toNat) : c ∉ digN n := fun hc => by
  have := digN_digit n c hc; omega

theorem digN_len (n : Nat) : ∀ k, n < 10 ^ (k + 1) → (digN n).length ≤ k + 1 := by
  induction n using Nat.strongRecOn with
  | _ n ih =>
    intro k hk
    by_cases h : n < 10
    · rw [digN_lt h]; simp
    · rw [digN_ge (by omega)]
      match k, hk with
      | 0, hk => omega
      | k + 1, hk =>
        have := ih (n / 10) (by omega) k (by rw [Nat.pow_succ] at hk; omega)
        simp; omega

/-- The number of digits. -/
def valL (l : List UInt8) : Nat := l.foldl (fun n c => 10 * n + (c.toNat - 48)) 0
theorem valL_snoc (l : List UInt8) (c : UInt8) : valL (l ++ [c]) = 10 * valL l + (c.toNat - 48) := by simp [valL]
theorem val_dig (n : Nat) : valL (digN n) = n := by
  induction n using Nat.strongRecOn with
  | _ n ih =>
    by_cases h : n < 10
    · rw [digN_lt h]; unfold valL; simp only [List.foldl_cons, List.foldl_nil]; rw [toNat_dig h]; omega
    · rw [digN_ge (by omega), valL_snoc, ih _ (by omega), toNat_dig (by omega)]; omega
theorem digN_inj {a b : Nat} (h : digN a = digN b) : a = b := by rw [← val_dig a, h, val_dig b]

theorem digN_head {n : Nat} : (digN n)[0]? = some 48 → n = 0 := by
  induction n using Nat.strongRecOn with
  | _ n ih =>
    intro h0
    by_cases h : n < 10
    · rw [digN_lt h] at h0; simp at h0
      have := congrArg UInt8.toNat h0
      simp [UInt8.toNat_ofNat'] at this
      omega
    · rw [digN_ge (by omega), List.getElem?_append_left (by
        have := digN_ne (n / 10)
        exact List.length_pos_iff.2 this)] at h0
      have := ih (n / 10) (by omega) h0
      omega

/-- Are these digits a number of at most four? -/
def toldL (l : List UInt8) : Option Nat :=
  if l = [] ∨ 4 < l.length ∨ (l[0]? = some 48 ∧ 1 < l.length) ∨ ∃ c ∈ l, c.toNat < 48 ∨ 57 < c.toNat then none else some (valL l)

theorem u8_dig {c : UInt8} (h : 48 ≤ c.toNat) : UInt8.ofNat (48 + (c.toNat - 48)) = c := by
  have e : 48 + (c.toNat - 48) = c.toNat := by omega
  rw [e]; exact UInt8.ofNat_toNat

theorem dig_val : ∀ (r : List UInt8), r ≠ [] → (r.reverse[0]? = some 48 → r.length ≤ 1) → (∀ c ∈ r, 48 ≤ c.toNat ∧ c.toNat ≤ 57) → digN (valL r.reverse) = r.reverse
  | [], h, _, _ => absurd rfl h
  | [c], _, _, hd => by
    have hc := hd c (by simp)
    have e : valL [c].reverse = c.toNat - 48 := by simp [valL]
    rw [e, digN_lt (by omega), u8_dig hc.1]; rfl
  | c :: d :: r, _, h0, hd => by
    have hc := hd c (by simp)
    have hne : (d :: r) ≠ [] := by simp
    have hz : (d :: r).reverse[0]? ≠ some 48 := by
      intro hh
      have := h0 (by
        rw [List.reverse_cons, List.getElem?_append_left (by simp)]
        exact hh)
      simp at this
    have ih := dig_val (d :: r) hne (fun hh => absurd hh hz) (fun x hx => hd x (by simp [hx]))
    have hpos : 1 ≤ valL (d :: r).reverse := by
      rcases Nat.eq_zero_or_pos (valL (d :: r).reverse) with h | h
      · rw [h] at ih
        rw [← ih] at hz
        exact absurd (by rw [digN_lt (by omega)]; rfl) hz
      · exact h
    rw [List.reverse_cons, valL_snoc, digN_ge (by omega)]
    have e1 : (10 * valL (d :: r).reverse + (c.toNat - 48)) / 10 = valL (d :: r).reverse := by omega
    have e2 : (10 * valL (d :: r).reverse + (c.toNat - 48)) % 10 = c.toNat - 48 := by omega
    rw [e1, e2, ih, u8_dig hc.1]

theorem valL_lt (l : List UInt8) (h : ∀ c ∈ l, c.toNat ≤ 57) : valL l < 10 ^ l.length := by
  have key : ∀ r : List UInt8, (∀ c ∈ r, c.toNat ≤ 57) → valL r.reverse < 10 ^ r.length := by
    intro r
    induction r with
    | nil => intro _; simp [valL]
    | cons c r ih =>
      intro hh
      have := ih (fun x hx => hh x (by simp [hx]))
      have hc := hh c (by simp)
      rw [List.reverse_cons, valL_snoc, List.length_cons, Nat.pow_succ]
      omega
  have := key l.reverse (fun c hc => h c (by simpa using hc))
  simpa using this

theorem toldL_iff (l : List UInt8) (n : Nat) : toldL l = some n ↔ n < 10000 ∧ l = digN n := by
  unfold toldL
  constructor
  · intro h
    split at h
    · simp at h
    · next hn =>
      simp only [not_or, not_exists, not_and] at hn
      obtain ⟨h1, h2, h3, h4⟩ := hn
      have h4' : ∀ c ∈ l, 48 ≤ c.toNat ∧ c.toNat ≤ 57 := fun c hc => by have := h4 c hc; omega
      obtain rfl : valL l = n := by simpa using h
      have hv := valL_lt l (fun c hc => (h4' c hc).2)
      have hp : 10 ^ l.length ≤ 10 ^ 4 := Nat.pow_le_pow_right (by omega) (by omega)
      have hdv := dig_val l.reverse (by simpa using h1) (by
        rw [List.reverse_reverse, List.length_reverse]; intro h0; have := h3 h0; omega) (fun c hc => h4' c (by simpa using hc))
      rw [List.reverse_reverse] at hdv
      exact ⟨by omega, hdv.symm⟩
  · rintro ⟨h, rfl⟩
    rw [if_neg, val_dig]
    simp only [not_or, not_exists, not_and]
    refine ⟨digN_ne n, ?_, ?_, ?_⟩
    · have := digN_len n 3 (by omega); omega
    · intro h0
      have := digN_head h0
      subst this
      rw [digN_lt (by omega)]; simp
    · intro c hc
      have := digN_digit n c hc
      omega

/-- A text cut at each of a byte. -/
def cutL (c : UInt8) : List UInt8 → List (List UInt8)
  | [] => [[]]
  | b :: t => if b = c then [] :: cutL c t else match cutL c t with
    | h :: r => (b :: h) :: r
    | [] => [[b]]
def joinL (c : UInt8) : List (List UInt8) → List UInt8
  | [] => []
  | h :: r => h ++ r.flatMap (c :: ·)

theorem cutL_ne (c : UInt8) : ∀ l, cutL c l ≠ []
  | [] => by simp [cutL]
  | b :: t => by
    unfold cutL
    split
    · simp
    · split <;> simp
theorem join_cut (c : UInt8) : ∀ l, joinL c (cutL c l) = l
  | [] => rfl
  | b :: t => by
    have ih := join_cut c t
    have hne := cutL_ne c t
    unfold cutL
    split
    · next h =>
      subst h
      cases hc : cutL b t with
      | nil => exact absurd hc hne
      | cons x r => rw [hc] at ih; simp only [joinL] at ih ⊢; simp [ih]
    · cases hc : cutL c t with
      | nil => exact absurd hc hne
      | cons x r => rw [hc] at ih; simp only [joinL] at ih ⊢; simp [ih]
theorem cut_no (c : UInt8) : ∀ l, ∀ x ∈ cutL c l, c ∉ x
  | [] => by simp [cutL]
  | b :: t => by
    have ih := cut_no c t
    unfold cutL
    split
    · intro x hx
      rcases List.mem_cons.1 hx with h | h
      · subst h; simp
      · exact ih x h
    · next hb =>
      cases hc : cutL c t with
      | nil => intro x hx; simp at hx; subst hx; simpa using Ne.symm hb
      | cons y r =>
        rw [hc] at ih
        intro x hx
        rcases List.mem_cons.1 hx with h | h
        · subst h
          have := ih y (by simp)
          simp only [List.mem_cons, not_or]
          exact ⟨Ne.symm hb, this⟩
        · exact ih x (by simp [h])
theorem cut_app (c : UInt8) : ∀ (a t : List UInt8), c ∉ a → cutL c (a ++ c :: t) = a :: cutL c t
  | [], t, _ => by simp [cutL]
  | b :: a, t, h => by
    have hb : b ≠ c := fun e => h (by simp [e])
    have ih := cut_app c a t (fun hh => h (by simp [hh]))
    rw [List.cons_append, cutL, if_neg hb, ih]
theorem cut_one (c : UInt8) : ∀ (a : List UInt8), c ∉ a → cutL c a = [a]
  | [], _ => rfl
  | b :: a, h => by
    have hb : b ≠ c := fun e => h (by simp [e])
    have ih := cut_one c a (fun hh => h (by simp [hh]))
    rw [cutL, if_neg hb, ih]
theorem cut_join (c : UInt8) : ∀ (r : List (List UInt8)) (h : List UInt8), c ∉ h → (∀ x ∈ r, c ∉ x) → cutL c (joinL c (h :: r)) = h :: r
  | [], h, hh, _ => by simpa [joinL] using cut_one c h hh
  | x :: r, h, hh, hr => by
    have ih := cut_join c r x (hr x (by simp)) (fun y hy => hr y (by simp [hy]))
    have e : joinL c (h :: x :: r) = h ++ c :: joinL c (x :: r) := by simp [joinL]
    rw [e, cut_app c h _ hh, ih]

/-- A line's word and numbers. -/
def lineP (w : List UInt8) (ns : List Nat) : List UInt8 := w ++ ns.flatMap (fun n => 32 :: digN n)
def partsL (s : List UInt8) : Option (List UInt8 × List Nat) :=
  match cutL 32 s with
  | [] => none
  | w :: r => (r.mapM toldL).map fun ns => (w, ns)

theorem mapM_told : ∀ (r : List (List UInt8)) (ns : List Nat), r.mapM toldL = some ns ↔ (∀ n ∈ ns, n < 10000) ∧ r = ns.map digN
  | [], ns => by
    constructor
    · intro h; simp at h; subst h; simp
    · rintro ⟨_, h⟩
      have := h.symm
      simp at this; subst this; rfl
  | x :: r, ns => by
    rw [List.mapM_cons]
    constructor
    · intro h
      simp only [Option.bind_eq_bind, Option.bind_eq_some_iff, Option.pure_def, Option.some.injEq] at h
      obtain ⟨n, h1, ms, h2, rfl⟩ := h
      have e1 := (toldL_iff x n).1 h1
      have e2 := (mapM_told r ms).1 h2
      refine ⟨?_, by rw [e1.2, e2.2]; rfl⟩
      intro m hm
      rcases List.mem_cons.1 hm with h | h
      · subst h; exact e1.1
      · exact e2.1 m h
    · rintro ⟨h1, h2⟩
      cases ns with
      | nil => simp at h2
      | cons n ms =>
        simp only [List.map_cons, List.cons.injEq] at h2
        rw [(toldL_iff x n).2 ⟨h1 n (by simp), h2.1⟩, (mapM_told r ms).2 ⟨fun m hm => h1 m (by simp [hm]), h2.2⟩]
        rfl

theorem flat_dig (ns : List Nat) : ns.flatMap (fun n => (32 : UInt8) :: digN n) = (ns.map digN).flatMap (32 :: ·) := by
  induction ns with
  | nil => rfl
  | cons n r ih => simp only [List.flatMap_cons, List.map_cons, ih]
theorem lineP_join (w : List UInt8) (ns : List Nat) : lineP w ns = joinL 32 (w :: ns.map digN) := by
  unfold lineP joinL; rw [flat_dig]

theorem partsL_iff (s w : List UInt8) (ns : List Nat) : partsL s = some (w, ns) ↔ 32 ∉ w ∧ (∀ n ∈ ns, n < 10000) ∧ s = lineP w ns := by
  unfold partsL
  constructor
  · intro h
    have hj := join_cut 32 s
    have hno := cut_no 32 s
    cases hc : cutL 32 s with
    | nil => exact absurd hc (cutL_ne 32 s)
    | cons v r =>
      rw [hc] at h hj hno
      simp only [Option.map_eq_some_iff, Prod.mk.injEq] at h
      obtain ⟨ms, hm, rfl, rfl⟩ := h
      have e := (mapM_told r ms).1 hm
      refine ⟨hno v (by simp), e.1, ?_⟩
      rw [lineP_join, ← e.2, hj]
  · rintro ⟨h1, h2, rfl⟩
    rw [lineP_join, cut_join 32 _ _ h1 (by
      intro x hx
      obtain ⟨n, _, rfl⟩ := List.mem_map.1 hx
      exact digN_no (by decide))]
    simp only
    rw [(mapM_told _ ns).2 ⟨h2, rfl⟩]
    rfl

theorem lineP_no {w : List UInt8} {ns : List Nat} (h : 10 ∉ w) : 10 ∉ lineP w ns := by
  unfold lineP
  intro hx
  rcases List.mem_append.1 hx with h1 | h1
  · exact h h1
  · obtain ⟨n, _, hn⟩ := List.mem_flatMap.1 h1
    rcases List.mem_cons.1 hn with h2 | h2
    · revert h2; decide
    · exact absurd h2 (digN_no (by decide))
end Go.Proofs.YtkjkkebaafmheaaDoor
/- Plain laws of a program's lines: what is read is what is written. No program in sight. -/
namespace Go.Proofs.YtkjkkebaafmheaaDoor
open PAll
set_option linter.unusedVariables false
set_option linter.unusedSimpArgs false

/-- An operation's word. -/
def nameL (op : Int) : List UInt8 :=
  if op = 1 then [98, 121, 116, 101] else if op = 2 then [115, 112, 108, 105, 116] else if op = 3 then [99, 97, 112] else if op = 4 then [97, 115, 115, 101, 114, 116]
  else if op = 5 then [109, 97, 116, 99, 104] else if op = 6 then [102, 97, 105, 108] else []
def opOf (w : List UInt8) : Option Int :=
  if w = [98, 121, 116, 101] then some 1 else if w = [115, 112, 108, 105, 116] then some 2 else if w = [99, 97, 112] then some 3 else if w = [97, 115, 115, 101, 114, 116] then some 4
  else if w = [109, 97, 116, 99, 104] then some 5 else if w = [102, 97, 105, 108] then some 6 else none
theorem opOf_iff (w : List UInt8) (op : Int) : opOf w = some op ↔ (1 ≤ op ∧ op ≤ 6) ∧ w = nameL op := by
  constructor
  · intro h
    unfold opOf at h
    split at h
    · next e => obtain rfl : (1 : Int) = op := by simpa using h
                exact ⟨by decide, e⟩
    split at h
    · next e => obtain rfl : (2 : Int) = op := by simpa using h
                exact ⟨by decide, e⟩
    split at h
    · next e => obtain rfl : (3 : Int) = op := by simpa using h
                exact ⟨by decide, e⟩
    split at h
    · next e => obtain rfl : (4 : Int) = op := by simpa using h
                exact ⟨by decide, e⟩
    split at h
    · next e => obtain rfl : (5 : Int) = op := by simpa using h
                exact ⟨by decide, e⟩
    split at h
    · next e => obtain rfl : (6 : Int) = op := by simpa using h
                exact ⟨by decide, e⟩
    · simp at h
  · rintro ⟨⟨h1, h2⟩, rfl⟩
    obtain rfl | rfl | rfl | rfl | rfl | rfl : op = 1 ∨ op = 2 ∨ op = 3 ∨ op = 4 ∨ op = 5 ∨ op = 6 := by omega
    all_goals decide

/-- The numbers of an instruction's own fields. -/
def ownNums (x : S35) : List Nat :=
  if x.f0 = 1 then [x.f1.toNat, x.f2.toNat, x.f3.toNat] else if x.f0 = 2 then [x.f3.toNat, x.f4.toNat] else if x.f0 = 3 ∨ x.f0 = 4 then [x.f1.toNat, x.f3.toNat] else []
def instT (x : S35) : List UInt8 := lineP (nameL x.f0) (ownNums x) ++ [10]
def headT (st sl : Int) : List UInt8 := lineP [112, 114, 111, 103, 114, 97, 109] [st.toNat, sl.toNat] ++ [10]
def progT (l : List S35) (st sl : Int) : List UInt8 := headT st sl ++ l.flatMap instT

def fillL (op : Int) (ns : List Nat) : Option S35 :=
  if op = 1 then (match ns with | [a, b, c] => some ⟨1, a, b, c, 0⟩ | _ => none)
  else if op = 2 then (match ns with | [a, b] => some ⟨2, 0, 0, a, b⟩ | _ => none)
  else if op = 3 ∨ op = 4 then (match ns with | [a, b] => some ⟨op, a, 0, b, 0⟩ | _ => none)
  else (match ns with | [] => some ⟨op, 0, 0, 0, 0⟩ | _ => none)
def instL (s : List UInt8) : Option S35 :=
  match partsL s with
  | none => none
  | some (w, ns) => match opOf w with
    | none => none
    | some op => fillL op ns

/-- An instruction whose own fields are small, and whose others are nought. -/
def rawI (x : S35) : Prop := (1 ≤ x.f0 ∧ x.f0 ≤ 6) ∧ (∀ n ∈ ownNums x, n < 10000) ∧ fillL x.f0 (ownNums x) = some x

theorem fill_own {op : Int} {ns : List Nat} {x : S35} (hop : 1 ≤ op ∧ op ≤ 6) (h : fillL op ns = some x) : x.f0 = op ∧ ownNums x = ns := by
  obtain rfl | rfl | rfl | rfl | rfl | rfl : op = 1 ∨ op = 2 ∨ op = 3 ∨ op = 4 ∨ op = 5 ∨ op = 6 := by omega
  all_goals
    simp (decide := true) only [fillL, if_true, if_false] at h
    split at h
    · obtain rfl := Option.some.inj h
      exact ⟨rfl, by simp [ownNums]⟩
    · simp at h

theorem name_no10 {op : Int} (h : 1 ≤ op ∧ op ≤ 6) : (10 : UInt8) ∉ nameL op ∧ (32 : UInt8) ∉ nameL op := by
  obtain rfl | rfl | rfl | rfl | rfl | rfl : op = 1 ∨ op = 2 ∨ op = 3 ∨ op = 4 ∨ op = 5 ∨ op = 6 := by omega
  all_goals decide

theorem instL_iff (s : List UInt8) (x : S35) : instL s = some x ↔ rawI x ∧ s ++ [10] = instT x := by
  unfold instL
  constructor
  · intro h
    cases hp : partsL s with
    | none => rw [hp] at h; simp at h
    | some q =>
      obtain ⟨w, ns⟩ := q
      rw [hp] at h
      simp only at h
      cases ho : opOf w with
      | none => rw [ho] at h; simp at h
      | some op =>
        rw [ho] at h
        simp only at h
        have e1 := (opOf_iff w op).1 ho
        have e2 := (partsL_iff s w ns).1 hp
        obtain ⟨f1, f2⟩ := fill_own e1.1 h
        refine ⟨⟨by rw [f1]; exact e1.1, by rw [f2]; exact e2.2.1, by rw [f1, f2]; exact h⟩, ?_⟩
        unfold instT
        rw [f1, f2, e2.2.2, e1.2]
  · rintro ⟨⟨h1, h2, h3⟩, h4⟩
    have e : s = lineP (nameL x.f0) (ownNums x) := List.append_cancel_right h4
    rw [(partsL_iff s _ _).2 ⟨(name_no10 h1).2, h2, e⟩]
    simp only
    rw [(opOf_iff _ x.f0).2 ⟨h1, rfl⟩]
    exact h3

theorem fits_raw {x : S35} (h : fitsB x = true) : rawI x := by
  obtain ⟨op, lo, hi, X, Y⟩ := x
  unfold fitsB placeB at h
  simp only [Bool.and_eq_false_iff, decide_eq_false_iff_not] at h
  by_cases p1 : op < 1
  · rw [if_pos p1] at h; simp at h
  rw [if_neg p1] at h
  by_cases p2 : op > 6
  · rw [if_pos p2] at h; simp at h
  rw [if_neg p2] at h
  by_cases p3 : ¬0 ≤ X ∨ ¬X < 4000
  · rw [if_pos p3] at h; simp at h
  rw [if_neg p3] at h
  by_cases p4 : ¬0 ≤ Y ∨ ¬Y < 4000
  · rw [if_pos p4] at h; simp at h
  rw [if_neg p4] at h
  by_cases p5 : (fieldsOf ⟨op, lo, hi, X, Y⟩).any fbad = true
  · rw [if_pos p5] at h; simp at h
  rw [if_neg p5] at h
  have hX : ((X.toNat : Nat) : Int) = X := by omega
  have hY : ((Y.toNat : Nat) : Int) = Y := by omega
  obtain rfl | rfl | rfl | rfl | rfl | rfl : op = 1 ∨ op = 2 ∨ op = 3 ∨ op = 4 ∨ op = 5 ∨ op = 6 := by omega
  · simp [fieldsOf, ownF, fbad] at p5
    simp at h
    have hlo : ((lo.toNat : Nat) : Int) = lo := by omega
    have hhi : ((hi.toNat : Nat) : Int) = hi := by omega
    refine ⟨by dsimp only; decide, ?_, ?_⟩
    · intro n hn; simp [ownNums] at hn; omega
    · simp [fillL, ownNums, hlo, hhi, hX, p5]
  · simp [fieldsOf, ownF, fbad] at p5
    refine ⟨by dsimp only; decide, ?_, ?_⟩
    · intro n hn; simp [ownNums] at hn; omega
    · simp [fillL, ownNums, hX, hY, p5]
  · simp [fieldsOf, ownF, fbad] at p5
    simp at h
    have hlo : ((lo.toNat : Nat) : Int) = lo := by omega
    refine ⟨by dsimp only; decide, ?_, ?_⟩
    · intro n hn; simp [ownNums] at hn; omega
    · simp [fillL, ownNums, hX, hlo, p5]
  · simp [fieldsOf, ownF, fbad] at p5
    simp at h
    have hlo : ((lo.toNat : Nat) : Int) = lo := by omega
    refine ⟨by dsimp only; decide, ?_, ?_⟩
    · intro n hn; simp [ownNums] at hn; omega
    · simp [fillL, ownNums, hX, hlo, p5]
  · simp [fieldsOf, ownF, fbad] at p5
    refine ⟨by dsimp only; decide, by simp [ownNums], by simp [fillL, ownNums, p5]⟩
  · simp [fieldsOf, ownF, fbad] at p5
    refine ⟨by dsimp only; decide, by simp [ownNums], by simp [fillL, ownNums, p5]⟩

theorem check_ok {l : List S35} {st sl : Int} (h : checkB l st sl = 0) : (1 ≤ l.length ∧ l.length ≤ 4000) ∧ (0 ≤ st ∧ st < 4000) ∧ (0 ≤ sl ∧ sl ≤ 64) ∧ ∀ x ∈ l, fitsB x = true := by
  unfold checkB at h
  by_cases p1 : (l.length : Int) < 1
  · rw [if_pos p1] at h; simp at h
  rw [if_neg p1] at h
  by_cases p2 : (l.length : Int) > 4000
  · rw [if_pos p2] at h; simp at h
  rw [if_neg p2] at h
  by_cases p3 : placeB st = false
  · rw [if_pos p3] at h; simp at h
  rw [if_neg p3] at h
  by_cases p4 : sl < 0
  · rw [if_pos p4] at h; simp at h
  rw [if_neg p4] at h
  by_cases p5 : sl > 64
  · rw [if_pos p5] at h; simp at h
  rw [if_neg p5] at h
  by_cases p6 : (l.any fun x => !fitsB x) = true
  · rw [if_pos p6] at h; simp at h
  simp [placeB] at p3
  refine ⟨by omega, by omega, by omega, ?_⟩
  intro x hx
  simp at p6
  exact p6 x hx
theorem check_val (l : List S35) (st sl : Int) : checkB l st sl = 0 ∨ checkB l st sl = 130 := by
  unfold checkB
  repeat' split
  all_goals simp

/-- What a program's lines are again. -/
def readL (s : List UInt8) : Option (List S35 × Int × Int) :=
  if (cutL 10 s).getLast? ≠ some [] ∨ (cutL 10 s).length < 2 ∨ 4002 < (cutL 10 s).length then none
  else match partsL ((cutL 10 s).headD []) with
    | some (w, [a, b]) => if w = [112, 114, 111, 103, 114, 97, 109] then
        (match ((cutL 10 s).tail.dropLast).mapM instL with
          | none => none
          | some l => if checkB l a b = 0 then some (l, (a : Int), (b : Int)) else none) else none
    | _ => none

theorem mapM_inst : ∀ (r : List (List UInt8)) (l : List S35), r.mapM instL = some l ↔ (∀ x ∈ l, rawI x) ∧ r.map (· ++ [10]) = l.map instT
  | [], l => by
    constructor
    · intro h; simp at h; subst h; simp
    · rintro ⟨_, h⟩
      have := h.symm
      simp at this; subst this; rfl
  | s :: r, l => by
    rw [List.mapM_cons]
    constructor
    · intro h
      simp only [Option.bind_eq_bind, Option.bind_eq_some_iff, Option.pure_def, Option.some.injEq] at h
      obtain ⟨x, h1, m, h2, rfl⟩ := h
      have e1 := (instL_iff s x).1 h1
      have e2 := (mapM_inst r m).1 h2
      refine ⟨?_, by rw [List.map_cons, List.map_cons, e1.2, e2.2]⟩
      intro y hy
      rcases List.mem_cons.1 hy with h | h
      · subst h; exact e1.1
      · exact e2.1 y h
    · rintro ⟨h1, h2⟩
      cases l with
      | nil => simp at h2
      | cons x m =>
        simp only [List.map_cons, List.cons.injEq] at h2
        rw [(instL_iff s x).2 ⟨h1 x (by simp), h2.1⟩, (mapM_inst r m).2 ⟨fun y hy => h1 y (by simp [hy]), h2.2⟩]
        rfl

theorem join_feed : ∀ (r : List (List UInt8)) (h : List UInt8), joinL 10 (h :: (r ++ [[]])) = h ++ [10] ++ (r.map (· ++ [10])).flatten
  | [], h => by simp [joinL]
  | x :: r, h => by
    have ih := join_feed r x
    have e : joinL 10 (h :: (x :: r ++ [[]])) = h ++ 10 :: joinL 10 (x :: (r ++ [[]])) := by simp [joinL]
    rw [e, ih]; simp

theorem flat_inst (l : List S35) : (l.map instT).flatten = l.flatMap instT := by simp [List.flatMap]

theorem readL_iff (s : List UInt8) (l : List S35) (a b : Int) : readL s = some (l, a, b) ↔ checkB l a b = 0 ∧ progT l a b = s := by
  unfold readL
  constructor
  · intro h
    split at h
    · simp at h
    next hn =>
    simp only [not_or, Decidable.not_not] at hn
    obtain ⟨h1, h2, h3⟩ := hn
    have hj := join_cut 10 s
    obtain ⟨hd, tl, hcut⟩ : ∃ hd tl, cutL 10 s = hd :: tl := by
      cases hc : cutL 10 s with
      | nil => exact absurd hc (cutL_ne 10 s)
      | cons x r => exact ⟨x, r, rfl⟩
    rw [hcut] at h h1 h2 hj
    have htl : tl ≠ [] := by intro e; subst e; simp at h2
    have hlast : tl = tl.dropLast ++ [[]] := by
      have e1 := List.dropLast_concat_getLast htl
      have e2 : tl.getLast htl = [] := by
        have : tl.getLast? = some [] := by rw [List.getLast?_cons] at h1; cases ht : tl.getLast? with
          | none => rw [List.getLast?_eq_none_iff] at ht; exact absurd ht htl
          | some z => rw [ht] at h1; simpa using h1
        rw [List.getLast?_eq_some_getLast htl] at this
        exact Option.some.inj this
      rw [e2] at e1; exact e1.symm
    simp only [List.headD_cons, List.tail_cons] at h
    cases hp : partsL hd with
    | none => rw [hp] at h; simp at h
    | some q =>
      obtain ⟨w, ns⟩ := q
      rw [hp] at h
      match ns, hp, h with
      | [], hp, h => simp at h
      | [_], hp, h => simp at h
      | _ :: _ :: _ :: _, hp, h => simp at h
      | [a', b'], hp, h =>
        simp only at h
        by_cases hw : w = [112, 114, 111, 103, 114, 97, 109]
        · rw [if_pos hw] at h
          cases hm : tl.dropLast.mapM instL with
          | none => rw [hm] at h; simp at h
          | some l' =>
            rw [hm] at h
            simp only at h
            by_cases hch : checkB l' a' b' = 0
            · rw [if_pos hch] at h
              simp only [Option.some.injEq, Prod.mk.injEq] at h
              obtain ⟨rfl, rfl, rfl⟩ := h
              refine ⟨hch, ?_⟩
              have e1 := (partsL_iff hd w _).1 hp
              have e2 := (mapM_inst _ _).1 hm
              rw [← hj, hlast, join_feed, e2.2, flat_inst]
              unfold progT headT
              rw [e1.2.2, hw]
              rfl
            · rw [if_neg hch] at h; simp at h
        · rw [if_neg hw] at h; simp at h
  · rintro ⟨hch, rfl⟩
    obtain ⟨c1, c2, c3, c4⟩ := check_ok hch
    have hraw : ∀ x ∈ l, rawI x := fun x hx => fits_raw (c4 x hx)
    obtain ⟨mid, hmid⟩ : ∃ mid : List (List UInt8), mid = l.map (fun x => lineP (nameL x.f0) (ownNums x)) := ⟨_, rfl⟩
    have hm1 : mid.map (· ++ [10]) = l.map instT := by rw [hmid, List.map_map]; rfl
    have hm2 : mid.mapM instL = some l := (mapM_inst _ _).2 ⟨hraw, hm1⟩
    have hno : ∀ x ∈ mid ++ [[]], (10 : UInt8) ∉ x := by
      intro x hx
      rcases List.mem_append.1 hx with h | h
      · rw [hmid] at h
        obtain ⟨y, hy, rfl⟩ := List.mem_map.1 h
        exact lineP_no (name_no10 (hraw y hy).1).1
      · simp at h; subst h; simp
    have hcut : cutL 10 (progT l a b) = lineP [112, 114, 111, 103, 114, 97, 109] [a.toNat, b.toNat] :: (mid ++ [[]]) := by
      have e : progT l a b = joinL 10 (lineP [112, 114, 111, 103, 114, 97, 109] [a.toNat, b.toNat] :: (mid ++ [[]])) := by
        rw [join_feed, hm1, flat_inst]; rfl
      rw [e]
      exact cut_join 10 _ _ (lineP_no (by decide)) hno
    rw [hcut]
    have hlen : mid.length = l.length := by rw [hmid, List.length_map]
    rw [if_neg (by
      simp only [not_or, Decidable.not_not]
      refine ⟨by rw [List.getLast?_cons, List.getLast?_append]; rfl, by simp, by simp; omega⟩)]
    simp only [List.headD_cons, List.tail_cons, List.dropLast_concat]
    rw [(partsL_iff _ [112, 114, 111, 103, 114, 97, 109] [a.toNat, b.toNat]).2 ⟨by decide, by intro n hn; simp at hn; omega, rfl⟩]
    simp only [if_true, hm2]
    have ea : ((a.toNat : Nat) : Int) = a := by omega
    have eb : ((b.toNat : Nat) : Int) = b := by omega
    rw [ea, eb, if_pos hch]

/-- A program's lines end with a feed, and there is none ahead of it. -/
theorem inst_last {x : S35} (h : rawI x) : ∃ t c, instT x = t ++ [c, 10] ∧ c ≠ 10 := by
  have hne : lineP (nameL x.f0) (ownNums x) ≠ [] := by
    unfold lineP
    obtain ⟨h1, _⟩ := h
    have : nameL x.f0 ≠ [] := by
      obtain h | h | h | h | h | h : x.f0 = 1 ∨ x.f0 = 2 ∨ x.f0 = 3 ∨ x.f0 = 4 ∨ x.f0 = 5 ∨ x.f0 = 6 := by omega
      all_goals (rw [h]; decide)
    simp [this]
  have e := List.dropLast_concat_getLast hne
  refine ⟨(lineP (nameL x.f0) (ownNums x)).dropLast, (lineP (nameL x.f0) (ownNums x)).getLast hne, ?_, ?_⟩
  · unfold instT
    conv => lhs; rw [← e]
    simp
  · intro hc
    have : (10 : UInt8) ∈ lineP (nameL x.f0) (ownNums x) := by rw [← hc]; exact List.getLast_mem hne
    exact lineP_no (name_no10 h.1).1 this

theorem prog_last {l : List S35} {a b : Int} (h : checkB l a b = 0) : ∃ t c, progT l a b = t ++ [c, 10] ∧ c ≠ 10 := by
  obtain ⟨c1, c2, c3, c4⟩ := check_ok h
  have hne : l ≠ [] := by intro e; subst e; simp at c1
  have e := List.dropLast_concat_getLast hne
  obtain ⟨t, c, h1, h2⟩ := inst_last (fits_raw (c4 _ (List.getLast_mem hne)))
  refine ⟨headT a b ++ l.dropLast.flatMap instT ++ t, c, ?_, h2⟩
  unfold progT
  conv => lhs; rw [← e]
  rw [List.flatMap_append]
  simp [h1]
theorem read_more (l : List S35) (a b : Int) : readL (progT l a b ++ [120]) = none := by
  cases h : readL (progT l a b ++ [120]) with
  | none => rfl
  | some q =>
    obtain ⟨l', a', b'⟩ := q
    obtain ⟨h1, h2⟩ := (readL_iff _ _ _ _).1 h
    obtain ⟨t, c, h3, _⟩ := prog_last h1
    rw [h3] at h2
    have := congrArg List.getLast? h2
    simp at this
theorem read_less {l : List S35} {a b : Int} (hc : checkB l a b = 0) : readL (progT l a b).dropLast = none := by
  cases h : readL (progT l a b).dropLast with
  | none => rfl
  | some q =>
    obtain ⟨l', a', b'⟩ := q
    obtain ⟨h1, h2⟩ := (readL_iff _ _ _ _).1 h
    obtain ⟨t, c, h3, _⟩ := prog_last h1
    obtain ⟨t', c', h3', h4⟩ := prog_last hc
    rw [h3, h3'] at h2
    have := congrArg List.getLast? h2
    rw [show t' ++ [c', 10] = (t' ++ [c']) ++ [10] by simp, List.dropLast_concat] at this
    simp at this
    exact absurd this.symm h4
theorem progT_inj {l l' : List S35} {a b a' b' : Int} (h : checkB l a b = 0) (h' : checkB l' a' b' = 0) (e : progT l a b = progT l' a' b') : l = l' ∧ a = a' ∧ b = b' := by
  have e1 := (readL_iff _ _ _ _).2 ⟨h, rfl⟩
  have e2 := (readL_iff _ _ _ _).2 ⟨h', rfl⟩
  rw [e, e2] at e1
  simpa [eq_comm] using e1
end Go.Proofs.YtkjkkebaafmheaaDoor
/- Package prog: strings as lists of bytes; what strings.Split, told and parts answer. -/
namespace Go.Proofs.YtkjkkebaafmheaaDoor
open Go.RowKit PAll Go.Proofs.YtkjkkebaafmheaaDoorW.PrintWords Go.Proofs.YtkjkkebaafmheaaDoorW.PrintLast Go.Proofs.YtkjkkebaafmheaaDoorW.PrintMore
open Go.Shelf
set_option linter.unusedVariables false
set_option linter.unusedSimpArgs false
def bs (l : List UInt8) : ByteArray := ⟨l.toArray⟩
theorem bs_size (l : List UInt8) : (bs l).size = l.length := rfl
theorem bs_list (l : List UInt8) : (bs l).toList = l := by simp [bs, ByteArray.toList_eq]
theorem bs_data (l : List UInt8) : (bs l).data.toList = l := by simp [bs]
theorem bs_of (s : ByteArray) : s = bs s.data.toList := by
  cases s with
  | mk d => simp [bs]
theorem bs_inj {a b : List UInt8} (h : bs a = bs b) : a = b := by rw [← bs_data a, h, bs_data]
theorem bs_app (a b : List UInt8) : bs a ++ bs b = bs (a ++ b) := by
  rw [bs_of (bs a ++ bs b)]
  congr 1
theorem bs_ext (l : List UInt8) (a b : Nat) : (bs l).extract a b = bs ((l.take b).drop a) := by
  have : ((bs l).extract a b).data = (bs ((l.take b).drop a)).data := by
    rw [ByteArray.data_extract]
    apply Array.ext'
    simp [bs, List.extract_eq_take_drop, List.drop_take]
  cases h : (bs l).extract a b with
  | mk d => rw [h] at this; show (⟨d⟩ : ByteArray) = ⟨_⟩; rw [show d = _ from this]; rfl
theorem bt_bs (l : List UInt8) (i : Nat) (h : i < l.length) : bt (bs l) (i : Int) = (l[i].toNat : Int) := by
  have hh : (i : Int).toNat < (bs l).size := by simpa [bs_size] using h
  unfold bt
  rw [dif_pos hh]
  rfl
theorem w64 (x : Int) (h0 : -9223372036854775808 ≤ x) (h1 : x < 9223372036854775808) : wrap64 x = x := by unfold wrap64; omega

theorem splitK_cut (c : UInt8) : ∀ l : List UInt8, Lib.splitK [c] 0 (Lib.count l [c]) l = cutL c l
  | [] => by rw [Lib.count_one]; rfl
  | b :: l => by
    have ih := splitK_cut c l
    by_cases h : b = c
    · subst h
      rw [Lib.count_cons_eq, Nat.add_comm]
      have hix : Lib.index (b :: l) [b] = 0 := by rw [Lib.index]; simp [List.isPrefixOf]
      simp only [Lib.splitK, hix, cutL, if_true]
      rw [if_neg (by decide)]
      simp [ih]
    · rw [Lib.count_cons_ne b c l h]
      have hp : ([c] : List UInt8).isPrefixOf (b :: l) = false := by simp [List.isPrefixOf, Ne.symm h]
      have hix : Lib.index (b :: l) [c] = if Lib.index l [c] == -1 then -1 else Lib.index l [c] + 1 := by rw [Lib.index, hp]; simp
      rw [cutL, if_neg h, ← ih]
      by_cases hm : Lib.index l [c] = -1
      · rw [Lib.count_miss hm]; rfl
      · have hge := Lib.index_ge l [c]
        obtain ⟨j, hj⟩ : ∃ j : Nat, Lib.index l [c] = j := ⟨(Lib.index l [c]).toNat, by omega⟩
        have hix' : Lib.index (b :: l) [c] = ((j + 1 : Nat) : Int) := by rw [hix, if_neg (fun e => hm (beq_iff_eq.1 e)), hj]; omega
        rw [Lib.count_hit (by simp) hj, Nat.add_comm 1]
        simp only [Lib.splitK, hix', hj]
        rw [if_neg (by simp; omega), if_neg (by simp)]
        simp
theorem split_bs (c : UInt8) (l : List UInt8) : Lib.splitB (bs [c]) 0 (Lib.countB (bs l) (bs [c])) (bs l) = (cutL c l).map bs := by
  have h := Lib.splitB_data (bs [c]) 0 (Lib.countB (bs l) (bs [c])) (bs l)
  rw [bs_data, bs_data] at h
  have hc : Lib.countB (bs l) (bs [c]) = Lib.count l [c] := by unfold Lib.countB; rw [bs_data, bs_data]
  rw [hc] at h ⊢
  rw [splitK_cut] at h
  rw [← h, List.map_map]
  exact ((List.map_congr_left (fun x _ => (bs_of x).symm)).trans (List.map_id _)).symm
theorem count_cut (c : UInt8) (l : List UInt8) : Lib.countB (bs l) (bs [c]) + 1 = (cutL c l).length := by
  have h := Lib.splitB_all (bs [c]) (by rw [bs_size]; exact Nat.le_refl 1) 0 _ (bs l) rfl
  rw [split_bs, List.length_map] at h
  exact h.symm

/-- A row of texts in a block. -/
def texts (ps : List (List UInt8)) : Array Value := (ps.map fun p => Value.string (bs p)).toArray
theorem texts_size (ps : List (List UInt8)) : (texts ps).size = ps.length := by simp [texts]
theorem texts_at (ps : List (List UInt8)) (i : Nat) (h : i < ps.length) : (texts ps)[i]? = some (.string (bs ps[i])) := by simp [texts, h]
theorem split_calls (c : UInt8) (l : List UInt8) (m : Int) (w : World) (hm : w.cell? ⟨0, 0, none⟩ = some (.int .i64 m)) (hl : l.length ≤ 4000000) :
    Calls Tryd.prog 25 #[.string (bs l), .string (bs [c])] w fun e w' =>
      e = .returned (.slice (some ⟨w.heap.size, 0, none⟩) (cutL c l).length (cutL c l).length) ∧ w' = w.alloc (.cells (texts (cutL c l)) 9) := by
  refine (Tryd.strings_Split (bs l) (bs [c]) m w (by rw [bs_size]; omega) hm (by rw [bs_size]; exact Nat.le_refl 1)).mono ?_
  rintro e w' ⟨rfl, rfl⟩
  rw [split_bs, count_cut]
  refine ⟨rfl, ?_⟩
  rw [List.map_map]
  rfl

theorem told_l (l : List UInt8) (h4 : l.length ≤ 4) : ∀ k q, q ≤ l.length → l.length - q < k → (∀ c ∈ l.take q, 48 ≤ c.toNat ∧ c.toNat ≤ 57) →
    prog_told.l0 k (bs l) (valL (l.take q)) (l.length : Nat) (q : Nat) = some (if ∃ c ∈ l, c.toNat < 48 ∨ 57 < c.toNat then ((0 : Int), false) else (((valL l : Nat) : Int), true))
  | 0, q, _, h, _ => by omega
  | k + 1, q, hq, hk, hd => by
    unfold prog_told.l0
    rw [bs_size]
    by_cases h : q < l.length
    · have hv := valL_lt (l.take q) (fun c hc => (hd c hc).2)
      have hp : 10 ^ (l.take q).length ≤ 10 ^ 3 := Nat.pow_le_pow_right (by omega) (by rw [List.length_take]; omega)
      rw [if_pos (by omega), if_pos (by omega), if_pos (by omega), bt_bs l q h]
      by_cases h1 : l[q].toNat < 48
      · rw [if_pos (by omega), if_pos ⟨l[q], List.getElem_mem _, .inl h1⟩]
      rw [if_neg (by omega)]
      by_cases h2 : 57 < l[q].toNat
      · rw [if_pos (by omega), if_pos ⟨l[q], List.getElem_mem _, .inr h2⟩]
      rw [if_neg (by omega)]
      have hs : valL (l.take (q + 1)) = 10 * valL (l.take q) + (l[q].toNat - 48) := by
        rw [← List.take_append_getElem h, valL_snoc]
      have hd' : ∀ c ∈ l.take (q + 1), 48 ≤ c.toNat ∧ c.toNat ≤ 57 := by
        intro c hc
        rw [← List.take_append_getElem h] at hc
        rcases List.mem_append.1 hc with hc | hc
        · exact hd c hc
        · rw [List.mem_singleton] at hc; subst hc; omega
      have ih := told_l l h4 k (q + 1) h (by omega) hd'
      rw [w64 (10 * _) (by omega) (by omega), w64 (_ + _) (by omega) (by omega), w64 ((q : Int) + 1) (by omega) (by omega)]
      rw [show (10 * (valL (l.take q) : Int) + ((l[q].toNat : Int) - 48) % 256) = ((valL (l.take (q + 1)) : Nat) : Int) by rw [hs]; omega]
      exact ih
    · have : q = l.length := by omega
      subst this
      rw [if_neg (by omega)]
      rw [List.take_length] at hd
      rw [if_neg (by rintro ⟨c, hc, hh⟩; have := hd c hc; omega), List.take_length]
theorem told_f (l : List UInt8) : prog_told.f 10 (bs l) = some (match toldL l with | none => (0, false) | some n => ((n : Nat), true)) := by
  unfold prog_told.f toldL
  rw [bs_list, bs_size]
  by_cases h1 : l = []
  · rw [if_pos h1, if_pos (.inl h1)]; rfl
  rw [if_neg h1]
  by_cases h2 : 4 < l.length
  · rw [if_pos (by omega), if_pos (.inr (.inl h2))]; rfl
  rw [if_neg (by omega)]
  have hl : 0 < l.length := List.length_pos_iff.2 h1
  rw [if_pos (by omega)]
  have hb : bt (bs l) 0 = (l[0].toNat : Int) := bt_bs l 0 hl
  rw [hb]
  have hh : l[0]? = some l[0] := List.getElem?_eq_getElem hl
  have tail : prog_told.j0 10 (bs l) false = some (if ∃ c ∈ l, c.toNat < 48 ∨ 57 < c.toNat then ((0 : Int), false) else (((valL l : Nat) : Int), true)) := by
    show (if false = true then some (0, false) else prog_told.l0 9 (bs l) 0 ((bs l).size : Int) 0) = _
    rw [if_neg Bool.false_ne_true, bs_size]
    exact told_l l (by omega) 9 0 (by omega) (by omega) (by simp)
  have fin : ¬ (l[0]? = some 48 ∧ 1 < l.length) → some (if ∃ c ∈ l, c.toNat < 48 ∨ 57 < c.toNat then ((0 : Int), false) else (((valL l : Nat) : Int), true)) =
      some (match if l = [] ∨ 4 < l.length ∨ (l[0]? = some 48 ∧ 1 < l.length) ∨ ∃ c ∈ l, c.toNat < 48 ∨ 57 < c.toNat then none else some (valL l) with | none => (0, false) | some n => ((n : Nat), true)) := by
    intro hn
    by_cases h5 : ∃ c ∈ l, c.toNat < 48 ∨ 57 < c.toNat
    · rw [if_pos h5, if_pos (.inr (.inr (.inr h5)))]
    · rw [if_neg h5, if_neg (by
        rintro (h | h | h | h)
        · exact h1 h
        · exact h2 h
        · exact hn h
        · exact h5 h)]
  by_cases h3 : l[0].toNat = 48
  · rw [if_pos (by omega)]
    have e48 : l[0] = 48 := UInt8.toNat_inj.1 (by rw [h3]; rfl)
    by_cases h4 : 1 < l.length
    · rw [decide_eq_true (show (l.length : Int) > 1 by omega), if_pos (.inr (.inr (.inl ⟨by rw [hh, e48], h4⟩)))]; rfl
    · rw [decide_eq_false (show ¬ (l.length : Int) > 1 by omega), tail]
      exact fin (fun h => h4 h.2)
  · rw [if_neg (by omega), tail]
    exact fin (fun h => h3 (by rw [hh] at h; rw [Option.some.inj h.1]; rfl))
def toldV (l : List UInt8) : Int × Bool := match toldL l with | none => (0, false) | some n => ((n : Nat), true)
theorem told_calls (l : List UInt8) (w : World) : Calls Tryd.prog 42 #[.string (bs l)] w fun e w' => e = .returned (.tuple #[.int .i64 (toldV l).1, .bool (toldV l).2]) ∧ Drawn0 w w' :=
  prog_told.calls 10 (bs l) (toldV l).1 (toldV l).2 w (told_f l)
end Go.Proofs.YtkjkkebaafmheaaDoor
/- Package prog: the walk of parts. -/
namespace Go.Proofs.YtkjkkebaafmheaaDoor
open Go.RowKit PAll Go.Proofs.YtkjkkebaafmheaaDoorW.PrintWords Go.Proofs.YtkjkkebaafmheaaDoorW.PrintLast Go.Proofs.YtkjkkebaafmheaaDoorW.PrintMore
open Go.Shelf
set_option linter.unusedVariables false
set_option linter.unusedSimpArgs false
theorem info3 : (Tryd.prog.info? 3).map (fun i => (i.zero, i.size, i.bytes)) = some (some (.int .i64 0), 1, 8) := by kernel_rfl
def nums (ns : List Nat) : List Value := ns.map fun n => .int .i64 (n : Nat)
theorem nums_len (ns : List Nat) : (nums ns).length = ns.length := by simp [nums]
def PartsPost (l : List UInt8) (w : World) (e : Ending) (w' : World) : Prop := Kp [] w w' ∧
  match partsL l with
  | none => e = .returned (.tuple #[.string ⟨#[]⟩, .slice none 0 0, .bool false])
  | some (wd, ns) => ∃ v, e = .returned (.tuple #[.string (bs wd), v, .bool true]) ∧ w'.ownsRow w.heap.size 3 1 v ns.length (nums ns)
/-- The first of a row. -/
def hd1 (ps : List (List UInt8)) : List UInt8 := ps.headD []
def PartI (w1 : World) (ps : List (List UInt8)) (tv sv cv : Value) (wr : World) : Prop :=
  ∃ i : Nat, cv = .int .i64 i ∧ i ≤ ps.length ∧ Kp [] w1 wr ∧
    ((i = 0 ∧ tv = .string ⟨#[]⟩ ∧ sv = .slice none 0 0) ∨
     (1 ≤ i ∧ tv = .string (bs (hd1 ps)) ∧ ∃ ns : List Nat, (ps.tail.take (i - 1)).mapM toldL = some ns ∧ wr.ownsRow w1.heap.size 3 1 sv ns.length (nums ns)))
theorem mapM_len : ∀ (r : List (List UInt8)) (ns : List Nat), r.mapM toldL = some ns → ns.length = r.length := fun r ns h => by
  have := ((mapM_told r ns).1 h).2
  rw [this, List.length_map]
theorem mapM_snoc (r : List (List UInt8)) (x : List UInt8) (ns : List Nat) (n : Nat) (h : r.mapM toldL = some ns) (hx : toldL x = some n) : (r ++ [x]).mapM toldL = some (ns ++ [n]) := by
  obtain ⟨h1, h2⟩ := (mapM_told r ns).1 h
  obtain ⟨h3, h4⟩ := (toldL_iff x n).1 hx
  refine (mapM_told _ _).2 ⟨?_, by rw [h2, h4]; simp⟩
  intro m hm
  rcases List.mem_append.1 hm with h | h
  · exact h1 m h
  · rw [List.mem_singleton] at h; subst h; exact h3
theorem mapM_none : ∀ (r : List (List UInt8)) (x : List UInt8), x ∈ r → toldL x = none → r.mapM toldL = none
  | [], x, h, _ => by simp at h
  | y :: r, x, h, hx => by
    rw [List.mapM_cons]
    rcases List.mem_cons.1 h with e | e
    · subst e; rw [hx]; rfl
    · rw [mapM_none r x e hx]
      cases toldL y <;> rfl
theorem parts_some {l : List UInt8} {ps : List (List UInt8)} (hps : cutL 32 l = ps) (hne : ps ≠ []) {ns : List Nat} (h : ps.tail.mapM toldL = some ns) : partsL l = some (ps.headD [], ns) := by
  unfold partsL
  rw [hps]
  cases ps with
  | nil => exact absurd rfl hne
  | cons a r => simp only [List.tail_cons] at h; simp [h]
theorem parts_none {l : List UInt8} {ps : List (List UInt8)} (hps : cutL 32 l = ps) {x : List UInt8} (hx : x ∈ ps.tail) (h : toldL x = none) : partsL l = none := by
  unfold partsL
  rw [hps]
  cases ps with
  | nil => rfl
  | cons a r => simp only [List.tail_cons] at hx; simp [mapM_none r x hx h]
theorem cutL_len (c : UInt8) (l : List UInt8) : (cutL c l).length ≤ l.length + 1 := by
  induction l with
  | nil => simp [cutL]
  | cons b t ih =>
    unfold cutL
    split
    · simp; omega
    · split
      · next h => rw [h] at ih; simp at ih ⊢; omega
      · simp
theorem own_da {wr : World} {B E s : Nat} {v : Value} {n : Nat} {xs : List Value} (hO : wr.ownsRow B E s v n xs) (q : Nat) (o : Obj) : ((wr.drewN q).alloc o).ownsRow B E s v n xs :=
  hO.kept (row := none) ⟨rfl, rfl, rfl, by show wr.heap.size ≤ (wr.heap.push o).size; simp, fun k hk _ => Below.heap_alloc (wr.drewN q) o k hk⟩ (Classical.em _)
theorem own_mono {ww : World} {B C : Nat} {E sz : Nat} {v : Value} {n : Nat} {xs : List Value} (h : ww.ownsRow B E sz v n xs) (hle : C ≤ B) : ww.ownsRow C E sz v n xs := by
  obtain ⟨h1, h2 | ⟨g, cap, cur, h2, h3, h4⟩⟩ := h
  · exact ⟨h1, .inl h2⟩
  · exact ⟨h1, .inr ⟨g, cap, cur, h2, Nat.le_trans hle h3, h4⟩⟩
set_option maxRecDepth 100000 in
set_option maxHeartbeats 4000000 in
theorem parts_calls (l : List UInt8) (m : Int) (w : World) (hm : w.cell? ⟨0, 0, none⟩ = some (.int .i64 m)) (hl : l.length ≤ 4000000) :
    Calls Tryd.prog 26 #[.string (bs l)] w (PartsPost l w) := by
  obtain ⟨i0, hi0, hz0, hz1, hz2⟩ := info_parts info3
  have SC := Lib.hid (show Calls Tryd.prog 25 #[.string (bs l), .string (bs [32])] w fun e w' => e = .returned (.slice (some ⟨w.heap.size, 0, none⟩) (cutL 32 l).length (cutL 32 l).length) ∧ Kp [] w w' ∧ w'.heap[w.heap.size]? = some (.cells (texts (cutL 32 l)) 9 (0, 0)) from by
    refine (split_calls 32 l m w hm hl).mono ?_
    rintro e w' ⟨rfl, rfl⟩
    exact ⟨rfl, (Kp.refl [] w).alloc _, heap_alloc_new _ _⟩)
  have TC := Lib.hid told_calls
  have hlen := cutL_len 32 l
  obtain ⟨ps, hps⟩ : ∃ ps, cutL 32 l = ps := ⟨_, rfl⟩
  have hne : ps ≠ [] := hps ▸ cutL_ne 32 l
  have hpos : 0 < ps.length := List.length_pos_iff.2 hne
  rw [hps] at SC hlen
  replace hps := Lib.hid hps
  clear hm
  go_enter Tryd.func26, Tryd.ntmps26
  go_wp2_with (go_at_call 25; refine SC.out.mono ?_; rintro e w1 ⟨rfl, k1, H1⟩)
  obtain ⟨g, hg⟩ : ∃ g, g = w.heap.size := ⟨_, rfl⟩
  rw [← hg] at H1 ⊢
  replace hg := Lib.hid hg
  go_wp2_with fail
  go_loopw [2, 3, 12] (fun tv sv cv wr => PartI w1 ps tv sv cv wr) (fun _ _ cv _ => ps.length - (intOf cv).toNat)
  case atStart => exact ⟨0, rfl, by omega, Kp.refl _ _, .inl ⟨rfl, rfl, rfl⟩⟩
  case round =>
    obtain ⟨i, rfl, hi, kk, hst⟩ := hrel
    by_cases hlt : i < ps.length
    · have di : decide ((i : Int) < (ps.length : Int)) = true := decide_eq_true (by omega)
      have hcl : wr.cell? ⟨g, i, none⟩ = some (.string (bs ps[i])) := by rw [cellB (kblk kk H1), texts_at ps i hlt]
      have hbg := ltB (kblk kk H1)
      have hwi : IntKind.i64.wrap ((i : Int) + 1) = (i : Int) + 1 := IntWalk.i64_in _ (by omega)
      rcases hst with ⟨rfl, rfl, rfl⟩ | ⟨h1, rfl, ns, hns, hO⟩
      · have hh : ps[0] = hd1 ps := by cases ps with | nil => exact absurd rfl hne | cons a r => rfl
        rw [hh] at hcl
        go_wp2_with fail
        go_roundw
        case rel => exact ⟨1, rfl, by omega, kk, .inr ⟨by omega, rfl, [], by simp, by simpa [nums] using World.ownsRow_nil _ _ _ _⟩⟩
        case measure => simp [intOf]; omega
      · have d0 : ((i : Int) == 0) = false := by simp; omega
        have dn : ((i : Int) = 0) = False := by simp; omega
        have hix : ps[i] ∈ ps.tail := by
          rw [List.mem_iff_getElem]
          exact ⟨i - 1, by simp; omega, by simp [show i - 1 + 1 = i by omega]⟩
        cases ht : toldL ps[i] with
        | none =>
          have T1 := Lib.hid (fun W => by have := TC.out ps[i] W; rwa [show toldV ps[i] = (0, false) by unfold toldV; rw [ht]] at this : ∀ W, Calls Tryd.prog 42 #[.string (bs ps[i])] W fun e w' => e = .returned (.tuple #[.int .i64 0, .bool false]) ∧ Drawn0 W w')
          have hpn := Lib.hid (parts_none hps.out hix ht)
          replace ht := Lib.hid ht
          go_wp2_with (go_at_call 42; refine (T1.out _).mono ?_; rintro e w2 ⟨rfl, n2, rfl⟩)
          go_ret3
          refine ⟨(k1.trans kk).drewN n2, ?_⟩
          rw [hpn.out]
          exact rfl
        | some n =>
          have T1 := Lib.hid (fun W => by have := TC.out ps[i] W; rwa [show toldV ps[i] = (((n : Nat) : Int), true) by unfold toldV; rw [ht]] at this : ∀ W, Calls Tryd.prog 42 #[.string (bs ps[i])] W fun e w' => e = .returned (.tuple #[.int .i64 (n : Nat), .bool true]) ∧ Drawn0 W w')
          have hl1 := mapM_len _ _ hns
          rw [List.length_take, List.length_tail] at hl1
          have hsn := mapM_snoc _ _ _ _ hns ht
          rw [show (ps.tail.take (i - 1)) ++ [ps[i]] = ps.tail.take (i + 1 - 1) by
            rw [show i + 1 - 1 = (i - 1) + 1 by omega, ← List.take_append_getElem (show i - 1 < ps.tail.length by simp; omega)]
            simp [show i - 1 + 1 = i by omega]] at hsn
          replace ht := Lib.hid ht
          replace hns := Lib.hid hns
          replace hsn := Lib.hid hsn
          have hc1 : ns.length + 1 ≤ maxLen := by unfold maxLen; omega
          have hc2 : (ns.length + 1) * 8 ≤ 140737488355328 := by omega
          have hc3 : ∀ (q : Nat) (o : Obj), w1.heap.size ≤ ((wr.drewN q).alloc o).heap.size := fun q o => by
            have := kk.size
            show w1.heap.size ≤ (wr.heap.push o).size
            simp; omega
          replace hl1 := Lib.hid hl1
          go_wp2_with (first
            | (go_at_call 42; refine (T1.out _).mono ?_; rintro e w2 ⟨rfl, n2, rfl⟩)
            | (at_builtin; refine wpList_append_own_at _ rfl _ _ 49 rfl w1.heap.size 3 i0 (.int .i64 0) 1 8 Tryd.underlying49 hi0 hz0 hz1 hz2 rfl (by decide) _ _ _ rfl (own_da hO n2 _) ⟨wr.heap.size, 0, none⟩ 1 1 [.int .i64 (n : Nat)] rfl rfl (fun j v hv => by cases j with | zero => (simp at hv; subst hv; exact cell_new1 _ _ _ rfl) | succ j => simp at hv) (by simp [Value.oneCell']) hc1 hc2 (hc3 _ _) ?_; intro v' w3 hown hgrow _ hat))
          go_roundw
          case rel => exact ⟨i + 1, rfl, hlt, ((kk.drewN n2).alloc _).grown hgrow (fun q hq => .inr (hO.lt q hq).1), .inr ⟨by omega, rfl, ns ++ [n], hsn.out, by simpa [nums] using hown⟩⟩
          case measure => simp [intOf]; omega
    · have : i = ps.length := by omega
      subst this
      have di : decide ((ps.length : Int) < (ps.length : Int)) = false := decide_eq_false (by omega)
      rcases hst with ⟨h0, _⟩ | ⟨h1, rfl, ns, hns, hO⟩
      · omega
      · rw [List.take_of_length_le (by simp)] at hns
        have hps' := Lib.hid (parts_some hps.out hne hns)
        replace hns := Lib.hid hns
        clear di
        have di : decide ((ps.length : Int) < (ps.length : Int)) = false := decide_eq_false (by omega)
        go_wp2_with fail
        go_ret3
        refine ⟨k1.trans kk, ?_⟩
        rw [hps'.out]
        exact ⟨_, rfl, own_mono hO (by have := k1.size; omega)⟩
end Go.Proofs.YtkjkkebaafmheaaDoor
/- Package prog: the walk of inst. -/
namespace Go.Proofs.YtkjkkebaafmheaaDoor
open Go.RowKit PAll Go.Proofs.YtkjkkebaafmheaaDoorW.PrintWords Go.Proofs.YtkjkkebaafmheaaDoorW.PrintLast Go.Proofs.YtkjkkebaafmheaaDoorW.PrintMore
open Go.Shelf
set_option linter.unusedVariables false
set_option linter.unusedSimpArgs false
/-- The operation of a word, or -1. -/
def opI (t : List UInt8) : Int := match opOf t with | none => -1 | some op => op
def W7 : Type := List UInt8 × Bool × Bool × Bool × Bool
instance : Inhabited W7 := ⟨([], false, false, false, false)⟩
def encW (x : W7) : List Value := [.string (bs x.1), .bool x.2.1, .bool x.2.2.1, .bool x.2.2.2.1, .bool x.2.2.2.2]
def wordRow : List W7 := [([], false, false, false, false), (nameL 1, true, true, true, false), (nameL 2, false, false, true, true), (nameL 3, true, false, true, false), (nameL 4, true, false, true, false), (nameL 5, false, false, false, false), (nameL 6, false, false, false, false)]
def isW (t : List UInt8) (x : W7) : Bool := decide (x.1 = t) && decide (t ≠ [])
theorem bsEq (a b : List UInt8) : ((bs a).toList == (bs b).toList) = decide (a = b) := by rw [bs_list, bs_list, Bool.eq_iff_iff]; simp
theorem ix1_calls (x : W7) (t : List UInt8) (b4 : Nat) (w : World) (H4 : w.cell? ⟨b4, 0, none⟩ = some (.string (bs t))) :
    Calls Tryd.prog 44 #[.agg (encW x).toArray, .pointer (some ⟨b4, 0, none⟩)] w fun e w' => e = .returned (.bool (isW t x)) ∧ Kp [] w w' := by
  obtain ⟨s, a, b, c, d⟩ := x
  have ka := (Kp.refl [] w).alloc (.cells #[.string (bs s), .bool a, .bool b, .bool c, .bool d] 57)
  have hb := heap_alloc_new w (.cells #[.string (bs s), .bool a, .bool b, .bool c, .bool d] 57)
  have hlt := World.block_lt_of_cell? w _ H4
  have E1 := bsEq s t
  simp only [encW, isW]
  have E0 : decide ((bs t).toList = []) = decide (t = []) := by rw [bs_list]
  by_cases h1 : s = t
  · subst h1
    have F1 : ((bs s).toList == (bs s).toList) = true := by rw [E1]; simp
    clear E1
    by_cases h2 : s = []
    · have G1 : (bs s).toList = [] := by rw [bs_list]; exact h2
      have G2 : (bs s).toList.isEmpty = true := by rw [bs_list, h2]; rfl
      replace h2 := Lib.hid h2
      clear E0
      go_enter Tryd.func44, Tryd.ntmps44
      go_wp2
      go_ret
      exact ⟨by simp [h2.out], by first | exact ka | exact ka.drew⟩
    · have G1 : ¬ (bs s).toList = [] := by rw [bs_list]; exact h2
      have G2 : (bs s).toList.isEmpty = false := by rw [bs_list]; simpa using h2
      replace h2 := Lib.hid h2
      clear E0
      go_enter Tryd.func44, Tryd.ntmps44
      go_wp2
      go_ret
      exact ⟨by simp [h2.out], by first | exact ka | exact ka.drew⟩
  · have F1 : ((bs s).toList == (bs t).toList) = false := by rw [E1]; simpa using h1
    replace h1 := Lib.hid h1
    clear E0 E1
    go_enter Tryd.func44, Tryd.ntmps44
    go_wp2
    go_ret
    exact ⟨by simp [h1.out], by first | exact ka | exact ka.drew⟩

theorem ix_pred (t : List UInt8) (b4 : Nat) (w : World) (H4 : w.cell? ⟨b4, 0, none⟩ = some (.string (bs t))) : PredBelow Tryd.prog 44 #[.pointer (some ⟨b4, 0, none⟩)] (fun x => .agg (encW x).toArray) (isW t) w := by
  intro W x hW
  have hlt := World.block_lt_of_cell? w _ H4
  refine (ix1_calls x t b4 W (by rw [hW.cell hlt]; exact H4)).mono ?_
  rintro e w' ⟨rfl, k⟩
  exact ⟨rfl, hW.trans (k.below hW.size (by simp))⟩
theorem idx_word (t : List UInt8) : Lib.idxBy (fun _ y => isW t y) wordRow default = opI t := by
  unfold opI opOf
  by_cases h0 : t = []
  · subst h0; decide
  simp only [Lib.idxBy, Lib.idxByFrom, wordRow, isW, h0, ne_eq, not_false_eq_true, decide_true, Bool.and_true]
  rw [if_neg (by simpa using Ne.symm h0)]
  by_cases h1 : t = nameL 1
  · subst h1; decide
  by_cases h2 : t = nameL 2
  · subst h2; decide
  by_cases h3 : t = nameL 3
  · subst h3; decide
  by_cases h4 : t = nameL 4
  · subst h4; decide
  by_cases h5 : t = nameL 5
  · subst h5; decide
  by_cases h6 : t = nameL 6
  · subst h6; decide
  rw [if_neg (by simpa using Ne.symm h1), if_neg (by simpa using Ne.symm h2), if_neg (by simpa using Ne.symm h3), if_neg (by simpa using Ne.symm h4), if_neg (by simpa using Ne.symm h5), if_neg (by simpa using Ne.symm h6)]
  rw [if_neg (show ¬ t = [98, 121, 116, 101] from h1), if_neg (show ¬ t = [115, 112, 108, 105, 116] from h2), if_neg (show ¬ t = [99, 97, 112] from h3), if_neg (show ¬ t = [97, 115, 115, 101, 114, 116] from h4), if_neg (show ¬ t = [109, 97, 116, 99, 104] from h5), if_neg (show ¬ t = [102, 97, 105, 108] from h6)]
theorem words_cells : ∀ j, j < 7 → ∀ i v, (encW wordRow[j]!)[i]? = some v → wordsC[j * 5 + i]? = some v := by
  intro j hj i v h
  have hi : i < 5 := by
    have := (List.getElem?_eq_some_iff.1 h).1
    simpa [encW] using this
  rw [← h]
  obtain rfl | rfl | rfl | rfl | rfl : i = 0 ∨ i = 1 ∨ i = 2 ∨ i = 3 ∨ i = 4 := by omega
  all_goals
    obtain rfl | rfl | rfl | rfl | rfl | rfl | rfl : j = 0 ∨ j = 1 ∨ j = 2 ∨ j = 3 ∨ j = 4 ∨ j = 5 ∨ j = 6 := by omega
    all_goals rfl
theorem ix_calls (t : List UInt8) (b7 b4 : Nat) (w : World) (H7 : w.heap[b7]? = some (.cells wordsC 58 (0, 0))) (H4 : w.cell? ⟨b4, 0, none⟩ = some (.string (bs t))) :
    Calls Tryd.prog 43 #[.slice (some ⟨b7, 0, none⟩) 7 7, .func (.func 44) #[] #[.pointer (some ⟨b4, 0, none⟩)]] w fun e w' => e = .returned (.int .i64 (opI t)) ∧ Kp [] w w' := by
  refine (AnyQ.slices_IndexFunc Tryd.ixWord 5 (by intro w; kernel_rfl) (by intro w; kernel_rfl) encW (fun _ => rfl) (isW t) 44 #[.pointer (some ⟨b4, 0, none⟩)] (fun args w => by go_simp) b7 0 7 7 wordRow w (ix_pred t b4 w H4) (by decide) (by omega) (ltB H7) ?_).mono ?_
  · intro j hj i v hv
    rw [cellB H7, Nat.zero_add]
    exact words_cells j hj i v hv
  · rintro e w' ⟨rfl, hb⟩
    rw [List.take_of_length_le (by decide), idx_word]
    exact ⟨rfl, Kp.ofBelow hb⟩

/-- A field of an instruction. -/
def setF (j : Nat) (x : S35) (v : Int) : S35 := match j with | 0 => { x with f1 := v } | 1 => { x with f2 := v } | 2 => { x with f3 := v } | _ => { x with f4 := v }
def ownAt (a b c d : Bool) (j : Nat) : Bool := match j with | 0 => a | 1 => b | 2 => c | _ => d
def fillS (a b c d : Bool) (ns : List Nat) (op : Int) : Nat → Option (S35 × Nat)
  | 0 => some (⟨op, 0, 0, 0, 0⟩, 0)
  | j + 1 => match fillS a b c d ns op j with
    | none => none
    | some (x, k) => if ownAt a b c d j = true then (if k < ns.length then some (setF j x (ns.getD k 0), k + 1) else none) else some (x, k)
def fillR (a b c d : Bool) (ns : List Nat) (op : Int) : Option S35 :=
  match fillS a b c d ns op 4 with | none => none | some (x, k) => if k = ns.length then some x else none
theorem fill_eq (op : Int) (hop : 1 ≤ op ∧ op ≤ 6) (ns : List Nat) : fillL op ns = fillR (ownF op).1 (ownF op).2.1 (ownF op).2.2.1 (ownF op).2.2.2 ns op := by
  obtain rfl | rfl | rfl | rfl | rfl | rfl : op = 1 ∨ op = 2 ∨ op = 3 ∨ op = 4 ∨ op = 5 ∨ op = 6 := by omega
  all_goals
    match ns with
    | [] => rfl
    | [_] => rfl
    | [_, _] => rfl
    | [_, _, _] => rfl
    | _ :: _ :: _ :: _ :: r => simp (decide := true) [fillL, fillR, fillS, ownF, ownAt]
theorem fillS_le (a b c d : Bool) (ns : List Nat) (op : Int) : ∀ j x k, fillS a b c d ns op j = some (x, k) → k ≤ ns.length ∧ k ≤ j
  | 0, x, k, h => by simp [fillS] at h; omega
  | j + 1, x, k, h => by
    unfold fillS at h
    cases hp : fillS a b c d ns op j with
    | none => rw [hp] at h; simp at h
    | some q =>
      obtain ⟨x', k'⟩ := q
      have ih := fillS_le a b c d ns op j x' k' hp
      rw [hp] at h
      simp only at h
      split at h
      · split at h
        · simp only [Option.some.injEq, Prod.mk.injEq] at h; omega
        · simp at h
      · simp only [Option.some.injEq, Prod.mk.injEq] at h; omega
theorem fillS_none {a b c d : Bool} {ns : List Nat} {op : Int} {j : Nat} (h : fillS a b c d ns op j = none) : ∀ i, fillS a b c d ns op (j + i) = none
  | 0 => h
  | i + 1 => by show fillS a b c d ns op (j + i + 1) = none; unfold fillS; rw [fillS_none h i]
theorem own_open {W : World} {B : Nat} {v : Value} {ns : List Nat} (h : W.ownsRow B 3 1 v ns.length (nums ns)) :
    ∃ A c g, v = .slice A ns.length c ∧ ns.length ≤ c ∧ c ≤ maxLen ∧ (0 < ns.length → A = some ⟨g, 0, none⟩ ∧ g < W.heap.size ∧ ∀ W' : World, W'.heap[g]? = W.heap[g]? → ∀ i, i < ns.length → W'.cell? ⟨g, i, none⟩ = some (.int .i64 ((ns.getD i 0 : Nat) : Int))) := by
  obtain ⟨h1, ⟨h2, h3⟩ | ⟨g, cap, cur, h2, h3, h4, h5, h6, h7, h8⟩⟩ := h
  · exact ⟨none, 0, 0, by rw [h2, h3], by omega, by omega, fun h => by omega⟩
  · refine ⟨some ⟨g, 0, none⟩, cap, g, h2, h5, h6, fun _ => ⟨rfl, ltB h4, ?_⟩⟩
    intro W' hW i hi
    rw [h4] at hW
    rw [cellB hW]
    have e : cur.toList[i]? = (nums ns)[i]? := by rw [← h8, List.getElem?_take, if_pos (by omega)]
    rw [← Array.getElem?_toList, e]
    simp [nums, hi]
end Go.Proofs.YtkjkkebaafmheaaDoor
