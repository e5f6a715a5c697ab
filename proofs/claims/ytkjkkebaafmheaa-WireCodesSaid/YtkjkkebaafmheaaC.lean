/- Package prog: whether an instruction fits, and a program may be written: the walks of fields, Fits, Check. -/
import Derived.Test.YtkjkkebaafmheaaB
import Derived.Test.YtkjkkebaafmheaaPWireCodesx2
import Derived.Test.YtkjkkebaafmheaaShelfQ
import Derived.Deep.RegionHeld3
import Derived.Deep.RegionWith
import Derived.Deep.MidRow
namespace Go.Proofs.Ytkjkkebaafmheaa
open Go.RowKit PWireCodes Go.Proofs.YtkjkkebaafmheaaW.PrintWords Go.Proofs.YtkjkkebaafmheaaW.PrintLast Go.Proofs.YtkjkkebaafmheaaW.PrintMore
open Go.Shelf
set_option linter.unusedVariables false
set_option linter.unusedSimpArgs false

def wordsC : Array Value := #[.string ⟨#[]⟩, .bool false, .bool false, .bool false, .bool false, .string ⟨#[98, 121, 116, 101]⟩, .bool true, .bool true, .bool true, .bool false, .string ⟨#[115, 112, 108, 105, 116]⟩, .bool false, .bool false, .bool true, .bool true, .string ⟨#[99, 97, 112]⟩, .bool true, .bool false, .bool true, .bool false, .string ⟨#[97, 115, 115, 101, 114, 116]⟩, .bool true, .bool false, .bool true, .bool false, .string ⟨#[109, 97, 116, 99, 104]⟩, .bool false, .bool false, .bool false, .bool false, .string ⟨#[102, 97, 105, 108]⟩, .bool false, .bool false, .bool false, .bool false]
theorem wordsC_one : wordsC.all (·.oneCell') = true := by simp [wordsC, Value.oneCell']
theorem info86 : (Try.prog.info? 86).map (·.size) = some wordsC.size := by kernel_rfl
set_option maxRecDepth 100000 in
theorem words_any (w : World) : Calls Try.prog 47 #[] w fun e w' => e = .returned (.agg wordsC) ∧ Kp [] w w' := by
  go_enter Try.func47, Try.ntmps47
  go_wp2_with (with_reducible refine wpList_store_row rfl 86 (.tmp 0) (.tmp 13) rfl w.heap.size wordsC rfl rfl 86 _ (heap_alloc_new w _) info86 rfl wordsC_one ?_)
  refine bodyPost_ret (v := .agg wordsC) (results_cell_row rfl _ _ w.heap.size 86 wordsC (0, 0) _ rfl (setRow_heap _ _ _ _ _ _ (heap_alloc_new w _)) Try.underlying86 rfl info86) rfl ⟨rfl, ?_⟩
  exact ⟨rfl, rfl, rfl, by simp, fun k hk _ => (setRow_other _ _ _ _ (by omega)).trans (Below.heap_alloc w _ k hk)⟩
theorem idx1 (w : World) : Sem.run Try.prog (Instr.index 86 (.agg wordsC) (.int .i64 1)) w = .ok (.agg #[.string ⟨#[98, 121, 116, 101]⟩, .bool true, .bool true, .bool true, .bool false]) w := by kernel_rfl
theorem idx2 (w : World) : Sem.run Try.prog (Instr.index 86 (.agg wordsC) (.int .i64 2)) w = .ok (.agg #[.string ⟨#[115, 112, 108, 105, 116]⟩, .bool false, .bool false, .bool true, .bool true]) w := by kernel_rfl
theorem idx3 (w : World) : Sem.run Try.prog (Instr.index 86 (.agg wordsC) (.int .i64 3)) w = .ok (.agg #[.string ⟨#[99, 97, 112]⟩, .bool true, .bool false, .bool true, .bool false]) w := by kernel_rfl
theorem idx4 (w : World) : Sem.run Try.prog (Instr.index 86 (.agg wordsC) (.int .i64 4)) w = .ok (.agg #[.string ⟨#[97, 115, 115, 101, 114, 116]⟩, .bool true, .bool false, .bool true, .bool false]) w := by kernel_rfl
theorem idx5 (w : World) : Sem.run Try.prog (Instr.index 86 (.agg wordsC) (.int .i64 5)) w = .ok (.agg #[.string ⟨#[109, 97, 116, 99, 104]⟩, .bool false, .bool false, .bool false, .bool false]) w := by kernel_rfl
theorem idx6 (w : World) : Sem.run Try.prog (Instr.index 86 (.agg wordsC) (.int .i64 6)) w = .ok (.agg #[.string ⟨#[102, 97, 105, 108]⟩, .bool false, .bool false, .bool false, .bool false]) w := by kernel_rfl
theorem fld85 (s : ByteArray) (a b c d : Bool) (w : World) : Sem.run Try.prog (Instr.field 85 (.agg #[.string s, .bool a, .bool b, .bool c, .bool d]) 1) w = .ok (.agg #[.bool a, .bool b, .bool c, .bool d]) w := by kernel_rfl
theorem cellAlloc {w : World} {a : Addr} {v : Value} (o : Obj) (h : w.cell? a = some v) : (w.alloc o).cell? a = some v :=
  (World.cell?_of_block (Below.heap_alloc w o a.block (World.block_lt_of_cell? w _ h))).trans h
theorem kcell {w w' : World} {a : Addr} {v : Value} (k : Kp [] w w') (h : w.cell? a = some v) : w'.cell? a = some v :=
  (World.cell?_of_block (k.block a.block (World.block_lt_of_cell? w _ h) (by simp))).trans h
theorem new_at (w : World) (o : Obj) (B : Nat) (hB : B = w.heap.size) : (w.alloc o).heap[B]? = some o := by subst hB; exact heap_alloc_new w o
theorem kblk {w w' : World} {b : Nat} {o : Obj} (k : Kp [] w w') (h : w.heap[b]? = some o) : w'.heap[b]? = some o := (k.block b (ltB h) (by simp)).trans h
/-- An operation's own fields. -/
def ownF (op : Int) : Bool × Bool × Bool × Bool := if op = 1 then (true, true, true, false) else if op = 2 then (false, false, true, true) else if op = 3 ∨ op = 4 then (true, false, true, false) else (false, false, false, false)
def FieldsPost (x : S40) (a b c d : Bool) (w : World) (e : Ending) (w' : World) : Prop := Kp [] w w' ∧ ∃ g, e = .returned (.slice (some ⟨g, 0, none⟩) 4 4) ∧
  w'.heap[g]? = some (.cells #[.int .i64 x.f1, .bool a, .int .i64 x.f2, .bool b, .int .i64 x.f3, .bool c, .int .i64 x.f4, .bool d] 76 (0, 0))
theorem FieldsPost.mk' {x : S40} {a b c d : Bool} {w W : World} (k : Kp [] w W) : FieldsPost x a b c d w (.returned (.slice (some ⟨W.heap.size, 0, none⟩) 4 4)) (W.alloc (.cells #[.int .i64 x.f1, .bool a, .int .i64 x.f2, .bool b, .int .i64 x.f3, .bool c, .int .i64 x.f4, .bool d] 76)) :=
  ⟨k.alloc _, _, rfl, heap_alloc_new W _⟩
set_option maxRecDepth 100000 in
set_option maxHeartbeats 8000000 in
theorem fields_gen (w : World) (x : S40) (nm : ByteArray) (a b c d : Bool) (hix : ∀ w, Sem.run Try.prog (Instr.index 86 (.agg wordsC) (.int .i64 x.f0)) w = .ok (.agg #[.string nm, .bool a, .bool b, .bool c, .bool d]) w) :
    Calls Try.prog 43 #[.agg #[.int .i64 x.f0, .int .i64 x.f1, .int .i64 x.f2, .int .i64 x.f3, .int .i64 x.f4]] w (FieldsPost x a b c d w) := by
  obtain ⟨op, lo, hi, X, Y⟩ := x
  dsimp only at hix ⊢
  have ka := (Kp.refl [] w).alloc (.cells #[.int .i64 op, .int .i64 lo, .int .i64 hi, .int .i64 X, .int .i64 Y] 40)
  have hb := heap_alloc_new w (.cells #[.int .i64 op, .int .i64 lo, .int .i64 hi, .int .i64 X, .int .i64 Y] 40)
  generalize hW1 : w.alloc (.cells #[.int .i64 op, .int .i64 lo, .int .i64 hi, .int .i64 X, .int .i64 Y] 40) = W1 at ka hb
  have HW1 := Lib.hid hW1
  clear hW1
  have HB := Lib.hid hb
  have hfl := fld85
  have C47 := Lib.hid words_any
  go_enter Try.func43, Try.ntmps43
  go_wp2_with fail
  rw [HW1.out]
  have c0 : W1.cell? ⟨w.heap.size, 0, none⟩ = some (.int .i64 op) := by rw [cellB HB.out]; rfl
  have hlt := ltB hb
  clear hb
  go_region_with (go_at_call 47; refine (C47.out _).mono ?_; rintro e w' ⟨rfl, k2⟩; have yb := kblk (b := w.heap.size) k2 (by first | exact HB.out | exact (Below.heap_alloc W1.drew _ _ hlt).trans HB.out); have y0 := cellB yb 0; have y1 := cellB yb 1; have y2 := cellB yb 2; have y3 := cellB yb 3; have y4 := cellB yb 4; simp at y0 y1 y2 y3 y4; have z0 := ltB yb; have KK : Kp [] w w' := (by first | exact (ka.drew).trans k2 | exact ((ka.drew).alloc _).trans k2); have KS := k2.size; clear yb; try (have q := kblk (b := W1.heap.size) k2 (heap_alloc_new W1.drew _); have q0 := cellB q 0; have q1 := cellB q 1; have q2 := cellB q 2; have q3 := cellB q 3; have r0 := frozB q 0; have r1 := frozB q 1; have r2 := frozB q 2; have r3 := frozB q 3; simp at q0 q1 q2 q3))
  all_goals
    go_wp2
    go_ret
    refine ⟨?_, _, rfl, new_at _ _ _ (by simp)⟩
    first
      | exact (KK.alloc _).alloc _
      | exact ((((KK.setNew (by show w.heap.size ≤ W1.heap.size; exact Nat.le_of_lt hlt) _).setNew (by show w.heap.size ≤ W1.heap.size; exact Nat.le_of_lt hlt) _).setNew (by show w.heap.size ≤ W1.heap.size; exact Nat.le_of_lt hlt) _).setNew (by show w.heap.size ≤ W1.heap.size; exact Nat.le_of_lt hlt) _).alloc _
end Go.Proofs.Ytkjkkebaafmheaa
