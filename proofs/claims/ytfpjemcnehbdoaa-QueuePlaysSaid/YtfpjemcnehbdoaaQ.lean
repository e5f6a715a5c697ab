/-
  Package queue: what each of its functions does to a queue that lies in memory (the walks), for every world. Conditions: the queue is one that New made for n at most 4000, with numbers below n in it.
-/
import Derived.Test.YtfpjemcnehbdoaaRows
import Derived.WalkKit
import Derived.WalkSpells
import Derived.WalkLawsBesides
import Derived.Deep.QuietTactic
import Derived.Deep.OwnRows
import Derived.BigQuiet
import Derived.BigRegion
import Derived.Outline
import Derived.Lib.Hide
import Derived.ChangeAlike
import Derived.RegionTactic
namespace Go.Proofs.Ytfpjemcnehbdoaa
open Go.RowKit
set_option linter.unusedVariables false

/-- The world w' is as w was, but for the blocks of S and new ones. -/
structure Kp (S : List Nat) (w w' : World) : Prop where
  os : w'.os = w.os
  tape : w'.tape = w.tape
  output : w'.output = w.output
  size : w.heap.size ≤ w'.heap.size
  block : ∀ k, k < w.heap.size → k ∉ S → w'.heap[k]? = w.heap[k]?

theorem Kp.refl (S) (w) : Kp S w w := ⟨rfl, rfl, rfl, Nat.le_refl _, fun _ _ _ => rfl⟩
theorem Kp.trans {S} {a b c : World} (h : Kp S a b) (k : Kp S b c) : Kp S a c :=
  ⟨k.os.trans h.os, k.tape.trans h.tape, k.output.trans h.output, Nat.le_trans h.size k.size, fun i hi hn => (k.block i (Nat.lt_of_lt_of_le hi h.size) hn).trans (h.block i hi hn)⟩
theorem Kp.mono {S T : List Nat} {a b : World} (h : Kp S a b) (hs : ∀ x ∈ S, x ∈ T) : Kp T a b :=
  ⟨h.os, h.tape, h.output, h.size, fun i hi hn => h.block i hi (fun hx => hn (hs i hx))⟩
theorem Kp.alloc {S} {a w : World} (h : Kp S a w) (o : Obj) : Kp S a (w.alloc o) :=
  h.trans ⟨rfl, rfl, rfl, by simp, fun k hk _ => Below.heap_alloc w o k hk⟩
theorem Kp.drew {S} {a w : World} (h : Kp S a w) : Kp S a w.drew := ⟨h.os, h.tape, h.output, h.size, h.block⟩
theorem Kp.setCell {S} {a w : World} (h : Kp S a w) {p : Addr} (hp : p.block ∈ S) (u : Value) : Kp S a (w.setCell p u) :=
  h.trans ⟨rfl, rfl, rfl, by simp [World.setCell], fun k _ hn => Below.heap_setCell _ _ _ _ (fun e => hn (e ▸ hp))⟩
theorem Kp.setNew {S} {a w : World} (h : Kp S a w) {p : Addr} (hp : a.heap.size ≤ p.block) (u : Value) : Kp S a (w.setCell p u) :=
  ⟨h.os, h.tape, h.output, by have := h.size; simpa [World.setCell] using this, fun k hk hn => (Below.heap_setCell _ _ _ _ (by omega)).trans (h.block k hk hn)⟩
theorem Kp.grown {S} {a w w' : World} {r : Option Nat} (h : Kp S a w) (hg : w.grownBy w' r) (hr : ∀ k, r = some k → k ∈ S ∨ a.heap.size ≤ k) : Kp S a w' :=
  ⟨hg.os.trans h.os, hg.tape.trans h.tape, hg.output.trans h.output, Nat.le_trans h.size hg.size, fun k hk hn => (hg.block k (Nat.lt_of_lt_of_le hk h.size) (fun e => by
    rcases hr k e.symm with h1 | h1
    · exact hn h1
    · omega)).trans (h.block k hk hn)⟩
theorem Kp.below {S} {a w : World} {B : Nat} (h : Kp S a w) (hB : B ≤ a.heap.size) (hs : ∀ x ∈ S, B ≤ x) : Below B a w :=
  ⟨h.os, h.tape, h.output, h.size, fun k hk => h.block k (by omega) (fun e => by have := hs k e; omega)⟩

theorem cellB {w : World} {b : Nat} {cs : Array Value} {t : TypeId} {fz : Nat × Nat} (h : w.heap[b]? = some (.cells cs t fz)) (o : Nat) : w.cell? ⟨b, o, none⟩ = cs[o]? := by
  unfold World.cell?; simp [h]
theorem frozB {w : World} {b : Nat} {cs : Array Value} {t : TypeId} (h : w.heap[b]? = some (.cells cs t (0, 0))) (o : Nat) : w.frozen? ⟨b, o, none⟩ = false := by
  unfold World.frozen?; simp [h]
theorem ltB {w : World} {b : Nat} {o : Obj} (h : w.heap[b]? = some o) : b < w.heap.size := (Array.getElem?_eq_some_iff.1 h).1
theorem cell_new1 {B : Nat} (w : World) (v : Value) (t : TypeId) (hB : B = w.heap.size) : (w.alloc (.cells #[v] t)).cell? ⟨B, 0, none⟩ = some v := by
  subst hB
  rw [cellB (heap_alloc_new w _) 0]
  rfl
theorem setB {w : World} {b : Nat} {cs : Array Value} {t : TypeId} {fz : Nat × Nat} (h : w.heap[b]? = some (.cells cs t fz)) (o : Nat) (v : Value) : (w.setCell ⟨b, o, none⟩ v).heap[b]? = some (.cells (cs.setIfInBounds o v) t fz) := by
  simp [World.setCell, Array.getElem?_modify, h]

/-- A queue of numbers below n: l, in order. -/
structure IsQ (w : World) (q wb lb n : Nat) (l : List Nat) : Prop where
  hq : w.heap[q]? = some (.cells #[.slice (some ⟨wb, 0, none⟩) n n, .slice (some ⟨lb, 0, none⟩) l.length n] 48 (0, 0))
  hw : ∃ cs : Array Value, w.heap[wb]? = some (.cells cs 3 (0, 0)) ∧ (∀ i, i < n → ∃ x : Nat, cs[i]? = some (Value.int .i64 x)) ∧ (∀ k i : Nat, l[k]? = some i → cs[i]? = some (Value.int .i64 (k : Nat)))
  hl : ∃ cs : Array Value, w.heap[lb]? = some (.cells cs 3 (0, 0)) ∧ cs.size = n ∧ ∀ k i : Nat, l[k]? = some i → cs[k]? = some (Value.int .i64 (i : Nat))
  d1 : q ≠ wb
  d2 : q ≠ lb
  d3 : wb ≠ lb
  lt : ∀ x ∈ l, x < n
  small : n ≤ 4000

theorem IsQ.kept {w w' : World} {q wb lb n : Nat} {l : List Nat} {S : List Nat} (h : IsQ w q wb lb n l) (k : Kp S w w') (h1 : q ∉ S) (h2 : wb ∉ S) (h3 : lb ∉ S) : IsQ w' q wb lb n l := by
  obtain ⟨cw, hw, hw'⟩ := h.hw
  obtain ⟨cl, hl, hl'⟩ := h.hl
  exact ⟨(k.block q (ltB h.hq) h1).trans h.hq, ⟨cw, (k.block wb (ltB hw) h2).trans hw, hw'⟩, ⟨cl, (k.block lb (ltB hl) h3).trans hl, hl'⟩, h.d1, h.d2, h.d3, h.lt, h.small⟩

/-- No number twice. -/
theorem IsQ.inj {w q wb lb n l} (h : IsQ w q wb lb n l) {a b i : Nat} (ha : l[a]? = some i) (hb : l[b]? = some i) : a = b := by
  obtain ⟨cs, _, _, hc⟩ := h.hw
  have h1 := hc a i ha
  rw [hc b i hb] at h1
  simp at h1
  omega

theorem IsQ.nodup {w q wb lb n l} (h : IsQ w q wb lb n l) : l.Nodup := by
  refine List.pairwise_iff_getElem.2 fun i j hi hj hij e => ?_
  have h1 : l[j]? = some l[j] := by simp
  have h2 : l[i]? = some l[j] := by rw [← e]; simp
  exact absurd (h.inj h2 h1) (by omega)

theorem nodup_le : ∀ (n : Nat) (l : List Nat), l.Nodup → (∀ x ∈ l, x < n) → l.length ≤ n
  | 0, l, _, h => by cases l with
    | nil => simp
    | cons a t => have := h a (by simp); omega
  | n + 1, l, hd, h => by
    have h1 := nodup_le n (l.filter (· ≠ n)) (hd.filter _) (by
      intro x hx
      have := List.mem_filter.1 hx
      have h2 := h x this.1
      have : x ≠ n := by simpa using this.2
      omega)
    by_cases hm : n ∈ l
    · have h2 : l.length = (l.filter (· ≠ n)).length + 1 := by
        have h3 := hd.erase_eq_filter n
        have h4 := List.length_erase_of_mem hm
        have h5 : 0 < l.length := List.length_pos_of_mem hm
        have h6 : l.filter (· ≠ n) = l.filter (· != n) := by
          apply List.filter_congr; intro x _; by_cases e : x = n <;> simp [e]
        rw [h6, ← h3, h4]; omega
      omega
    · have h2 : l.filter (· ≠ n) = l := by
        rw [List.filter_eq_self]
        intro x hx
        simp
        intro e; subst e; exact hm hx
      rw [h2] at h1; omega

theorem IsQ.le {w q wb lb n l} (h : IsQ w q wb lb n l) : l.length ≤ n := nodup_le n l h.nodup h.lt

theorem len_any (w : World) (q wb lb n l) (h : IsQ w q wb lb n l) :
    Calls Try.prog 12 #[.pointer (some ⟨q, 0, none⟩)] w fun e w' => e = .returned (.int .i64 l.length) ∧ w = w' := by
  have c1 := cellB h.hq 1
  simp at c1
  go_enter Try.func12, Try.ntmps12
  go_wp2
  go_ret
  exact ⟨rfl, rfl⟩

theorem at_yes (w : World) (q wb lb n l) (h : IsQ w q wb lb n l) (k : Int) (i : Nat) (hk0 : 0 ≤ k) (hi : l[k.toNat]? = some i) :
    Calls Try.prog 11 #[.pointer (some ⟨q, 0, none⟩), .int .i64 k] w fun e w' => e = .returned (.int .i64 i) ∧ w = w' := by
  have c1 := cellB h.hq 1
  simp at c1
  obtain ⟨cs, hl, hs, hc⟩ := h.hl
  have hle := h.le
  have c2 := cellB hl k.toNat
  rw [hc _ _ hi] at c2
  have hlt : k < (l.length : Int) := by have := (List.getElem?_eq_some_iff.1 hi).1; omega
  clear hi hc
  go_enter Try.func11, Try.ntmps11
  go_wp2
  go_ret
  exact ⟨rfl, rfl⟩

theorem at_no (w : World) (q wb lb n l) (h : IsQ w q wb lb n l) (k : Int) (hk : k < 0 ∨ (l.length : Int) ≤ k) :
    Calls Try.prog 11 #[.pointer (some ⟨q, 0, none⟩), .int .i64 k] w fun e w' => e = .returned (.int .i64 (-1)) ∧ w = w' := by
  have c1 := cellB h.hq 1
  simp at c1
  rcases hk with hk | hk
  · go_enter Try.func11, Try.ntmps11
    go_wp2
    go_ret
    exact ⟨rfl, rfl⟩
  · by_cases h0 : k < 0
    all_goals
      go_enter Try.func11, Try.ntmps11
      go_wp2
      go_ret
      exact ⟨rfl, rfl⟩

theorem new_no (w : World) (n : Int) (h : n < 0 ∨ 4000 < n) :
    Calls Try.prog 7 #[.int .i64 n] w fun e w' => e = .returned (.tuple #[.pointer none, .int .i64 1]) ∧ w = w' := by
  rcases h with h | h
  · go_enter Try.func7, Try.ntmps7
    go_wp2
    go_ret2
    exact ⟨rfl, rfl⟩
  · by_cases h0 : n < 0
    all_goals
      go_enter Try.func7, Try.ntmps7
      go_wp2
      go_ret2
      exact ⟨rfl, rfl⟩

theorem Try.info3 : (Try.prog.info? 3).map (fun i => (i.zero, i.size, i.bytes)) = some (some (.int .i64 0), 1, 8) := by kernel_rfl

theorem heap3 (w : World) (a b c : Obj) : (((w.alloc a).alloc b).alloc c).drew.heap[w.heap.size]? = some a ∧ (((w.alloc a).alloc b).alloc c).drew.heap[w.heap.size + 1]? = some b ∧ (((w.alloc a).alloc b).alloc c).drew.heap[w.heap.size + 1 + 1]? = some c := by
  show (((w.heap.push a).push b).push c)[_]? = _ ∧ (((w.heap.push a).push b).push c)[_]? = _ ∧ (((w.heap.push a).push b).push c)[_]? = _
  simp only [Array.getElem?_push, Array.size_push]
  refine ⟨?_, ?_, ?_⟩
  · rw [if_neg (by omega), if_neg (by omega), if_pos trivial]
  · rw [if_neg (by omega), if_pos trivial]
  · rw [if_pos trivial]

theorem madeOne (v : Value) (n : Nat) : madeCells #[v] n = Array.replicate n v := by
  apply Array.toList_inj.1
  rw [toList_madeCells_one]; simp

theorem isQ_new (w : World) (n : Nat) (hn : n ≤ 4000) {q wb lb : Nat} (hw : w.heap[wb]? = some (.cells (madeCells #[.int .i64 0] n) 3 (0, 0))) (hl : w.heap[lb]? = some (.cells (madeCells #[.int .i64 0] n) 3 (0, 0)))
    (hq : w.heap[q]? = some (.cells #[.slice (some ⟨wb, 0, none⟩) n n, .slice (some ⟨lb, 0, none⟩) 0 n] 48 (0, 0))) (d1 : q ≠ wb) (d2 : q ≠ lb) (d3 : wb ≠ lb) : IsQ w q wb lb n [] := by
  refine ⟨hq, ⟨_, hw, ?_, by simp⟩, ⟨_, hl, ?_, by simp⟩, d1, d2, d3, by simp, hn⟩
  · intro i hi
    exact ⟨0, by simp [madeOne, hi]⟩
  · simp [madeOne]

theorem new_yes (w : World) (n : Nat) (h : n ≤ 4000) :
    Calls Try.prog 7 #[.int .i64 n] w fun e w' => ∃ q wb lb, e = .returned (.tuple #[.pointer (some ⟨q, 0, none⟩), .int .i64 0]) ∧ IsQ w' q wb lb n [] ∧ w.heap.size ≤ q ∧ w.heap.size ≤ wb ∧ w.heap.size ≤ lb ∧ Kp [] w w' := by
  obtain ⟨i0, hi, hz0, hz1, hz2⟩ := info_parts Try.info3
  have hm1 : ∀ w : World, (Instr.makeSlice 32 (.int .i64 (n : Int)) (.int .i64 (n : Int))).run Try.prog w = _ := run_make_row' (P := Try.prog) 32 3 (.int .i64 0) 8 Try.underlying32 Try.info3 rfl .i64 .i64 n (by omega) (by omega)
  have hm2 : ∀ w : World, (Instr.makeSlice 32 (.int .i64 0) (.int .i64 (n : Int))).run Try.prog w = .ok (.slice (some ⟨w.heap.size, 0, none⟩) 0 n) (w.alloc (.cells (madeCells (Value.int .i64 0).cells n) 3)) := by
    intro w
    have hr := run_make (P := Try.prog) w 32 3 i0 (.int .i64 0) Try.underlying32 hi hz0 .i64 .i64 0 n (by omega) (by omega) (by rw [hz2]; omega) (by omega)
    rw [hz1] at hr
    simpa using hr
  clear hi hz0 hz1 hz2
  go_enter Try.func7, Try.ntmps7
  go_wp2
  go_region
  · go_wp2
    go_ret2
    refine ⟨_, _, _, rfl, isQ_new _ n h (heap3 _ _ _ _).1 (heap3 _ _ _ _).2.1 (heap3 _ _ _ _).2.2 (by omega) (by omega) (by omega), by omega, by omega, by omega, (((Kp.refl _ _).alloc _).alloc _).alloc _ |>.drew⟩
  · go_wp2
    go_ret2
    refine ⟨_, _, _, rfl, isQ_new _ n h (heap3 _ _ _ _).2.1 (heap3 _ _ _ _).1 (heap3 _ _ _ _).2.2 (by omega) (by omega) (by omega), by omega, by omega, by omega, (((Kp.refl _ _).alloc _).alloc _).alloc _ |>.drew⟩

theorem has_yes (w : World) (q wb lb n l) (h : IsQ w q wb lb n l) (i : Nat) (hi : i ∈ l) :
    Calls Try.prog 10 #[.pointer (some ⟨q, 0, none⟩), .int .i64 i] w fun e w' => e = .returned (.bool true) ∧ w = w' := by
  have c0 := cellB h.hq 0
  have c1 := cellB h.hq 1
  simp at c0 c1
  obtain ⟨k, hk⟩ := List.mem_iff_getElem?.1 hi
  obtain ⟨cs, hl, hs, hc⟩ := h.hl
  obtain ⟨cw, hw, hw1, hw2⟩ := h.hw
  have c2 := cellB hw i
  rw [hw2 _ _ hk] at c2
  have c3 := cellB hl k
  rw [hc _ _ hk] at c3
  have hle := h.le
  have hn := h.small
  have hlt := h.lt i hi
  have hkl : k < l.length := (List.getElem?_eq_some_iff.1 hk).1
  clear hk hi hc hw2 hw1
  go_enter Try.func10, Try.ntmps10
  go_wp2
  go_ret
  exact ⟨rfl, rfl⟩

theorem has_no (w : World) (q wb lb n l) (h : IsQ w q wb lb n l) (i : Int) (hi : 0 ≤ i → i.toNat ∉ l) :
    Calls Try.prog 10 #[.pointer (some ⟨q, 0, none⟩), .int .i64 i] w fun e w' => e = .returned (.bool false) ∧ w = w' := by
  have c0 := cellB h.hq 0
  have c1 := cellB h.hq 1
  simp at c0 c1
  have hle := h.le
  have hn := h.small
  by_cases h0 : i < 0
  · go_enter Try.func10, Try.ntmps10
    go_wp2
    go_ret
    exact ⟨rfl, rfl⟩
  · by_cases h1 : (n : Int) ≤ i
    · go_enter Try.func10, Try.ntmps10
      go_wp2
      go_ret
      exact ⟨rfl, rfl⟩
    · obtain ⟨j, rfl⟩ : ∃ j : Nat, i = j := ⟨i.toNat, by omega⟩
      have hj : j ∉ l := by simpa using hi (by omega)
      obtain ⟨cs, hl, hs, hc⟩ := h.hl
      obtain ⟨cw, hw, hw1, hw2⟩ := h.hw
      obtain ⟨x, hx⟩ := hw1 j (by omega)
      have c2 := cellB hw j
      rw [hx] at c2
      by_cases hxl : x < l.length
      · have c3 := cellB hl x
        rw [hc x l[x] (by simp)] at c3
        have hne : ((l[x] : Nat) : Int) ≠ j := by
          intro e
          apply hj
          have : l[x] = j := by omega
          rw [← this]; simp
        obtain ⟨y, hy⟩ : ∃ y, y = l[x] := ⟨_, rfl⟩
        rw [← hy] at c3 hne
        have hne' : (((y : Nat) : Int) == (j : Int)) = false := by simpa using hne
        clear hc hw2 hw1 hx hj hi hy
        go_enter Try.func10, Try.ntmps10
        go_wp2
        go_ret
        exact ⟨rfl, rfl⟩
      · clear hc hw2 hw1 hx hj hi
        go_enter Try.func10, Try.ntmps10
        go_wp2
        go_ret
        exact ⟨rfl, rfl⟩

theorem max2_int (k k' : IntKind) (x y : Int) : Builtin.max2 (.int k x) (.int k' y) = pure (.int k (if x < y then y else x)) := by simp only [Builtin.max2, gt_iff_lt]
theorem min2_int (k k' : IntKind) (x y : Int) : Builtin.min2 (.int k x) (.int k' y) = pure (.int k (if y < x then y else x)) := by simp only [Builtin.min2]
theorem max_two (ats : Array TypeId) (ty : TypeId) (a b : Value) : Builtin.max_ ats ty #[a, b] = (Builtin.max2 a b >>= fun s => pure s) := by simp only [Builtin.max_, List.foldlM_cons, List.foldlM_nil]
theorem min_two (ats : Array TypeId) (ty : TypeId) (a b : Value) : Builtin.min_ ats ty #[a, b] = (Builtin.min2 a b >>= fun s => pure s) := by simp only [Builtin.min_, List.foldlM_cons, List.foldlM_nil]
attribute [local go_sem] max2_int min2_int max_two min_two

theorem IsQ.room {w q wb lb n l} (h : IsQ w q wb lb n l) {i : Nat} (hi : i < n) (hm : i ∉ l) : l.length < n := by
  have := nodup_le n (i :: l) (List.nodup_cons.2 ⟨hm, h.nodup⟩) (by
    intro x hx
    rcases List.mem_cons.1 hx with rfl | hx
    · exact hi
    · exact h.lt x hx)
  simp at this; omega

theorem add_done {w w1 : World} {q wb lb n : Nat} {l : List Nat} (h : IsQ w q wb lb n l) {i : Nat} (hi : i < n) (hm : i ∉ l) {cs cw : Array Value} (hs : cs.size = n)
    (hc : ∀ k i : Nat, l[k]? = some i → cs[k]? = some (Value.int .i64 (i : Nat))) (hw : w.heap[wb]? = some (.cells cw 3 (0, 0))) (hw1 : ∀ i, i < n → ∃ x : Nat, cw[i]? = some (Value.int .i64 x))
    (hw2 : ∀ k i : Nat, l[k]? = some i → cw[i]? = some (Value.int .i64 (k : Nat))) {o : Obj}
    (hown : w1.ownsRow 0 3 1 (.slice (some ⟨lb, 0, none⟩) (l.length + 1) n) (l.length + 1) (cs.toList.take l.length ++ [.int .i64 i]))
    (hg : ((w.setCell ⟨wb, i, none⟩ (.int .i64 l.length)).alloc o).drew.grownBy w1 (some lb)) :
    IsQ (w1.setCell ⟨q, 1, none⟩ (.slice (some ⟨lb, 0, none⟩) (l.length + 1) n)) q wb lb n (l ++ [i]) ∧ Kp [q, wb, lb] w (w1.setCell ⟨q, 1, none⟩ (.slice (some ⟨lb, 0, none⟩) (l.length + 1) n)) := by
  have hkp : Kp [q, wb, lb] w w1 := ((((Kp.refl _ w).setCell (p := ⟨wb, i, none⟩) (by simp) _).alloc o).drew).grown hg (fun k hk => by simp at hk; subst hk; simp)
  have size0 : ((w.setCell ⟨wb, i, none⟩ (.int .i64 l.length)).alloc o).drew.heap.size = w.heap.size + 1 := by simp [World.setCell]
  have old : ∀ k, k < w.heap.size → k ≠ lb → w1.heap[k]? = (w.setCell ⟨wb, i, none⟩ (.int .i64 l.length)).heap[k]? := fun k hk hne =>
    (hg.block k (by omega) (by simpa using hne)).trans (Below.heap_alloc _ o k (by simpa [World.setCell] using hk))
  have hq1 : w1.heap[q]? = _ := (old q (ltB h.hq) h.d2).trans ((Below.heap_setCell _ _ _ _ h.d1).trans h.hq)
  have hwb1 : w1.heap[wb]? = _ := (old wb (ltB hw) h.d3).trans (setB hw i _)
  refine ⟨⟨?_, ⟨cw.setIfInBounds i (.int .i64 l.length), ?_, ?_, ?_⟩, ?_, h.d1, h.d2, h.d3, ?_, h.small⟩, hkp.setCell (by simp) _⟩
  · rw [setB hq1]
    simp
  · rw [Below.heap_setCell _ _ _ _ h.d1.symm]
    exact hwb1
  · intro j hj
    by_cases e : i = j
    · subst e
      obtain ⟨x, hx⟩ := hw1 i hj
      have hsz := (Array.getElem?_eq_some_iff.1 hx).1
      exact ⟨l.length, by simp [hsz]⟩
    · obtain ⟨x, hx⟩ := hw1 j hj
      exact ⟨x, by rw [Array.getElem?_setIfInBounds_ne e]; exact hx⟩
  · intro k j hkj
    by_cases hk : k < l.length
    · rw [List.getElem?_append_left hk] at hkj
      have hne : i ≠ j := fun e => hm (e ▸ List.mem_iff_getElem?.2 ⟨k, hkj⟩)
      rw [Array.getElem?_setIfInBounds_ne hne]
      exact hw2 k j hkj
    · have hk2 : k < (l ++ [i]).length := (List.getElem?_eq_some_iff.1 hkj).1
      have hk3 : k = l.length := by simp at hk2; omega
      subst hk3
      simp at hkj
      subst hkj
      obtain ⟨x, hx⟩ := hw1 i hi
      have hsz := (Array.getElem?_eq_some_iff.1 hx).1
      simp [hsz]
  · obtain ⟨g, cap, cur, hv, _, hh, _, _, hcs, htk⟩ := hown.2.resolve_left (by simp)
    simp at hv
    obtain ⟨rfl, rfl⟩ := hv
    refine ⟨cur, ?_, by simpa using hcs, ?_⟩
    · rw [Below.heap_setCell _ _ _ _ h.d2.symm]
      exact hh
    · intro k j hkj
      have hk2 : k < (l ++ [i]).length := (List.getElem?_eq_some_iff.1 hkj).1
      simp at hk2
      have hle := h.le
      have e : cur[k]? = (cs.toList.take l.length ++ [Value.int .i64 i])[k]? := by
        rw [← htk, List.getElem?_take]
        simp [show k < l.length + 1 from hk2]
      rw [e]
      have hlen : (cs.toList.take l.length).length = l.length := by simp; omega
      by_cases hk : k < l.length
      · rw [List.getElem?_append_left (by omega), List.getElem?_take]
        rw [List.getElem?_append_left hk] at hkj
        have := hc k j hkj
        simp [hk, this]
      · have hk3 : k = l.length := by omega
        subst hk3
        simp at hkj
        subst hkj
        rw [List.getElem?_append_right (by omega), hlen]
        simp
  · intro x hx
    rcases List.mem_append.1 hx with hx | hx
    · exact h.lt x hx
    · simp at hx; omega

theorem add_yes (w : World) (q wb lb n l) (h : IsQ w q wb lb n l) (i : Nat) (hi : i < n) (hm : i ∉ l) :
    Calls Try.prog 8 #[.pointer (some ⟨q, 0, none⟩), .int .i64 i] w fun e w' => e = .returned (.bool true) ∧ IsQ w' q wb lb n (l ++ [i]) ∧ Kp [q, wb, lb] w w' := by
  obtain ⟨i0, hi0, hz0, hz1, hz2⟩ := info_parts Try.info3
  have c0 := cellB h.hq 0
  have c1 := cellB h.hq 1
  have f1 := frozB h.hq 1
  simp at c0 c1
  have hroom := h.room hi hm
  have hle := h.le
  have hn := h.small
  obtain ⟨cs, hl, hs, hc⟩ := h.hl
  obtain ⟨cw, hw, hw1, hw2⟩ := h.hw
  obtain ⟨x, hx⟩ := hw1 i hi
  have c2 := cellB hw i
  rw [hx] at c2
  have f2 := frozB hw i
  have H := has_no w q wb lb n l h i (by simpa using hm)
  -- the world behind the store
  have hq1 : (w.setCell ⟨wb, i, none⟩ (.int .i64 l.length)).heap[q]? = _ := (Below.heap_setCell _ _ _ _ h.d1).trans h.hq
  have e1 := cellB hq1 1
  have g1 := frozB hq1 1
  simp at e1
  have hl1 : (w.setCell ⟨wb, i, none⟩ (.int .i64 l.length)).heap[lb]? = _ := (Below.heap_setCell _ _ _ _ h.d3.symm).trans hl
  have hown : (w.setCell ⟨wb, i, none⟩ (.int .i64 l.length)).drew.ownsRow 0 3 1 (.slice (some ⟨lb, 0, none⟩) l.length n) l.length (cs.toList.take l.length) :=
    ⟨by simp; omega, .inr ⟨lb, n, cs, rfl, Nat.zero_le _, hl1, by omega, by unfold maxLen; omega, by omega, by simp⟩⟩
  have hqb : ∀ w1, ((w.setCell ⟨wb, i, none⟩ (.int .i64 l.length)).alloc (.cells #[.int .i64 i] 3)).drew.grownBy w1 (some lb) → w1.heap[q]? = _ := fun w1 hg =>
    ((hg.block q (by have := ltB h.hq; simp [World.setCell]; omega) (by simpa using h.d2)).trans (Below.heap_alloc _ _ q (by simpa [World.setCell] using ltB h.hq))).trans hq1
  have HQ := Lib.hid hqb
  have HO := Lib.hid hown
  have HF := Lib.hid (fun w1 => add_done (w1 := w1) (o := .cells #[.int .i64 i] 3) h hi hm hs hc hw hw1 hw2)
  clear h hc hw hw1 hw2 hl hx hq1 hl1 hown hm hqb
  go_enter Try.func8, Try.ntmps8
  go_wp2_with (go_at_call 10; refine H.mono ?_; rintro e w' ⟨rfl, rfl⟩)
  go_region
  go_wp2_with (at_builtin; refine wpList_append_fits _ rfl _ _ 32 rfl 0 3 i0 1 Try.underlying32 hi0 hz1 lb l.length n _ rfl (HO.out.alloc _) ⟨w.heap.size, 0, none⟩ 1 1 [.int .i64 i] rfl rfl ?c1 ?c2 ?c3 ?c4)
  case c1 =>
    intro j u hj
    match j, hj with
    | 0, hj => simp at hj; subst hj; simp [Addr.add]; exact cell_new1 _ _ _ (by simp [World.setCell])
  case c2 => intro u hu; simp at hu; subst hu; rfl
  case c3 => omega
  case c4 =>
    intro w1 hown hgrow
    have hq1 := HQ.out w1 hgrow
    have k1 := cellB hq1 1
    have k2 := frozB hq1 1
    simp at k1
    have hfin := HF.out w1 hown hgrow
    have HX := Lib.hid hfin
    clear hq1 hown hgrow hfin HF HQ HO
    go_wp2
    go_ret
    exact ⟨rfl, HX.out⟩

theorem cut_done {w : World} {q wb lb n : Nat} {l : List Nat} (h : IsQ w q wb lb n l) (k : Nat) (hk : k ≤ l.length) :
    IsQ (w.setCell ⟨q, 1, none⟩ (.slice (some ⟨lb, 0, none⟩) k n)).drew q wb lb n (l.take k) ∧ Kp [q, wb, lb] w (w.setCell ⟨q, 1, none⟩ (.slice (some ⟨lb, 0, none⟩) k n)).drew := by
  obtain ⟨cs, hl, hs, hc⟩ := h.hl
  obtain ⟨cw, hw, hw1, hw2⟩ := h.hw
  refine ⟨⟨?_, ⟨cw, ?_, hw1, ?_⟩, ⟨cs, ?_, hs, ?_⟩, h.d1, h.d2, h.d3, ?_, h.small⟩, ((Kp.refl _ w).setCell (p := ⟨q, 1, none⟩) (by simp) _).drew⟩
  · show (w.setCell ⟨q, 1, none⟩ _).heap[q]? = _
    rw [setB h.hq]
    simp [Nat.min_eq_left hk]
  · show (w.setCell ⟨q, 1, none⟩ _).heap[wb]? = _
    rw [Below.heap_setCell _ _ _ _ h.d1.symm]; exact hw
  · intro j i hj
    rw [List.getElem?_take] at hj
    split at hj
    · exact hw2 _ _ hj
    · cases hj
  · show (w.setCell ⟨q, 1, none⟩ _).heap[lb]? = _
    rw [Below.heap_setCell _ _ _ _ h.d2.symm]; exact hl
  · intro j i hj
    rw [List.getElem?_take] at hj
    split at hj
    · exact hc _ _ hj
    · cases hj
  · intro x hx; exact h.lt x (List.mem_of_mem_take hx)

theorem cut_any (w : World) (q wb lb n l) (h : IsQ w q wb lb n l) (k : Int) :
    Calls Try.prog 9 #[.pointer (some ⟨q, 0, none⟩), .int .i64 k] w fun e w' => e = .returned (.tuple #[]) ∧ IsQ w' q wb lb n (l.take k.toNat) ∧ Kp [q, wb, lb] w w' := by
  have c0 := cellB h.hq 0
  have c1 := cellB h.hq 1
  have f1 := frozB h.hq 1
  simp at c0 c1
  have hle := h.le
  have hn := h.small
  by_cases h0 : k < 0
  · have e : k.toNat = 0 := by omega
    rw [e]
    have HF := Lib.hid (cut_done h 0 (by omega))
    clear h e
    go_enter Try.func9, Try.ntmps9
    go_wp2
    go_region
    go_wp2
    go_end0
    exact ⟨rfl, HF.out⟩
  · obtain ⟨k, rfl⟩ : ∃ j : Nat, k = j := ⟨k.toNat, by omega⟩
    rw [Int.toNat_natCast]
    by_cases h1 : k ≤ l.length
    · have HF := Lib.hid (cut_done h k h1)
      clear h
      go_enter Try.func9, Try.ntmps9
      go_wp2
      go_region
      go_wp2
      go_end0
      exact ⟨rfl, HF.out⟩
    · have HF := cut_done h l.length (by omega)
      rw [List.take_length] at HF
      rw [List.take_of_length_le (by omega)]
      have HF := Lib.hid HF
      clear h
      go_enter Try.func9, Try.ntmps9
      go_wp2
      go_region
      go_wp2
      go_end0
      exact ⟨rfl, HF.out⟩

theorem add_no (w : World) (q wb lb n l) (h : IsQ w q wb lb n l) (i : Int) (hi : i < 0 ∨ (n : Int) ≤ i ∨ i.toNat ∈ l) :
    Calls Try.prog 8 #[.pointer (some ⟨q, 0, none⟩), .int .i64 i] w fun e w' => e = .returned (.bool false) ∧ w = w' := by
  have c0 := cellB h.hq 0
  have c1 := cellB h.hq 1
  simp at c0 c1
  have hle := h.le
  have hn := h.small
  by_cases h0 : i < 0
  · go_enter Try.func8, Try.ntmps8
    go_wp2
    go_ret
    exact ⟨rfl, rfl⟩
  · by_cases h1 : (n : Int) ≤ i
    · go_enter Try.func8, Try.ntmps8
      go_wp2
      go_ret
      exact ⟨rfl, rfl⟩
    · obtain ⟨i, rfl⟩ : ∃ j : Nat, i = j := ⟨i.toNat, by omega⟩
      have hm : i ∈ l := by
        rcases hi with h | h | h
        · omega
        · omega
        · simpa using h
      have H := has_yes w q wb lb n l h i hm
      clear hi hm h
      go_enter Try.func8, Try.ntmps8
      go_wp2_with (go_at_call 10; refine H.mono ?_; rintro e w' ⟨rfl, rfl⟩)
      go_ret
      exact ⟨rfl, rfl⟩

theorem clear_any (w : World) (q wb lb n l) (h : IsQ w q wb lb n l) :
    Calls Try.prog 13 #[.pointer (some ⟨q, 0, none⟩)] w fun e w' => e = .returned (.tuple #[]) ∧ IsQ w' q wb lb n [] ∧ Kp [q, wb, lb] w w' := by
  have H := cut_any w q wb lb n l h 0
  clear h
  go_enter Try.func13, Try.ntmps13
  go_wp2_with (go_at_call 9; refine H.mono ?_; rintro e w' ⟨rfl, h1, h2⟩)
  go_end0
  exact ⟨rfl, h1, h2⟩

end Go.Proofs.Ytfpjemcnehbdoaa
