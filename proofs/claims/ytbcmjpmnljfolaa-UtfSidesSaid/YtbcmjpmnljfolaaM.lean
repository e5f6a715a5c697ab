/- The law's pieces: what it collects, as far as so many. -/
import Derived.Test.YtbcmjpmnljfolaaL
import Derived.Maps.AppendAt
import Derived.Deep.AppendLies
namespace Go.Proofs.Ytbcmjpmnljfolaa
open Go.RowKit Go.Shelf PUtfPieces Go.Proofs.YtbcmjpmnljfolaaW.PrintWords Go.Proofs.YtbcmjpmnljfolaaW.PrintLast Go.Proofs.YtbcmjpmnljfolaaW.PrintMore
set_option linter.unusedVariables false
attribute [local go_sem] Oper.semAt_some

theorem not_nil (w : World) (a : Value) : Sem.run Try.prog (Go.binOp .eql 47 (.func (.func 28) #[] #[a]) .nilFunc) w = .ok (.bool false) w := by rfl

def ints (l : List Int) : List Value := l.map (Value.int .i64)
theorem own_keep {w w' : World} {base n : Nat} {v : Value} {xs : List Value} (h : w.ownsRow base 3 1 v n xs) (hm : ∀ k cs, v.ownBlock = some k → w.heap[k]? = some (.cells cs 3 (0, 0)) → w'.heap[k]? = w.heap[k]?) : w'.ownsRow base 3 1 v n xs := by
  refine ⟨h.1, ?_⟩
  rcases h.2 with h0 | ⟨g, cap, cur, e, hb, hg, h1⟩
  · exact .inl h0
  · exact .inr ⟨g, cap, cur, e, hb, (hm g cur (by rw [e]; rfl) hg).trans hg, h1⟩
theorem own_cells {w : World} {base n : Nat} {v : Value} {xs : List Value} (h : w.ownsRow base 3 1 v n xs) {k : Nat} (hk : v.ownBlock = some k) : ∃ cs, w.heap[k]? = some (.cells cs 3 (0, 0)) := by
  rcases h.2 with ⟨e, _⟩ | ⟨g, cap, cur, e, hb, hg, h1⟩
  · rw [e] at hk; simp [Value.ownBlock] at hk
  · rw [e] at hk
    have : g = k := by simpa [Value.ownBlock] using hk
    subst this
    exact ⟨cur, hg⟩
/-- What the two boxes hold: two rows of the call's own, apart. -/
structure Hold (W : World) (n0 B6 B7 : Nat) (ps rs : List Int) : Prop where
  ex : ∃ v u : Value, W.heap[B6]? = some (Obj.cells #[v] 34 (0, 0)) ∧ W.heap[B7]? = some (Obj.cells #[u] 34 (0, 0)) ∧
    W.ownsRow n0 3 1 v ps.length (ints ps) ∧ W.ownsRow n0 3 1 u rs.length (ints rs) ∧ ∀ b, v.ownBlock = some b → u.ownBlock ≠ some b
theorem Hold.step {W W' : World} {n0 B6 B7 : Nat} {ps rs : List Int} (h : Hold W n0 B6 B7 ps rs) (hm : ∀ (k : Nat) (cs : Array Value) (t : TypeId), W.heap[k]? = some (Obj.cells cs t (0, 0)) → W'.heap[k]? = W.heap[k]?) : Hold W' n0 B6 B7 ps rs := by
  obtain ⟨v, u, h1, h2, h3, h4, h5⟩ := h.ex
  exact ⟨v, u, (hm _ _ _ h1).trans h1, (hm _ _ _ h2).trans h2, own_keep h3 (fun k cs _ hc => hm _ _ _ hc), own_keep h4 (fun k cs _ hc => hm _ _ _ hc), h5⟩
theorem Hold.grown {W W' : World} {n0 B6 B7 : Nat} {ps rs : List Int} {row : Option Nat} (h : Hold W n0 B6 B7 ps rs) (hg : W.grownBy W' row) (hr : ∀ r, row = some r → ∃ o : Obj, W.heap[r]? = some o ∧ o.isCells = false) : Hold W' n0 B6 B7 ps rs :=
  h.step (fun k cs t hc => hg.block k (Array.getElem?_eq_some_iff.1 hc).1 (fun e => by
    obtain ⟨o, ho, hn⟩ := hr k e.symm
    rw [hc] at ho
    injection ho with ho
    subst ho
    simp [Obj.isCells] at hn))
structure Two (W : World) (B3 B8 : Nat) (most : Int) (s : ByteArray) : Prop where
  b3 : W.heap[B3]? = some (Obj.cells #[.int .i64 most] 3 (0, 0))
  b8 : W.heap[B8]? = some (Obj.cells #[.string s] 9 (0, 0))
theorem Two.grown {W W' : World} {B3 B8 : Nat} {most : Int} {s : ByteArray} {row : Option Nat} (h : Two W B3 B8 most s) (hg : W.grownBy W' row) (hr : ∀ r, row = some r → ∃ o : Obj, W.heap[r]? = some o ∧ o.isCells = false) : Two W' B3 B8 most s := by
  have key : ∀ (k : Nat) (cs : Array Value) (t : TypeId), W.heap[k]? = some (Obj.cells cs t (0, 0)) → W'.heap[k]? = W.heap[k]? := fun k cs t hc => hg.block k (Array.getElem?_eq_some_iff.1 hc).1 (fun e => by
    obtain ⟨o, ho, hn⟩ := hr k e.symm
    rw [hc] at ho
    injection ho with ho
    subst ho
    simp [Obj.isCells] at hn)
  exact ⟨(key _ _ _ h.b3).trans h.b3, (key _ _ _ h.b8).trans h.b8⟩
theorem opIn {P : Program} {l n : Nat} {o : Oper} {a : Act} {w : World} {K : Act → World → Prop} {Q : Exit → Act → World → Prop} (hnd : ∀ c, o.op ≠ .defer c) (h : o.wp P a w K Q) (hr : ∀ l f t as_ bd w', (execOp a.eval o).run P w ≠ .ok (.round l f t as_ bd) w') (hrow : ∀ r as_ w', (execOp a.eval o).run P w ≠ .ok (.row r as_) w') :
    o.wpIn (Fence.wide.inRound l) n P a w K Q := by
  refine ⟨fun _ _ => trivial, ?_⟩
  rw [Oper.semAt_plain _ _ _ hnd]
  unfold Oper.wp at h
  generalize (execOp a.eval o).run P w = r at *
  cases r with
  | ok x w' => cases x <;> first | exact h | exact ⟨(fun hd => by simp [Fence.wide, Fence.inRound] at hd), callsIn_wide.2 h⟩ | exact absurd rfl (hrow _ _ _) | exact absurd rfl (hr _ _ _ _ _ _) | exact h.elim
  | halt x w' => cases x <;> exact h
section
variable {F : Fence} {n : Nat} {P : Program} {ops : Array Oper} {Q : Exit → Act → World → Prop} {md : Region.Mode}
/-- A region whose order is drawn, by an invariant over what has been listed. -/
theorem wpAnyIn_inv (J : Nat → Array Bool → Act → World → Prop) (h0 : ∀ listed a w, J 0 listed a w → Region.ready md ops listed = [])
    (hQ : ∀ k listed a w, J k listed a w → Region.ready md ops listed = [] → Q .normal a w)
    (hs : ∀ k listed a w i, J (k + 1) listed a w → i ∈ Region.ready md ops listed → wpOpIn F n P ops Q i (J k (listed.setIfInBounds i true)) a w) :
    ∀ (k : Nat) (listed : Array Bool) (a : Act) (w : World), J k listed a w → wpAnyIn F n P md ops Q k listed a w
  | 0, listed, a, w, h => ⟨h0 _ _ _ h, hQ _ _ _ _ h (h0 _ _ _ h)⟩
  | k + 1, listed, a, w, h => ⟨hQ _ _ _ _ h, fun i hi => wpOpIn_mono (fun a w hj => wpAnyIn_inv J h0 hQ hs k _ a w hj) (hs k listed a w i h hi)⟩
end

theorem four_blocks (w : World) (a b c d : Obj) : ((((w.alloc a).alloc b).alloc c).alloc d).heap[w.heap.size]? = some a ∧ ((((w.alloc a).alloc b).alloc c).alloc d).heap[w.heap.size + 1]? = some b ∧
    ((((w.alloc a).alloc b).alloc c).alloc d).heap[w.heap.size + 1 + 1]? = some c ∧ ((((w.alloc a).alloc b).alloc c).alloc d).heap[w.heap.size + 1 + 1 + 1]? = some d := by
  show ((((w.heap.push a).push b).push c).push d)[_]? = _ ∧ ((((w.heap.push a).push b).push c).push d)[_]? = _ ∧ ((((w.heap.push a).push b).push c).push d)[_]? = _ ∧ ((((w.heap.push a).push b).push c).push d)[_]? = _
  simp only [Array.getElem?_push, Array.size_push]
  refine ⟨?_, ?_, ?_, ?_⟩
  · rw [if_neg (by omega), if_neg (by omega), if_neg (by omega), if_pos trivial]
  · rw [if_neg (by omega), if_neg (by omega), if_pos trivial]
  · rw [if_neg (by omega), if_pos trivial]
  · rw [if_pos trivial]

/-- Where the region stands: what has been listed, what the slots hold, what lies in memory. -/
structure JJ (W : World) (n0 B6 B7 : Nat) (v0 u0 : Value) (m : Nat) (xs ys : List Value) (x1 x2 : Int) (l0 l1 l2 l3 l4 l5 l6 l7 l8 l9 : Bool) (t22 t23 t24 t25 t26 t27 t28 t29 : Value) (w : World) : Prop where
  os : w.os = W.os
  tape : w.tape = W.tape
  output : w.output = W.output
  size : W.heap.size ≤ w.heap.size
  keep : ∀ k, k < W.heap.size → k ≠ B6 → k ≠ B7 → some k ≠ v0.ownBlock → some k ≠ u0.ownBlock → w.heap[k]? = W.heap[k]?
  rowV : w.ownsRow n0 3 1 (cond l3 t25 v0) (cond l3 (m + 1) m) (cond l3 (xs ++ [.int .i64 x1]) xs)
  rowU : w.ownsRow n0 3 1 (cond l7 t29 u0) (cond l7 (m + 1) m) (cond l7 (ys ++ [.int .i64 x2]) ys)
  newV : ∀ b, (cond l3 t25 v0).ownBlock = some b → v0.ownBlock = some b ∨ W.heap.size ≤ b
  newU : ∀ b, (cond l7 t29 u0).ownBlock = some b → u0.ownBlock = some b ∨ W.heap.size ≤ b
  ap : ∀ b, (cond l3 t25 v0).ownBlock = some b → (cond l7 t29 u0).ownBlock ≠ some b
  b6 : w.heap[B6]? = some (Obj.cells #[cond l8 t25 v0] 34 (0, 0))
  b7 : w.heap[B7]? = some (Obj.cells #[cond l9 t29 u0] 34 (0, 0))
  h0 : l0 = true → t22 = v0
  h4 : l4 = true → t26 = u0
  h1 : l1 = true → t23 = .int .i64 x1
  h5 : l5 = true → t27 = .int .i64 x2
  h2 : l2 = true → ∃ b, t24 = .slice (some ⟨b, 0, none⟩) 1 1 ∧ w.heap[b]? = some (Obj.cells #[.int .i64 x1] 3 (0, 0)) ∧ W.heap.size ≤ b ∧ (cond l3 t25 v0).ownBlock ≠ some b ∧ (cond l7 t29 u0).ownBlock ≠ some b
  h6 : l6 = true → ∃ b, t28 = .slice (some ⟨b, 0, none⟩) 1 1 ∧ w.heap[b]? = some (Obj.cells #[.int .i64 x2] 3 (0, 0)) ∧ W.heap.size ≤ b ∧ (cond l3 t25 v0).ownBlock ≠ some b ∧ (cond l7 t29 u0).ownBlock ≠ some b
  d7 : l7 = true → l3 = true
  d8 : l8 = true → l0 = true ∧ l3 = true ∧ l7 = true
  d9 : l9 = true → l4 = true ∧ l7 = true ∧ l8 = true
  ne : B6 ≠ B7 ∧ B6 < W.heap.size ∧ B7 < W.heap.size

section
variable {W w : World} {n0 B6 B7 : Nat} {v0 u0 : Value} {m : Nat} {xs ys : List Value} {x1 x2 : Int} {l0 l1 l2 l3 l4 l5 l6 l7 l8 l9 : Bool} {t22 t23 t24 t25 t26 t27 t28 t29 : Value}
theorem own_lt' {w : World} {base n : Nat} {v : Value} {xs : List Value} (h : w.ownsRow base 3 1 v n xs) {k : Nat} (hk : v.ownBlock = some k) : k < w.heap.size := by
  obtain ⟨cs, hc⟩ := own_cells h hk
  exact (Array.getElem?_eq_some_iff.1 hc).1
theorem own_ne {w : World} {base n B : Nat} {v : Value} {xs : List Value} {cs : Array Value} (h : w.ownsRow base 3 1 v n xs) (hB : w.heap[B]? = some (Obj.cells cs 34 (0, 0))) : v.ownBlock ≠ some B := by
  intro hk
  obtain ⟨cs', hc⟩ := own_cells h hk
  rw [hc] at hB
  simp at hB
theorem JJ.op0 (h : JJ W n0 B6 B7 v0 u0 m xs ys x1 x2 false l1 l2 l3 l4 l5 l6 l7 l8 l9 t22 t23 t24 t25 t26 t27 t28 t29 w) (u : Value) (hu : u = v0) : JJ W n0 B6 B7 v0 u0 m xs ys x1 x2 true l1 l2 l3 l4 l5 l6 l7 l8 l9 u t23 t24 t25 t26 t27 t28 t29 w :=
  { h with h0 := fun _ => hu, d8 := fun e => by have := h.d8 e; simp at this }
theorem JJ.op4 (h : JJ W n0 B6 B7 v0 u0 m xs ys x1 x2 l0 l1 l2 l3 false l5 l6 l7 l8 l9 t22 t23 t24 t25 t26 t27 t28 t29 w) (u : Value) (hu : u = u0) : JJ W n0 B6 B7 v0 u0 m xs ys x1 x2 l0 l1 l2 l3 true l5 l6 l7 l8 l9 t22 t23 t24 t25 u t27 t28 t29 w :=
  { h with h4 := fun _ => hu, d9 := fun e => by have := h.d9 e; simp at this }
theorem JJ.op1 (h : JJ W n0 B6 B7 v0 u0 m xs ys x1 x2 l0 l1 l2 l3 l4 l5 l6 l7 l8 l9 t22 t23 t24 t25 t26 t27 t28 t29 w) : JJ W n0 B6 B7 v0 u0 m xs ys x1 x2 l0 true l2 l3 l4 l5 l6 l7 l8 l9 t22 (.int .i64 x1) t24 t25 t26 t27 t28 t29 w :=
  { h with h1 := fun _ => rfl }
theorem JJ.op5 (h : JJ W n0 B6 B7 v0 u0 m xs ys x1 x2 l0 l1 l2 l3 l4 l5 l6 l7 l8 l9 t22 t23 t24 t25 t26 t27 t28 t29 w) : JJ W n0 B6 B7 v0 u0 m xs ys x1 x2 l0 l1 l2 l3 l4 true l6 l7 l8 l9 t22 t23 t24 t25 t26 (.int .i64 x2) t28 t29 w :=
  { h with h5 := fun _ => rfl }
/-- A new block. -/
theorem JJ.alloc (h : JJ W n0 B6 B7 v0 u0 m xs ys x1 x2 l0 l1 l2 l3 l4 l5 l6 l7 l8 l9 t22 t23 t24 t25 t26 t27 t28 t29 w) (o : Obj) : JJ W n0 B6 B7 v0 u0 m xs ys x1 x2 l0 l1 l2 l3 l4 l5 l6 l7 l8 l9 t22 t23 t24 t25 t26 t27 t28 t29 (w.alloc o) := by
  have hk : ∀ k, k < w.heap.size → (w.alloc o).heap[k]? = w.heap[k]? := fun k hk => Below.heap_alloc w o k hk
  have hb6 := (Array.getElem?_eq_some_iff.1 h.b6).1
  have hb7 := (Array.getElem?_eq_some_iff.1 h.b7).1
  exact { h with
    size := Nat.le_trans h.size (by simp)
    keep := fun k a b c d e => (hk k (Nat.lt_of_lt_of_le a h.size)).trans (h.keep k a b c d e)
    rowV := own_keep h.rowV (fun k cs _ hc => hk k (Array.getElem?_eq_some_iff.1 hc).1)
    rowU := own_keep h.rowU (fun k cs _ hc => hk k (Array.getElem?_eq_some_iff.1 hc).1)
    b6 := (hk _ hb6).trans h.b6
    b7 := (hk _ hb7).trans h.b7
    h2 := fun e => by obtain ⟨b, e1, e2, e3⟩ := h.h2 e; exact ⟨b, e1, (hk _ (Array.getElem?_eq_some_iff.1 e2).1).trans e2, e3⟩
    h6 := fun e => by obtain ⟨b, e1, e2, e3⟩ := h.h6 e; exact ⟨b, e1, (hk _ (Array.getElem?_eq_some_iff.1 e2).1).trans e2, e3⟩ }
theorem JJ.op2 (h : JJ W n0 B6 B7 v0 u0 m xs ys x1 x2 l0 l1 l2 l3 l4 l5 l6 l7 l8 l9 t22 t23 t24 t25 t26 t27 t28 t29 w) : JJ W n0 B6 B7 v0 u0 m xs ys x1 x2 l0 l1 true l3 l4 l5 l6 l7 l8 l9 t22 t23 (.slice (some ⟨w.heap.size, 0, none⟩) 1 1) t25 t26 t27 t28 t29 (w.alloc (Obj.cells #[.int .i64 x1] 3)) :=
  { h.alloc _ with h2 := fun _ => ⟨_, rfl, heap_alloc_new w _, h.size, fun e => by have := own_lt' h.rowV e; omega, fun e => by have := own_lt' h.rowU e; omega⟩ }
theorem JJ.op6 (h : JJ W n0 B6 B7 v0 u0 m xs ys x1 x2 l0 l1 l2 l3 l4 l5 l6 l7 l8 l9 t22 t23 t24 t25 t26 t27 t28 t29 w) : JJ W n0 B6 B7 v0 u0 m xs ys x1 x2 l0 l1 l2 l3 l4 l5 true l7 l8 l9 t22 t23 t24 t25 t26 t27 (.slice (some ⟨w.heap.size, 0, none⟩) 1 1) t29 (w.alloc (Obj.cells #[.int .i64 x2] 3)) :=
  { h.alloc _ with h6 := fun _ => ⟨_, rfl, heap_alloc_new w _, h.size, fun e => by have := own_lt' h.rowV e; omega, fun e => by have := own_lt' h.rowU e; omega⟩ }
theorem JJ.op3 (h : JJ W n0 B6 B7 v0 u0 m xs ys x1 x2 l0 l1 l2 false l4 l5 l6 l7 l8 l9 t22 t23 t24 t25 t26 t27 t28 t29 w) (hl0 : l0 = true) {v' : Value} {w' : World} (hr : w'.ownsRow n0 3 1 v' (m + 1) (xs ++ [.int .i64 x1])) (hg : w.grownBy w' v0.ownBlock) (hat : ∀ b, v'.ownBlock = some b → v0.ownBlock = some b ∨ b = w.heap.size) :
    JJ W n0 B6 B7 v0 u0 m xs ys x1 x2 l0 l1 l2 true l4 l5 l6 l7 l8 l9 t22 t23 t24 v' t26 t27 t28 t29 w' := by
  have e8 : l8 = false := by cases e : l8 with
    | false => rfl
    | true => have := (h.d8 e).2.1; simp at this
  have e7 : l7 = false := by cases e : l7 with
    | false => rfl
    | true => have := h.d7 e; simp at this
  subst e8 e7
  have hV : ∀ b, v0.ownBlock = some b → u0.ownBlock ≠ some b := h.ap
  have hnv : ∀ (b : Nat), w.heap[b]? ≠ none → v0.ownBlock ≠ some b → w'.heap[b]? = w.heap[b]? := fun b hb hn => hg.block b (by
    cases hh : w.heap[b]? with
    | none => exact absurd hh hb
    | some o => exact (Array.getElem?_eq_some_iff.1 hh).1) (fun e => hn e.symm)
  have n6 := own_ne h.rowV h.b6
  have n7 := own_ne h.rowV h.b7
  exact { os := hg.os.trans h.os, tape := hg.tape.trans h.tape, output := hg.output.trans h.output, size := Nat.le_trans h.size hg.size
          keep := fun k a b c d e => (hg.block k (Nat.lt_of_lt_of_le a h.size) d).trans (h.keep k a b c d e)
          rowV := hr
          rowU := own_keep h.rowU (fun k cs e hc => hnv k (by rw [hc]; simp) (fun e' => hV k e' e))
          newV := fun b e => by
            rcases hat b e with e' | e'
            · exact .inl e'
            · right; have := h.size; omega
          newU := h.newU
          ap := fun b e e' => by
            rcases hat b e with e2 | e2
            · exact hV b e2 e'
            · have := own_lt' h.rowU e'; omega
          b6 := (hnv _ (by rw [h.b6]; simp) n6).trans h.b6
          b7 := (hnv _ (by rw [h.b7]; simp) n7).trans h.b7
          h0 := h.h0, h4 := h.h4, h1 := h.h1, h5 := h.h5
          h2 := fun e => by
            obtain ⟨b, e1, e2, e3, e4, e5⟩ := h.h2 e
            exact ⟨b, e1, (hnv b (by rw [e2]; simp) e4).trans e2, e3, fun e' => by
              rcases hat b e' with e6 | e6
              · exact e4 e6
              · have := (Array.getElem?_eq_some_iff.1 e2).1; omega, e5⟩
          h6 := fun e => by
            obtain ⟨b, e1, e2, e3, e4, e5⟩ := h.h6 e
            exact ⟨b, e1, (hnv b (by rw [e2]; simp) e4).trans e2, e3, fun e' => by
              rcases hat b e' with e6 | e6
              · exact e4 e6
              · have := (Array.getElem?_eq_some_iff.1 e2).1; omega, e5⟩
          d7 := fun _ => rfl, d8 := fun e => by simp at e, d9 := fun e => by have := (h.d9 e).2.2; simp at this
          ne := h.ne }
theorem JJ.op7 (h : JJ W n0 B6 B7 v0 u0 m xs ys x1 x2 l0 l1 l2 true l4 l5 l6 false l8 l9 t22 t23 t24 t25 t26 t27 t28 t29 w) {v' : Value} {w' : World} (hr : w'.ownsRow n0 3 1 v' (m + 1) (ys ++ [.int .i64 x2])) (hg : w.grownBy w' u0.ownBlock) (hat : ∀ b, v'.ownBlock = some b → u0.ownBlock = some b ∨ b = w.heap.size) :
    JJ W n0 B6 B7 v0 u0 m xs ys x1 x2 l0 l1 l2 true l4 l5 l6 true l8 l9 t22 t23 t24 t25 t26 t27 t28 v' w' := by
  have e8 : l8 = false := by cases e : l8 with
    | false => rfl
    | true => have := (h.d8 e).2.2; simp at this
  have e9 : l9 = false := by cases e : l9 with
    | false => rfl
    | true => have := (h.d9 e).2.1; simp at this
  subst e8 e9
  have hV : ∀ b, t25.ownBlock = some b → u0.ownBlock ≠ some b := h.ap
  have hnv : ∀ (b : Nat), w.heap[b]? ≠ none → u0.ownBlock ≠ some b → w'.heap[b]? = w.heap[b]? := fun b hb hn => hg.block b (by
    cases hh : w.heap[b]? with
    | none => exact absurd hh hb
    | some o => exact (Array.getElem?_eq_some_iff.1 hh).1) (fun e => hn e.symm)
  have n6 := own_ne h.rowU h.b6
  have n7 := own_ne h.rowU h.b7
  exact { os := hg.os.trans h.os, tape := hg.tape.trans h.tape, output := hg.output.trans h.output, size := Nat.le_trans h.size hg.size
          keep := fun k a b c d e => (hg.block k (Nat.lt_of_lt_of_le a h.size) e).trans (h.keep k a b c d e)
          rowV := own_keep h.rowV (fun k cs e hc => hnv k (by rw [hc]; simp) (hV k e))
          rowU := hr
          newV := h.newV
          newU := fun b e => by
            rcases hat b e with e' | e'
            · exact .inl e'
            · right; have := h.size; omega
          ap := fun b e e' => by
            rcases hat b e' with e2 | e2
            · exact hV b e e2
            · have := own_lt' h.rowV e; omega
          b6 := (hnv _ (by rw [h.b6]; simp) n6).trans h.b6
          b7 := (hnv _ (by rw [h.b7]; simp) n7).trans h.b7
          h0 := h.h0, h4 := h.h4, h1 := h.h1, h5 := h.h5
          h2 := fun e => by
            obtain ⟨b, e1, e2, e3, e4, e5⟩ := h.h2 e
            exact ⟨b, e1, (hnv b (by rw [e2]; simp) e5).trans e2, e3, e4, fun e' => by
              rcases hat b e' with e6 | e6
              · exact e5 e6
              · have := (Array.getElem?_eq_some_iff.1 e2).1; omega⟩
          h6 := fun e => by
            obtain ⟨b, e1, e2, e3, e4, e5⟩ := h.h6 e
            exact ⟨b, e1, (hnv b (by rw [e2]; simp) e5).trans e2, e3, e4, fun e' => by
              rcases hat b e' with e6 | e6
              · exact e5 e6
              · have := (Array.getElem?_eq_some_iff.1 e2).1; omega⟩
          d7 := fun _ => rfl, d8 := fun e => by simp at e, d9 := fun e => by simp at e
          ne := h.ne }
end

def cn : Bool → Nat
  | true => 0
  | false => 1
section
variable {W w : World} {n0 B6 B7 : Nat} {v0 u0 : Value} {m : Nat} {xs ys : List Value} {x1 x2 : Int} {l0 l1 l2 l3 l4 l5 l6 l7 l8 l9 : Bool} {t22 t23 t24 t25 t26 t27 t28 t29 : Value}
theorem JJ.op8 (h : JJ W n0 B6 B7 v0 u0 m xs ys x1 x2 l0 l1 l2 true l4 l5 l6 true false l9 t22 t23 t24 t25 t26 t27 t28 t29 w) (hl0 : l0 = true) : JJ W n0 B6 B7 v0 u0 m xs ys x1 x2 l0 l1 l2 true l4 l5 l6 true true l9 t22 t23 t24 t25 t26 t27 t28 t29 (w.setCell ⟨B6, 0, none⟩ t25) := by
  have e9 : l9 = false := by cases e : l9 with
    | false => rfl
    | true => have := (h.d9 e).2.2; simp at this
  subst e9
  have hk : ∀ k, k ≠ B6 → (w.setCell ⟨B6, 0, none⟩ t25).heap[k]? = w.heap[k]? := fun k hk => Below.heap_setCell w ⟨B6, 0, none⟩ t25 k hk
  have n6 := own_ne h.rowV h.b6
  have n7 := own_ne h.rowU h.b6
  have hb := setB h.b6 0 t25
  exact { h with
    size := by have := h.size; simpa [World.setCell] using this
    keep := fun k a b c d e => (hk k b).trans (h.keep k a b c d e)
    rowV := own_keep h.rowV (fun k cs e hc => hk k (fun e' => by subst e'; exact n6 e))
    rowU := own_keep h.rowU (fun k cs e hc => hk k (fun e' => by subst e'; exact n7 e))
    b6 := by simpa using hb
    b7 := (hk _ (fun e => h.ne.1 e.symm)).trans h.b7
    h2 := fun e => by
      obtain ⟨b, e1, e2, e3⟩ := h.h2 e
      exact ⟨b, e1, (hk b (by have := h.ne.2.1; omega)).trans e2, e3⟩
    h6 := fun e => by
      obtain ⟨b, e1, e2, e3⟩ := h.h6 e
      exact ⟨b, e1, (hk b (by have := h.ne.2.1; omega)).trans e2, e3⟩
    d8 := fun _ => ⟨hl0, rfl, rfl⟩
    d9 := fun e => by simp at e }
theorem JJ.op9 (h : JJ W n0 B6 B7 v0 u0 m xs ys x1 x2 l0 l1 l2 true l4 l5 l6 true true false t22 t23 t24 t25 t26 t27 t28 t29 w) (hl4 : l4 = true) : JJ W n0 B6 B7 v0 u0 m xs ys x1 x2 l0 l1 l2 true l4 l5 l6 true true true t22 t23 t24 t25 t26 t27 t28 t29 (w.setCell ⟨B7, 0, none⟩ t29) := by
  have hk : ∀ k, k ≠ B7 → (w.setCell ⟨B7, 0, none⟩ t29).heap[k]? = w.heap[k]? := fun k hk => Below.heap_setCell w ⟨B7, 0, none⟩ t29 k hk
  have n6 := own_ne h.rowV h.b7
  have n7 := own_ne h.rowU h.b7
  have hb := setB h.b7 0 t29
  exact { h with
    size := by have := h.size; simpa [World.setCell] using this
    keep := fun k a b c d e => (hk k c).trans (h.keep k a b c d e)
    rowV := own_keep h.rowV (fun k cs e hc => hk k (fun e' => by subst e'; exact n6 e))
    rowU := own_keep h.rowU (fun k cs e hc => hk k (fun e' => by subst e'; exact n7 e))
    b6 := (hk _ h.ne.1).trans h.b6
    b7 := by simpa using hb
    h2 := fun e => by
      obtain ⟨b, e1, e2, e3⟩ := h.h2 e
      exact ⟨b, e1, (hk b (by have := h.ne.2.2; omega)).trans e2, e3⟩
    h6 := fun e => by
      obtain ⟨b, e1, e2, e3⟩ := h.h6 e
      exact ⟨b, e1, (hk b (by have := h.ne.2.2; omega)).trans e2, e3⟩
    d9 := fun _ => ⟨hl4, rfl, rfl⟩ }
end
theorem append_at {P : Program} {l n : Nat} {o : Oper} {a : Act} {w w' : World} {K : Act → World → Prop} {Q : Exit → Act → World → Prop} {t : TypeId} {v y v' : Value} (s x : Operand)
    (hop : o.op = .call { callee := .builtin .append, args := #[s, x], argTypes := #[t, t] }) (hs : a.eval s = v) (hx : a.eval x = y) (hrun : (Builtin.append_ #[t, t] o.type #[v, y]).run P w = .ok v' w') (hK : K (a.put o.dst v') w') :
    o.wpIn (Fence.wide.inRound l) n P a w K Q := by
  refine ⟨fun _ _ => trivial, ?_⟩
  rw [Oper.semAt_plain _ _ _ (by rw [hop]; intro c hc; cases hc)]
  simp [execOp, hop, resolve, invoke, builtin, hs, hx, hrun, Result.andThen]
  exact hK
theorem own_ge {w : World} {base n : Nat} {v : Value} {xs : List Value} (h : w.ownsRow base 3 1 v n xs) {k : Nat} (hk : v.ownBlock = some k) : base ≤ k := by
  rcases h.2 with ⟨e, _⟩ | ⟨g, cap, cur, e, hb, hg, h1⟩
  · rw [e] at hk; simp [Value.ownBlock] at hk
  · rw [e] at hk
    have : g = k := by simpa [Value.ownBlock] using hk
    omega
theorem own_lower {w : World} {base base' n : Nat} {v : Value} {xs : List Value} (h : w.ownsRow base 3 1 v n xs) (hb : base' ≤ base) : w.ownsRow base' 3 1 v n xs := by
  refine ⟨h.1, ?_⟩
  rcases h.2 with h0 | ⟨g, cap, cur, e, h1, h2⟩
  · exact .inl h0
  · exact .inr ⟨g, cap, cur, e, Nat.le_trans hb h1, h2⟩
theorem own_put {W : World} {base n D : Nat} {o' o : Obj} {v : Value} {xs : List Value} (h : W.ownsRow base 3 1 v n xs) (hD : W.heap[D]? = some o) (hn : o.isCells = false) : (W.putObj D o').ownsRow base 3 1 v n xs :=
  own_keep h (fun k cs _ hc => World.putObj_heap_other (fun e => by
    subst e
    rw [hc] at hD
    injection hD with hD
    subst hD
    simp [Obj.isCells] at hn))
theorem take_all (l : List (Int × Int)) (most : Int) (h : (l.length : Int) ≤ max most 0) : l.take (max most 0).toNat = l := List.take_of_length_le (by omega)
theorem take_ini (l ini : List (Int × Int)) (last : Int × Int) (most : Int) (hp : (ini ++ [last]) <+: l) (h1 : most ≤ (ini.length : Int)) (h2 : (ini.length : Int) ≤ max most 0) : l.take (max most 0).toNat = ini := by
  obtain ⟨t, rfl⟩ := hp
  have : (max most 0).toNat = ini.length := by omega
  rw [this, List.append_assoc, List.take_append_of_le_length (Nat.le_refl _), List.take_length]
theorem Try.info3 : (Try.prog.info? 3).map (fun i => (i.zero, i.size, i.bytes)) = some (some (.int .i64 0), 1, 8) := by kernel_rfl

theorem own_form {w : World} {base n : Nat} {v : Value} {xs : List Value} (h : w.ownsRow base 3 1 v n xs) : ∃ A c, v = .slice A n c := by
  rcases h.2 with ⟨e, rfl⟩ | ⟨g, cap, cur, e, _⟩
  · exact ⟨none, 0, e⟩
  · exact ⟨_, _, e⟩

set_option maxRecDepth 100000 in
set_option maxHeartbeats 2000000 in
theorem pieces_any (s : ByteArray) (most : Int) (hsz : s.size ≤ 1000000) (w : World) :
    Calls Try.prog 18 #[.string s, .int .i64 most] w fun e W' => ∃ v u, e = .returned (.tuple #[v, u]) ∧ W'.ownsRow w.heap.size 3 1 v ((pcs s).take (max most 0).toNat).length (ints (((pcs s).take (max most 0).toNat).map Prod.fst)) ∧ W'.ownsRow w.heap.size 3 1 u ((pcs s).take (max most 0).toNat).length (ints (((pcs s).take (max most 0).toNat).map Prod.snd)) ∧ Below w.heap.size w W' := by
  have hnn := not_nil
  refine (callsIn_wide (n := 4)).1 ?_
  refine callsIn_of_wp_marks Try.func18 rfl trivial ?_ rfl
  simp only [Try.ntmps18, List.size_toArray, List.length_cons, List.length_nil, Nat.reduceAdd, Nat.reduceSub, Array.replicate_succ, Array.replicate_zero, List.push_toArray, List.append_toArray, List.nil_append, List.cons_append]
  gi_wp2_with (refine ⟨trivial, ?_⟩; gi_at_call 27; refine (each_in _ _ _).mono ?_; rintro e w' ⟨rfl, rfl⟩)
  obtain ⟨W0, hW0⟩ : ∃ W0, ((((w.alloc (Obj.cells #[Value.int IntKind.i64 most] 3)).alloc (Obj.cells #[Value.slice none 0 0] 34)).alloc (Obj.cells #[Value.slice none 0 0] 34)).alloc (Obj.cells #[Value.string s] 9)) = W0 := ⟨_, rfl⟩
  have hz0 : W0.heap.size = w.heap.size + 4 := by rw [← hW0]; simp
  obtain ⟨hb3, hb6, hb7, hb8⟩ := four_blocks w (Obj.cells #[Value.int IntKind.i64 most] 3) (Obj.cells #[Value.slice none 0 0] 34) (Obj.cells #[Value.slice none 0 0] 34) (Obj.cells #[Value.string s] 9)
  rw [hW0] at hb3 hb6 hb7 hb8
  have hB0 : Below w.heap.size w W0 := by rw [← hW0]; exact ((((Below.refl _ w).alloc (Nat.le_refl _) _).alloc (by simp) _).alloc (by simp; omega) _).alloc (by simp; omega) _
  rw [hW0]
  have c8 := cellB hb8 0
  have hpl := pcs_len s
  refine wpIn_rangeFunc_ownG rfl (by omega) (gf := 28) (lb := #[.pointer (some ⟨w.heap.size + 1 + 1 + 1, 0, none⟩)]) rfl trivial (enters_of Try.func28 (by kernel_rfl) rfl)
    (each_stops (4 - 1) (by omega) (w.heap.size + 1 + 1 + 1) s (by omega) W0 (by omega) c8) Kb.t (Kb.b (by omega)) (Below.refl _ _) (fun _ => rfl)
    (fun pre W => ((Hold W (w.heap.size + 1) (w.heap.size + 1) (w.heap.size + 1 + 1) (pre.map Prod.fst) (pre.map Prod.snd) ∧ (pre.length : Int) ≤ max most 0) ∧ Two W w.heap.size (w.heap.size + 1 + 1 + 1) most s) ∧ Below w.heap.size w W)
    (fun c pre W => ((∃ ini last, pre = ini ++ [last] ∧ c = .exit 0 ∧ Hold W (w.heap.size + 1) (w.heap.size + 1) (w.heap.size + 1 + 1) (ini.map Prod.fst) (ini.map Prod.snd) ∧ most ≤ (ini.length : Int) ∧ (ini.length : Int) ≤ max most 0) ∧ True) ∧ Below w.heap.size w W)
    (OwnFrom.and (Own.from (fun s A B row hs hg hr => ⟨⟨hs.1.1.grown hg hr, hs.1.2⟩, hs.2.grown hg hr⟩) _) (ownFrom_below (Nat.le_refl _) (by omega)))
    (fun c => OwnFrom.and (Own.from (fun s A B row hs hg hr => by obtain ⟨⟨ini, last, e1, e2, e3, e4⟩, _⟩ := hs; exact ⟨⟨ini, last, e1, e2, e3.grown hg hr, e4⟩, trivial⟩) _) (ownFrom_below (Nat.le_refl _) (by omega)))
    ⟨⟨⟨⟨_, _, hb6, hb7, ⟨rfl, .inl ⟨rfl, rfl⟩⟩, ⟨rfl, .inl ⟨rfl, rfl⟩⟩, by simp [Value.ownBlock]⟩, by simp; omega⟩, ⟨hb3, hb8⟩⟩, hB0⟩
    (fun x => { tmps := #[.string s, .int .i64 most, undef, .pointer (some ⟨w.heap.size, 0, none⟩), .slice none 0 0, .slice none 0 0, .pointer (some ⟨w.heap.size + 1, 0, none⟩), .pointer (some ⟨w.heap.size + 1 + 1, 0, none⟩),
      .func (.func 28) #[] #[.pointer (some ⟨w.heap.size + 1 + 1 + 1, 0, none⟩)], .int .i64 x.1, .int .i64 x.2, .string s, .func (.func 28) #[] #[.pointer (some ⟨w.heap.size + 1 + 1 + 1, 0, none⟩)],
      .func (.func 28) #[] #[.pointer (some ⟨w.heap.size + 1 + 1 + 1, 0, none⟩)], .bool false, .func (.func 28) #[] #[.pointer (some ⟨w.heap.size + 1 + 1 + 1, 0, none⟩)], .int .i64 x.1, .int .i64 x.2, undef, undef, undef, undef, undef, undef, undef, undef, undef, undef, undef, undef, undef, undef], defers := [] }) ?assign ?body ?done ?stop
  case assign =>
    intro l x W K hK
    gi_wp2
    exact hK
  case body =>
    rintro l pre x W ⟨⟨⟨hh, hlen⟩, h2⟩, hB⟩ hlt
    have hc3 := cellB h2.b3 0
    have hWs : w.heap.size + 1 + 1 + 1 < W.heap.size := (Array.getElem?_eq_some_iff.1 h2.b8).1
    obtain ⟨v, u, h6, h7, r6, r7, hap⟩ := hh.ex
    rw [List.length_map] at r6 r7
    obtain ⟨vA, vc, rfl⟩ := own_form r6
    obtain ⟨uA, uc, rfl⟩ := own_form r7
    have c6 := cellB h6 0
    have c7 := cellB h7 0
    have f6 := frozB h6 0
    have f7 := frozB h7 0
    simp at c6 c7 hc3
    by_cases hm : most ≤ (pre.length : Int)
    · have hd : decide (most ≤ (pre.length : Int)) = true := decide_eq_true hm
      gi_wp2
      refine ⟨KeepsFrom.refl _ _, ⟨⟨pre, x, rfl, rfl, hh, hm, hlen⟩, trivial⟩, hB⟩
    · have hd : decide (most ≤ (pre.length : Int)) = false := decide_eq_false hm
      gi_wp2
      refine wpIn_region_any (by kernel_rfl) ?_
      obtain ⟨i0, hi0, hz0, hz1, hz2⟩ := info_parts Try.info3
      have hpl2 : pre.length ≤ 1000000 := by omega
      refine wpAnyIn_inv (fun k listed a w' => ∃ (l0 l1 l2 l3 l4 l5 l6 l7 l8 l9 : Bool) (t22 t23 t24 t25 t26 t27 t28 t29 : Value), listed = #[l0, l1, l2, l3, l4, l5, l6, l7, l8, l9] ∧
        a = { tmps := #[.string s, .int .i64 most, undef, .pointer (some ⟨w.heap.size, 0, none⟩), .slice none 0 0, .slice none 0 0, .pointer (some ⟨w.heap.size + 1, 0, none⟩), .pointer (some ⟨w.heap.size + 1 + 1, 0, none⟩), .func (.func 28) #[] #[.pointer (some ⟨w.heap.size + 1 + 1 + 1, 0, none⟩)], .int .i64 x.1, .int .i64 x.2, .string s, .func (.func 28) #[] #[.pointer (some ⟨w.heap.size + 1 + 1 + 1, 0, none⟩)], .func (.func 28) #[] #[.pointer (some ⟨w.heap.size + 1 + 1 + 1, 0, none⟩)], .bool false, .func (.func 28) #[] #[.pointer (some ⟨w.heap.size + 1 + 1 + 1, 0, none⟩)], .int .i64 x.1, .int .i64 x.2, .slice vA pre.length vc, .int .i64 pre.length, .int .i64 most, .bool false, t22, t23, t24, t25, t26, t27, t28, t29, undef, undef], defers := [] } ∧ k = cn l0 + cn l1 + cn l2 + cn l3 + cn l4 + cn l5 + cn l6 + cn l7 + cn l8 + cn l9 ∧
        JJ W (w.heap.size + 1) (w.heap.size + 1) (w.heap.size + 1 + 1) (.slice vA pre.length vc) (.slice uA pre.length uc) pre.length (ints (pre.map Prod.fst)) (ints (pre.map Prod.snd)) x.1 x.2 l0 l1 l2 l3 l4 l5 l6 l7 l8 l9 t22 t23 t24 t25 t26 t27 t28 t29 w') ?_ ?_ ?_ 10 _ _ _ ?_
      · rintro listed a w' ⟨l0, l1, l2, l3, l4, l5, l6, l7, l8, l9, t22, t23, t24, t25, t26, t27, t28, t29, rfl, rfl, hk, hj⟩
        have c0 : ∀ l : Bool, cn l = 0 → l = true := by intro l h; cases l <;> simp [cn] at h ⊢
        rw [c0 l0 (by omega), c0 l1 (by omega), c0 l2 (by omega), c0 l3 (by omega), c0 l4 (by omega), c0 l5 (by omega), c0 l6 (by omega), c0 l7 (by omega), c0 l8 (by omega), c0 l9 (by omega)]
        rfl
      · rintro k listed a wx ⟨l0, l1, l2, l3, l4, l5, l6, l7, l8, l9, t22, t23, t24, t25, t26, t27, t28, t29, rfl, rfl, hk, hj⟩ hrd
        have no : ∀ i, i ∉ Region.ready .any _ #[l0, l1, l2, l3, l4, l5, l6, l7, l8, l9] := fun i hi => by rw [hrd] at hi; simp at hi
        have q0 := no 0
        rw [mem_ready] at q0
        simp [Region.binds] at q0
        subst q0
        have q1 := no 1
        rw [mem_ready] at q1
        simp [Region.binds] at q1
        subst q1
        have q2 := no 2
        rw [mem_ready] at q2
        simp [Region.binds] at q2
        subst q2
        have q3 := no 3
        rw [mem_ready] at q3
        simp [Region.binds] at q3
        subst q3
        have q4 := no 4
        rw [mem_ready] at q4
        simp [Region.binds] at q4
        subst q4
        have q5 := no 5
        rw [mem_ready] at q5
        simp [Region.binds] at q5
        subst q5
        have q6 := no 6
        rw [mem_ready] at q6
        simp [Region.binds] at q6
        subst q6
        have q7 := no 7
        rw [mem_ready] at q7
        simp [Region.binds] at q7
        subst q7
        have q8 := no 8
        rw [mem_ready] at q8
        simp [Region.binds] at q8
        subst q8
        have q9 := no 9
        rw [mem_ready] at q9
        simp [Region.binds] at q9
        subst q9
        have hH : Hold wx (w.heap.size + 1) (w.heap.size + 1) (w.heap.size + 1 + 1) ((pre ++ [x]).map Prod.fst) ((pre ++ [x]).map Prod.snd) :=
          ⟨_, _, hj.b6, hj.b7, by simpa [ints] using hj.rowV, by simpa [ints] using hj.rowU, hj.ap⟩
        have hcells : ∀ (k : Nat) (o : Obj), W.heap[k]? = some o → o.isCells = false → wx.heap[k]? = W.heap[k]? := by
          intro k o ho hn
          have hne : ∀ cs t, W.heap[k]? ≠ some (Obj.cells cs t (0, 0)) := by
            intro cs t hc
            rw [hc] at ho
            injection ho with ho
            subst ho
            simp [Obj.isCells] at hn
          exact hj.keep k (Array.getElem?_eq_some_iff.1 ho).1 (fun e => by subst e; exact hne _ _ h6) (fun e => by subst e; exact hne _ _ h7)
            (fun e => by obtain ⟨cs, hc⟩ := own_cells r6 e.symm; exact hne _ _ hc) (fun e => by obtain ⟨cs, hc⟩ := own_cells r7 e.symm; exact hne _ _ hc)
        have hBx : Below w.heap.size w wx := by
          refine ⟨hj.os.trans hB.os, hj.tape.trans hB.tape, hj.output.trans hB.output, Nat.le_trans hB.size hj.size, fun k hk => ?_⟩
          refine (hj.keep k (Nat.lt_of_lt_of_le hk hB.size) (by omega) (by omega) (fun e => ?_) (fun e => ?_)).trans (hB.block k hk)
          · have := own_ge r6 e.symm; omega
          · have := own_ge r7 e.symm; omega
        have hKf : KeepsFrom W0.heap.size W wx := ⟨hj.size, fun k o _ ho hn => (hcells k o ho hn).trans ho⟩
        have hKb : Kb (w.heap.size + 1 + 1 + 1) W wx := by
          have h8 : W.heap[w.heap.size + 1 + 1 + 1]? = some (Obj.cells #[.string s] 9 (0, 0)) := h2.b8
          refine hj.keep _ (Array.getElem?_eq_some_iff.1 h8).1 (by omega) (by omega) (fun e => ?_) (fun e => ?_)
          · obtain ⟨cs, hc⟩ := own_cells r6 e.symm
            rw [hc] at h8
            simp at h8
          · obtain ⟨cs, hc⟩ := own_cells r7 e.symm
            rw [hc] at h8
            simp at h8
        have hT : Two wx w.heap.size (w.heap.size + 1 + 1 + 1) most s := by
          refine ⟨?_, Eq.trans hKb h2.b8⟩
          refine (hj.keep _ (Array.getElem?_eq_some_iff.1 h2.b3).1 (by omega) (by omega) (fun e => ?_) (fun e => ?_)).trans h2.b3
          · have := own_ge r6 e.symm; omega
          · have := own_ge r7 e.symm; omega
        exact ⟨hKf, hKb, ⟨⟨hH, by simp; omega⟩, hT⟩, hBx⟩
      · rintro k listed a wx i ⟨l0, l1, l2, l3, l4, l5, l6, l7, l8, l9, t22, t23, t24, t25, t26, t27, t28, t29, rfl, rfl, hk, hj⟩ hi
        have hi10 : i < 10 := by
          rw [mem_ready] at hi
          obtain ⟨_, o, ho, _⟩ := hi
          exact (Array.getElem?_eq_some_iff.1 ho).1
        rcases (show i = 0 ∨ i = 1 ∨ i = 2 ∨ i = 3 ∨ i = 4 ∨ i = 5 ∨ i = 6 ∨ i = 7 ∨ i = 8 ∨ i = 9 by omega) with e | e | e | e | e | e | e | e | e | e
        · subst e
          rw [mem_ready] at hi
          simp [Region.binds] at hi
          subst hi
          have e8 : l8 = false := by cases e : l8 with
            | false => rfl
            | true => have := (hj.d8 e).1; simp at this
          subst e8
          have c6 := cellB hj.b6 0
          simp at c6
          refine wpOpIn_step rfl (fun K hK => ?_)
          go_simp
          refine hK _ _ ⟨_, _, _, _, _, _, _, _, _, _, _, _, _, _, _, _, _, _, rfl, rfl, ?_, hj.op0 _ rfl⟩
          simp only [cn] at hk ⊢
          omega
        · subst e
          rw [mem_ready] at hi
          simp [Region.binds] at hi
          subst hi
          refine wpOpIn_step rfl (fun K hK => ?_)
          go_simp
          refine hK _ _ ⟨_, _, _, _, _, _, _, _, _, _, _, _, _, _, _, _, _, _, rfl, rfl, ?_, hj.op1⟩
          simp only [cn] at hk ⊢
          omega
        · subst e
          rw [mem_ready] at hi
          simp [Region.binds] at hi
          obtain ⟨rfl, rfl⟩ := hi
          have e1 := hj.h1 rfl
          subst e1
          refine wpOpIn_step rfl (fun K hK => ?_)
          go_simp
          refine hK _ _ ⟨_, _, _, _, _, _, _, _, _, _, _, _, _, _, _, _, _, _, rfl, rfl, ?_, hj.op2⟩
          simp only [cn] at hk ⊢
          omega
        · subst e
          rw [mem_ready] at hi
          simp [Region.binds] at hi
          obtain ⟨rfl, rfl, rfl⟩ := hi
          refine wpOpIn_step rfl (fun K hK => ?_)
          rw [if_pos (by rfl)]
          obtain ⟨bb, e24, hbb, _⟩ := hj.h2 rfl
          have e22 := hj.h0 rfl
          subst e22 e24
          obtain ⟨g, cap, w2, hrun, g1, g2, g3, g4⟩ := run_append_lies (P := Try.prog) wx 34 34 (w.heap.size + 1) 3 i0 (.int .i64 0) 1 8 Try.underlying34 hi0 hz0 hz1 hz2 rfl (by decide) _ pre.length _ hj.rowV ⟨bb, 0, none⟩ 1 1 [.int .i64 x.1] rfl (by intro j u hu; have hj0 : j = 0 := (by have := (List.getElem?_eq_some_iff.1 hu).1; simp at this; omega); subst hj0; simp at hu; subst hu; simpa [Addr.add] using cellB hbb 0) (by intro u hu; simp at hu; subst hu; rfl) (by omega) (by have : maxLen = 9223372036854775807 := rfl; omega) (by omega) (Nat.le_trans (by omega) hj.size) _ rfl
          simp only [cond_false] at hrun g1 g2 g3
          refine append_at (.tmp 22) (.tmp 24) rfl rfl rfl hrun (hK _ _ ⟨_, _, _, _, _, _, _, _, _, _, _, _, _, _, _, _, _, _, rfl, rfl, ?_, hj.op3 rfl g1 g2 ?_⟩)
          · simp only [cn] at hk ⊢
            omega
          · intro b hb
            have hb : g = b := by simpa [Value.ownBlock] using hb
            subst hb
            exact g3
        · subst e
          rw [mem_ready] at hi
          simp [Region.binds] at hi
          subst hi
          have e9 : l9 = false := by cases e : l9 with
            | false => rfl
            | true => have := (hj.d9 e).1; simp at this
          subst e9
          have c7 := cellB hj.b7 0
          simp at c7
          refine wpOpIn_step rfl (fun K hK => ?_)
          go_simp
          refine hK _ _ ⟨_, _, _, _, _, _, _, _, _, _, _, _, _, _, _, _, _, _, rfl, rfl, ?_, hj.op4 _ rfl⟩
          simp only [cn] at hk ⊢
          omega
        · subst e
          rw [mem_ready] at hi
          simp [Region.binds] at hi
          subst hi
          refine wpOpIn_step rfl (fun K hK => ?_)
          go_simp
          refine hK _ _ ⟨_, _, _, _, _, _, _, _, _, _, _, _, _, _, _, _, _, _, rfl, rfl, ?_, hj.op5⟩
          simp only [cn] at hk ⊢
          omega
        · subst e
          rw [mem_ready] at hi
          simp [Region.binds] at hi
          obtain ⟨rfl, rfl⟩ := hi
          have e1 := hj.h5 rfl
          subst e1
          refine wpOpIn_step rfl (fun K hK => ?_)
          go_simp
          refine hK _ _ ⟨_, _, _, _, _, _, _, _, _, _, _, _, _, _, _, _, _, _, rfl, rfl, ?_, hj.op6⟩
          simp only [cn] at hk ⊢
          omega
        · subst e
          rw [mem_ready] at hi
          simp [Region.binds] at hi
          obtain ⟨rfl, rfl, rfl, rfl⟩ := hi
          refine wpOpIn_step rfl (fun K hK => ?_)
          rw [if_pos (by rfl)]
          obtain ⟨bb, e24, hbb, _⟩ := hj.h6 rfl
          have e22 := hj.h4 rfl
          subst e22 e24
          obtain ⟨g, cap, w2, hrun, g1, g2, g3, g4⟩ := run_append_lies (P := Try.prog) wx 34 34 (w.heap.size + 1) 3 i0 (.int .i64 0) 1 8 Try.underlying34 hi0 hz0 hz1 hz2 rfl (by decide) _ pre.length _ hj.rowU ⟨bb, 0, none⟩ 1 1 [.int .i64 x.2] rfl (by intro j u hu; have hj0 : j = 0 := (by have := (List.getElem?_eq_some_iff.1 hu).1; simp at this; omega); subst hj0; simp at hu; subst hu; simpa [Addr.add] using cellB hbb 0) (by intro u hu; simp at hu; subst hu; rfl) (by omega) (by have : maxLen = 9223372036854775807 := rfl; omega) (by omega) (Nat.le_trans (by omega) hj.size) _ rfl
          simp only [cond_false] at hrun g1 g2 g3
          refine append_at (.tmp 26) (.tmp 28) rfl rfl rfl hrun (hK _ _ ⟨_, _, _, _, _, _, _, _, _, _, _, _, _, _, _, _, _, _, rfl, rfl, ?_, hj.op7 g1 g2 ?_⟩)
          · simp only [cn] at hk ⊢
            omega
          · intro b hb
            have hb : g = b := by simpa [Value.ownBlock] using hb
            subst hb
            exact g3
        · subst e
          rw [mem_ready] at hi
          simp [Region.binds] at hi
          obtain ⟨rfl, rfl, rfl, rfl, rfl, rfl, _⟩ := hi
          obtain ⟨g, cap, e25, _⟩ := hj.rowV.form (by simp)
          simp only [cond_true] at e25
          subst e25
          have c6 := cellB hj.b6 0
          have f6 := frozB hj.b6 0
          simp at c6
          refine wpOpIn_step rfl (fun K hK => ?_)
          go_simp
          refine hK _ _ ⟨_, _, _, _, _, _, _, _, _, _, _, _, _, _, _, _, _, _, rfl, rfl, ?_, hj.op8 rfl⟩
          simp only [cn] at hk ⊢
          omega
        · subst e
          rw [mem_ready] at hi
          simp [Region.binds] at hi
          obtain ⟨rfl, rfl, rfl, rfl, rfl, rfl, rfl, rfl, rfl, rfl, _, _⟩ := hi
          obtain ⟨g, cap, e29, _⟩ := hj.rowU.form (by simp)
          simp only [cond_true] at e29
          subst e29
          have c7 := cellB hj.b7 0
          have f7 := frozB hj.b7 0
          simp at c7
          refine wpOpIn_step rfl (fun K hK => ?_)
          go_simp
          refine hK _ _ ⟨_, _, _, _, _, _, _, _, _, _, _, _, _, _, _, _, _, _, rfl, rfl, ?_, hj.op9 rfl⟩
          simp only [cn] at hk ⊢
          omega
      · refine ⟨false, false, false, false, false, false, false, false, false, false, undef, undef, undef, undef, undef, undef, undef, undef, rfl, rfl, rfl, ?_⟩
        exact { os := rfl, tape := rfl, output := rfl, size := Nat.le_refl _, keep := fun _ _ _ _ _ _ => rfl, rowV := r6, rowU := r7, newV := fun b e => .inl e, newU := fun b e => .inl e, ap := hap, b6 := h6, b7 := h7,
                h0 := by simp, h4 := by simp, h1 := by simp, h5 := by simp, h2 := by simp, h6 := by simp, d7 := by simp, d8 := by simp, d9 := by simp, ne := ⟨by omega, (Array.getElem?_eq_some_iff.1 h6).1, (Array.getElem?_eq_some_iff.1 h7).1⟩ }
  case done =>
    rintro D ys W hD rfl ⟨⟨⟨hh, hlen⟩, _⟩, hB⟩ hK
    obtain ⟨v, u, h6, h7, r6, r7, hap⟩ := hh.ex
    have c6 := cellB h6 0
    have c7 := cellB h7 0
    simp at c6 c7
    gi_wp2
    gi_region
    gi_wp2
    have hK' : W.drew.heap[D]? = some (.deferred (some [])) := hK
    refine ⟨by simp, .inl ⟨_, _, rfl, run_takeDeferred hK', ?_⟩⟩
    rw [List.length_map] at r6 r7
    refine ⟨.tuple #[v, u], ?_, v, u, rfl, ?_, ?_, ?_⟩
    · simp [results, Try.f18, go_sem]
    · rw [take_all _ _ hlen]
      exact own_lower (own_put (W := W.drew) (own_keep r6 (fun _ _ _ _ => rfl)) hK' rfl) (by omega)
    · rw [take_all _ _ hlen]
      exact own_lower (own_put (W := W.drew) (own_keep r7 (fun _ _ _ _ => rfl)) hK' rfl) (by omega)
    · exact Below.trans (b := W.drew) ⟨hB.os, hB.tape, hB.output, hB.size, hB.block⟩ (belowK_b (w := w) (Nat.le_refl _) W.drew D _ _ (by omega) hK' rfl rfl)
  case stop =>
    rintro D c pre W hD hpre ⟨⟨⟨ini, last, rfl, rfl, hh, h1, h2⟩, _⟩, hB⟩ hK
    obtain ⟨v, u, h6, h7, r6, r7, hap⟩ := hh.ex
    have c6 := cellB h6 0
    have c7 := cellB h7 0
    simp at c6 c7
    gi_wp2
    gi_region
    gi_wp2
    have hK' : W.drew.heap[D]? = some (.deferred (some [])) := hK
    refine ⟨by simp, .inl ⟨_, _, rfl, run_takeDeferred hK', ?_⟩⟩
    rw [List.length_map] at r6 r7
    refine ⟨.tuple #[v, u], ?_, v, u, rfl, ?_, ?_, ?_⟩
    · simp [results, Try.f18, go_sem]
    · rw [take_ini _ _ _ _ hpre h1 h2]
      exact own_lower (own_put (W := W.drew) (own_keep r6 (fun _ _ _ _ => rfl)) hK' rfl) (by omega)
    · rw [take_ini _ _ _ _ hpre h1 h2]
      exact own_lower (own_put (W := W.drew) (own_keep r7 (fun _ _ _ _ => rfl)) hK' rfl) (by omega)
    · exact Below.trans (b := W.drew) ⟨hB.os, hB.tape, hB.output, hB.size, hB.block⟩ (belowK_b (w := w) (Nat.le_refl _) W.drew D _ _ (by omega) hK' rfl rfl)
end Go.Proofs.Ytbcmjpmnljfolaa
