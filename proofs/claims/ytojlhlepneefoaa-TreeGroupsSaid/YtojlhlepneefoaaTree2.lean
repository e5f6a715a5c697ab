/- Merged by wip/tools/merge.py out of the texts O, U, V, CK, TT, each as it stood. -/
import Derived.Test.YtojlhlepneefoaaTree1
import Derived.Deep.Slices
import Derived.Deep.Strs
import Derived.Deep.AppendLies
import Derived.Deep.LoopGhost
import Derived.IntWalk
import Derived.Maps.AppendAt
import Derived.Test.YtojlhlepneefoaaPAllx10
import Derived.Test.YtojlhlepneefoaaPAllx11
import Derived.Test.YtojlhlepneefoaaPAllx12
import Derived.Test.YtojlhlepneefoaaPAllx8
import Derived.Test.YtojlhlepneefoaaPAllx7
import Derived.Test.YtojlhlepneefoaaPAllx14
import Derived.Test.YtojlhlepneefoaaPAllx17
/- Package tree: a node that comes in as an argument, opened. -/
namespace Go.Proofs.Ytojlhlepneefoaa
open Go.RowKit PAll Go.Proofs.YtojlhlepneefoaaW.PrintWords Go.Proofs.YtojlhlepneefoaaW.PrintLast Go.Proofs.YtojlhlepneefoaaW.PrintMore
open Go.Shelf Go.Deep Go.ChangeShapes Go.WideShapes
set_option linter.unusedVariables false
set_option linter.unusedSimpArgs false

set_option maxRecDepth 100000
section
variable {H : Type} {enc : TypeId × Value → H} {w : World} {base : Nat} {spare : Nat → Bool} {held : Bool} {r : Reach} {b0 : Nat} {v : Value} {d : DataW H} {p : List MemPlace}
theorem openRow {α : Type} [Inhabited α] (kd : Kd α) {t e : TypeId} (ht : Try.prog.underlying t = some (.slice e)) (sz : Try.prog.cellsOf e = kd.sz) {fuel : Nat}
    (el : ∀ m, m < fuel → ∀ (cs : List Value) (y : DataW H × List MemPlace), DataW.trod enc Try.prog w base spare held m e cs = some y → ∃ x : α, kd.K w x cs)
    {cs : List Value} {y : DataW H × List MemPlace} (h : DataW.trod enc Try.prog w base spare held fuel t cs = some y) :
    ∃ (A : Option Addr) (cap : Nat) (l : List α), cs = [.slice A l.length cap] ∧ kd.C w A l.length l ∧ l.length ≤ cap := by
  rcases DataW.trod_slice ht h with ⟨rfl, _⟩ | ⟨a, len, cap, elems, rest, n, hn, rfl, _, _, hl, hm, hlen, hel, _, _⟩
  · exact ⟨none, 0, [], rfl, ⟨rfl, by simp, fun h => absurd h (by simp)⟩, Nat.le_refl _⟩
  · rw [sz] at hel
    have hml : maxLen = 9223372036854775807 := rfl
    have each : ∀ i, i < len → ∃ x : α, ∃ cs : List Value, kd.K w x cs ∧ ∀ j u, cs[j]? = some u → w.cell? (a.add (i * kd.sz + j)) = some u := by
      intro i hi
      have h1 := hel i hi
      rw [List.getElem?_eq_getElem (by omega)] at h1
      cases hc : w.cells? base (a.add (i * kd.sz)) kd.sz with
      | none => rw [hc] at h1; cases h1
      | some cs' =>
        rw [hc] at h1
        obtain ⟨x, hx⟩ := el n (by omega) cs' _ h1
        obtain ⟨_, hlen', hcell⟩ := World.cells?_some hc
        refine ⟨x, cs', hx, fun j u hu => ?_⟩
        have hj : j < kd.sz := by have := (List.getElem?_eq_some_iff.1 hu).1; omega
        have := hcell j (by omega)
        rw [Go.Deep.add_add] at this
        exact this.trans hu
    obtain ⟨q, hq⟩ := choose_lt each
    refine ⟨some a, cap, (List.range len).map q, by simp, ⟨rfl, by simp; omega, fun h => ⟨a, rfl, fun j x hx => ?_⟩⟩, by simp; omega⟩
    rw [List.getElem?_map] at hx
    by_cases hj : j < len
    · rw [List.getElem?_range hj] at hx
      simp at hx
      subst hx
      obtain ⟨cs, hK, hc⟩ := hq j hj
      exact ⟨cs, kd.K_len hK, hK, hc⟩
    · rw [List.getElem?_eq_none (by simpa using hj)] at hx
      simp at hx
theorem open103 {n : Nat} {cs : List Value} {y : DataW H × List MemPlace} (h : DataW.trod enc Try.prog w base spare held n 103 cs = some y) : ∃ q : S103, k103.K w q cs := by
  obtain ⟨xs, m, _, _, hl, hlen, hf⟩ := DataW.trod_struct Try.underlying103 h
  have c3 : Try.prog.cellsOf 3 = 1 := by kernel_rfl
  have c103 : Try.prog.cellsOf 103 = 2 := by kernel_rfl
  rw [c103] at hl
  match cs, hl with
  | [v0, v1], _ =>
    have g0 := hf 0 _ rfl
    have g1 := hf 1 _ rfl
    have hs : xs.length = 2 := hlen
    obtain ⟨x0, x1, rfl⟩ : ∃ x0 x1, xs = [x0, x1] := by
      match xs, hs with
      | [x0, x1], _ => exact ⟨x0, x1, rfl⟩
    simp [c3] at g0 g1
    obtain ⟨n0, q0, _, _⟩ := DataW.trod_int Try.underlying3 g0
    obtain ⟨n1, q1, _, _⟩ := DataW.trod_int Try.underlying3 g1
    simp at q0 q1
    subst q0 q1
    exact ⟨⟨n0, n1⟩, k103_mk w _⟩
theorem openNode : ∀ (n : Nat) (cs : List Value) (y : DataW H × List MemPlace), DataW.trod enc Try.prog w base spare held n 25 cs = some y → ∃ v : NV, cs = v.cells ∧ v.ok w := by
  intro n
  induction n using Nat.strongRecOn with
  | _ n ih =>
    intro cs y h
    obtain ⟨xs, m, hm, _, hl, hlen, hf⟩ := DataW.trod_struct Try.underlying25 h
    have c3 : Try.prog.cellsOf 3 = 1 := by kernel_rfl
    have c4 : Try.prog.cellsOf 4 = 1 := by kernel_rfl
    have c9 : Try.prog.cellsOf 9 = 1 := by kernel_rfl
    have c22 : Try.prog.cellsOf 22 = 1 := by kernel_rfl
    have c23 : Try.prog.cellsOf 23 = 1 := by kernel_rfl
    have c25 : Try.prog.cellsOf 25 = 8 := by kernel_rfl
    have c103 : Try.prog.cellsOf 103 = 2 := by kernel_rfl
    rw [c25] at hl
    match cs, hl with
    | [v0, v1, v2, v3, v4, v5, v6, v7], _ =>
      have g0 := hf 0 _ rfl
      have g1 := hf 1 _ rfl
      have g2 := hf 2 _ rfl
      have g3 := hf 3 _ rfl
      have g4 := hf 4 _ rfl
      have g5 := hf 5 _ rfl
      have g6 := hf 6 _ rfl
      have g7 := hf 7 _ rfl
      have hs : xs.length = 8 := hlen
      obtain ⟨x0, x1, x2, x3, x4, x5, x6, x7, rfl⟩ : ∃ x0 x1 x2 x3 x4 x5 x6 x7, xs = [x0, x1, x2, x3, x4, x5, x6, x7] := by
        match xs, hs with
        | [x0, x1, x2, x3, x4, x5, x6, x7], _ => exact ⟨x0, x1, x2, x3, x4, x5, x6, x7, rfl⟩
      simp [c3, c4, c9, c22, c23] at g0 g1 g2 g3 g4 g5 g6 g7
      obtain ⟨n0, q0, _, _⟩ := DataW.trod_int Try.underlying3 g0
      obtain ⟨n2, q2, _, _⟩ := DataW.trod_int Try.underlying3 g2
      obtain ⟨n3, q3, _, _⟩ := DataW.trod_string Try.underlying9 g3
      obtain ⟨n4, q4, _, _⟩ := DataW.trod_int Try.underlying3 g4
      obtain ⟨n5, q5, _, _⟩ := DataW.trod_int Try.underlying3 g5
      obtain ⟨n6, q6, _⟩ := DataW.trod_bool Try.underlying4 g6
      have : Inhabited S103 := ⟨z103⟩
      have : Inhabited S25 := ⟨z25⟩
      obtain ⟨A1, c1, l1, q1, C1, h1⟩ := openRow k103 Try.underlying22 c103 (fun m _ cs y h => open103 h) g1
      obtain ⟨A7, c7, l7, q7, C7, h7⟩ := openRow k25 Try.underlying23 c25 (fun m' hm' cs y h => by
        obtain ⟨v, rfl, hv⟩ := ih m' (by omega) cs y h
        exact ⟨v.n, hv.k25⟩) g7
      simp at q0 q1 q2 q3 q4 q5 q6 q7
      subst q0 q1 q2 q3 q4 q5 q6 q7
      exact ⟨⟨⟨n0, l1, n2, n3, n4, n5, n6, l7⟩, A1, c1, A7, c7⟩, rfl, ⟨h1, C1, h7, C7⟩⟩
theorem openNodeArg (hv : Value.okWide Try.prog w r b0 25 v) (h : DataW.Trod enc Try.prog w base spare held 25 v d p) : ∃ x : NV, v = x.val ∧ x.ok w := by
  obtain ⟨cs, rfl, hsz⟩ := okWide_struct Try.underlying25 hv
  obtain ⟨fuel, hf⟩ := h
  obtain ⟨x, hx, hok⟩ := openNode fuel _ _ hf
  refine ⟨x, ?_, hok⟩
  unfold NV.val
  rw [← hx]
  rfl
end
end Go.Proofs.Ytojlhlepneefoaa
/- The document's All: a row of its own, of steps whose nodes share what came in; its walk. -/
namespace Go.Proofs.Ytojlhlepneefoaa
open Go.RowKit PAll Go.Proofs.YtojlhlepneefoaaW.PrintWords Go.Proofs.YtojlhlepneefoaaW.PrintLast Go.Proofs.YtojlhlepneefoaaW.PrintMore
open Go.Shelf
set_option linter.unusedVariables false
set_option linter.unusedSimpArgs false

theorem try_info70 : (Try.prog.info? 70).map (fun i => (i.zero, i.size, i.bytes)) = some (some (.agg #[(.int .i64 0), (.int .i64 0), (.slice none 0 0), (.int .i64 0), (.string ⟨#[]⟩), (.int .i64 0), (.int .i64 0), (.bool false), (.slice none 0 0)]), 9, 112) := by kernel_rfl
def stepCells {w : World} (xs : List (Step w)) : List Value := xs.flatMap fun x => .int .i64 x.1 :: x.2.1.cells
theorem cells_len8 (v : NV) : v.cells.length = 8 := rfl
theorem stepCells_len {w : World} (xs : List (Step w)) : (stepCells xs).length = xs.length * 9 := by
  induction xs with
  | nil => rfl
  | cons x xs ih => simp only [stepCells, List.flatMap_cons, List.length_append, List.length_cons] at ih ⊢; rw [ih, cells_len8]; omega
theorem stepCells_app {w : World} (xs ys : List (Step w)) : stepCells (xs ++ ys) = stepCells xs ++ stepCells ys := by simp [stepCells]
def AllI (w0 W : World) (u : Value) (v : NV) (m : Nat) (d : Int) (k : Nat) (inner : List Value) (uv iv : Value) (wr : World) : Prop :=
  ∃ (j : Nat) (xs : List (Step w0)), iv = .int .i64 j ∧ j ≤ v.n.f7.length ∧ proj xs = (d, v.n) :: (v.n.f7.take j).flatMap (stepsL m (d + 1)) ∧ wr.ownsRow w0.heap.size 70 9 uv (k + xs.length) (inner ++ stepCells xs) ∧
    W.grownBy wr u.ownBlock ∧ (uv.ownBlock = u.ownBlock ∨ ∃ g, uv.ownBlock = some g ∧ W.heap.size + 1 ≤ g) ∧ wr.heap[W.heap.size]? = some (.cells v.cells.toArray 25 (0, 0))
def AllO (w0 W : World) (u : Value) (v : NV) (m : Nat) (d : Int) (k : Nat) (inner : List Value) (e : Ending) (wr : World) : Prop :=
  ∃ (u' : Value) (xs : List (Step w0)), e = .returned u' ∧ proj xs = stepsL m d v.n ∧ wr.ownsRow w0.heap.size 70 9 u' (k + xs.length) (inner ++ stepCells xs) ∧
    W.grownBy wr u.ownBlock ∧ (u'.ownBlock = u.ownBlock ∨ ∃ g, u'.ownBlock = some g ∧ W.heap.size ≤ g)

theorem ownBelow {w0 W W' : World} {u : Value} {k : Nat} {inner : List Value} (ho : W.ownsRow w0.heap.size 70 9 u k inner) (hb : Below w0.heap.size w0 W) (hg : W.grownBy W' u.ownBlock) : Below w0.heap.size w0 W' :=
  ⟨hg.os.trans hb.os, hg.tape.trans hb.tape, hg.output.trans hb.output, Nat.le_trans hb.size hg.size, fun i hi => (hg.block i (Nat.lt_of_lt_of_le hi hb.size) (fun e => by have := (ho.lt i e.symm).1; omega)).trans (hb.block i hi)⟩
theorem newCells (w : World) (cs : List Value) (t : TypeId) (B : Nat) (hB : B = w.heap.size) (j : Nat) (u : Value) (h : cs[j]? = some u) : (w.alloc (.cells cs.toArray t)).cell? (Addr.add ⟨B, 0, none⟩ j) = some u := by
  subst hB
  rw [addNone, cellB (heap_alloc_new w _), Nat.zero_add]
  simpa using h
theorem grownThen {a b c : World} {r : Option Nat} (h : a.grownBy b none) (k : b.grownBy c r) : a.grownBy c r :=
  ⟨k.os.trans h.os, k.tape.trans h.tape, k.output.trans h.output, Nat.le_trans h.size k.size, fun i hi hn => (k.block i (Nat.lt_of_lt_of_le hi h.size) hn).trans (h.block i hi (by simp))⟩
set_option maxRecDepth 100000 in
set_option maxHeartbeats 8000000 in
theorem all_in (w0 : World) : ∀ (m : Nat) (d : Nat), d + m = 1001 → 1 ≤ d → ∀ (v : NV), v.ok w0 → ∀ (W : World) (u : Value) (k : Nat) (inner : List Value), Below w0.heap.size w0 W → W.ownsRow w0.heap.size 70 9 u k inner → k + (stepsL m d v.n).length ≤ 1000000 →
    Calls Try.prog 45 #[u, v.val, .int .i64 (d : Int)] W (AllO w0 W u v m d k inner) := by
  intro m
  induction m with
  | zero =>
    intro d hd hd1 v hv W u k inner hb ho hN
    have dd : decide ((1000 : Int) < (d : Int)) = true := decide_eq_true (by omega)
    have fin : ∀ w', W.grownBy w' none → AllO w0 W u v 0 d k inner (.returned u) w' := by
      intro w' hg
      exact ⟨u, [], rfl, rfl, by simpa [stepCells] using ho.kept hg (by cases u.ownBlock <;> simp), ⟨hg.os, hg.tape, hg.output, hg.size, fun i hi _ => hg.block i hi (by simp)⟩, .inl rfl⟩
    have FIN := Lib.hid fin
    clear fin
    obtain ⟨⟨kd, set, num, nm, mn, mx, lz, subs⟩, A1, c1, A7, c7⟩ := v
    dsimp only [NV.val, NV.cells] at FIN ⊢
    go_enter Try.func45, Try.ntmps45
    go_wp2_with fail
    go_ret
    exact FIN.out _ (World.grownBy_alloc _ _ none)
  | succ m ih =>
    intro d hd hd1 v hv W u k inner hb ho hN
    have e1 : stepsL (m + 1) (d : Int) v.n = ((d : Int), v.n) :: v.n.f7.flatMap (stepsL m ((d : Int) + 1)) := rfl
    have hN1 : k + 1 + (v.n.f7.flatMap (stepsL m ((d : Int) + 1))).length ≤ 1000000 := by rw [e1] at hN; simp only [List.length_cons] at hN; omega
    have dd : decide ((1000 : Int) < (d : Int)) = false := decide_eq_false (by omega)
    obtain ⟨i0, hi, hz0, hz1, hz2⟩ := info_parts try_info70
    obtain ⟨W1, hW1⟩ : ∃ W1, W1 = W.alloc (.cells v.cells.toArray 25) := ⟨_, rfl⟩
    have hB1 : W1.heap[W.heap.size]? = some (.cells v.cells.toArray 25 (0, 0)) := by rw [hW1]; exact heap_alloc_new W _
    have ho1 : W1.ownsRow w0.heap.size 70 9 u k inner := by rw [hW1]; exact ho.alloc _
    have hs1 : W1.heap.size = W.heap.size + 1 := by rw [hW1]; simp
    have hg1 : W.grownBy W1 none := by rw [hW1]; exact World.grownBy_alloc _ _ none
    have hbs := hb.size
    have fin0 : ∀ (u1 : Value) (w1 : World), w1.ownsRow w0.heap.size 70 9 u1 (k + 1) (inner ++ (.int .i64 (d : Int) :: v.cells)) → (W1.alloc (.cells (.int .i64 (d : Int) :: v.cells).toArray 70)).grownBy w1 u.ownBlock → (u1.ownBlock = u.ownBlock ∨ u1.ownBlock = some (W.heap.size + 1 + 1)) → AllI w0 W u v m d k inner u1 (.int .i64 0) w1 := by
      intro u1 w1 h1 h2 h3
      have g1 := grownThen (grownThen hg1 (World.grownBy_alloc W1 (.cells (.int .i64 (d : Int) :: v.cells).toArray 70) none)) h2
      refine ⟨0, [⟨(d : Int), ⟨v, hv⟩⟩], rfl, Nat.zero_le _, by simp [proj], by simpa [stepCells] using h1, g1, ?_, ?_⟩
      · rcases h3 with h3 | h3
        · exact .inl h3
        · exact .inr ⟨_, h3, by omega⟩
      · rw [h2.block W.heap.size (by simp [hs1]; omega) (fun e => by have := (ho.lt _ e.symm).2; omega)]
        exact (Below.heap_alloc _ _ _ (by omega)).trans hB1
    have stepA : ∀ (j : Nat) (hj : j < v.n.f7.length) (vj : NV), vj.ok w0 → vj.n = v.n.f7[j] → ∀ (uv : Value) (wr : World), AllI w0 W u v m d k inner uv (.int .i64 (j : Int)) wr → Calls Try.prog 45 #[uv, vj.val, .int .i64 ((d : Int) + 1)] wr fun e w' => ∃ u', e = .returned u' ∧ AllI w0 W u v m d k inner u' (.int .i64 ((j : Int) + 1)) w' := by
      intro j hj vj hvj hn uv wr hI
      obtain ⟨j', xs, e1', hjl, hp, how, hgr, hat, hbx⟩ := hI
      obtain rfl : j = j' := by injection e1' with _ h; omega
      have htake : v.n.f7.take (j + 1) = v.n.f7.take j ++ [vj.n] := by rw [List.take_succ_eq_append_getElem hj, hn]
      have hlen : (v.n.f7.flatMap (stepsL m ((d : Int) + 1))).length = ((v.n.f7.take j).flatMap (stepsL m ((d : Int) + 1))).length + (stepsL m ((d : Int) + 1) vj.n).length + ((v.n.f7.drop (j + 1)).flatMap (stepsL m ((d : Int) + 1))).length := by
        conv => lhs; rw [← List.take_append_drop (j + 1) v.n.f7, htake]
        simp only [List.flatMap_append, List.length_append, List.flatMap_cons, List.flatMap_nil, List.append_nil]
      have hxl : xs.length = 1 + ((v.n.f7.take j).flatMap (stepsL m ((d : Int) + 1))).length := by
        have := congrArg List.length hp
        simp only [proj, List.length_map, List.length_cons] at this
        omega
      have hbr := ownBelow ho hb hgr
      have := ih (d + 1) (by omega) (by omega) vj hvj wr uv (k + xs.length) (inner ++ stepCells xs) hbr how (by rw [show ((d + 1 : Nat) : Int) = (d : Int) + 1 by simp]; omega)
      rw [show ((d + 1 : Nat) : Int) = (d : Int) + 1 by simp] at this
      refine this.mono ?_
      rintro e w' ⟨u', ys, rfl, hp2, ho2, hg2, hat2⟩
      have hblk : ∀ i, i < W.heap.size + 1 → some i ≠ u.ownBlock → some i ≠ uv.ownBlock := by
        intro i hi hne he
        rcases hat with h | ⟨g, h, hg⟩
        · exact hne (he.trans h)
        · rw [h] at he
          have := Option.some.inj he
          omega
      have hsz := hgr.size
      have hbl := ltB hbx
      refine ⟨u', rfl, j + 1, xs ++ ys, by simp, hj, ?_, ?_, ⟨hg2.os.trans hgr.os, hg2.tape.trans hgr.tape, hg2.output.trans hgr.output, Nat.le_trans hgr.size hg2.size, fun i hi hne => (hg2.block i (by omega) (hblk i (by omega) hne)).trans (hgr.block i hi hne)⟩, ?_, ?_⟩
      · rw [htake, List.flatMap_append]
        simp only [proj, List.map_append] at hp hp2 ⊢
        rw [hp, hp2]
        simp
      · rw [stepCells_app, ← List.append_assoc, List.length_append, ← Nat.add_assoc]
        exact ho2
      · rcases hat2 with h | ⟨g, h, hg⟩
        · rw [h]; exact hat
        · exact .inr ⟨g, h, by omega⟩
      · rw [hg2.block _ hbl (hblk _ (by omega) (fun e => by have := (ho.lt _ e.symm).2; omega))]
        exact hbx
    have finE : ∀ (uv : Value) (wr : World), AllI w0 W u v m d k inner uv (.int .i64 (v.n.f7.length : Int)) wr → AllO w0 W u v (m + 1) d k inner (.returned uv) wr := by
      intro uv wr hI
      obtain ⟨j', xs, e1', hjl, hp, how, hgr, hat, hbx⟩ := hI
      obtain rfl : v.n.f7.length = j' := by injection e1' with _ h; omega
      rw [List.take_length] at hp
      refine ⟨uv, xs, rfl, by rw [hp]; exact e1.symm, how, hgr, ?_⟩
      rcases hat with h | ⟨g, h, hg⟩
      · exact .inl h
      · exact .inr ⟨g, h, by omega⟩
    have hl7 := hv.g7.2.1
    have hl8 := hv.l7
    have FIN0 := Lib.hid fin0
    have SA := Lib.hid stepA
    have FE := Lib.hid finE
    have HV := Lib.hid hv
    have HO := Lib.hid ho
    have wd : IntKind.i64.wrap ((d : Int) + 1) = (d : Int) + 1 := IntWalk.i64_in _ (by omega)
    clear fin0 hv e1 ho stepA finE ih
    obtain ⟨vv, hvv⟩ : ∃ vv, vv = v := ⟨_, rfl⟩
    rw [← hvv] at FIN0 SA FE HV hB1 ⊢
    obtain ⟨⟨kd, set, num, nm, mn, mx, lz, subs⟩, A1, c1, A7, c7⟩ := v
    dsimp only at hl7 hl8
    have eV : vv.val = .agg #[.int .i64 kd, .slice A1 set.length c1, .int .i64 num, .string nm, .int .i64 mn, .int .i64 mx, .bool lz, .slice A7 subs.length c7] := by rw [hvv]; rfl
    have eC : vv.cells = [.int .i64 kd, .slice A1 set.length c1, .int .i64 num, .string nm, .int .i64 mn, .int .i64 mx, .bool lz, .slice A7 subs.length c7] := by rw [hvv]; rfl
    have e7 : vv.n.f7 = subs := by rw [hvv]
    have eA7 : vv.A7 = A7 := by rw [hvv]
    rw [eC] at FIN0 hB1
    try rw [eV]
    replace FIN0 : Hid (∀ (u1 : Value) (w1 : World), w1.ownsRow w0.heap.size 70 9 u1 (k + 1) (inner ++ [.int .i64 (d : Int), .int .i64 kd, .slice A1 set.length c1, .int .i64 num, .string nm, .int .i64 mn, .int .i64 mx, .bool lz, .slice A7 subs.length c7]) → (W1.alloc (.cells #[.int .i64 (d : Int), .int .i64 kd, .slice A1 set.length c1, .int .i64 num, .string nm, .int .i64 mn, .int .i64 mx, .bool lz, .slice A7 subs.length c7] 70)).grownBy w1 u.ownBlock → (u1.ownBlock = u.ownBlock ∨ u1.ownBlock = some (W.heap.size + 1 + 1)) → AllI w0 W u vv m d k inner u1 (.int .i64 0) w1) := FIN0
    try rw [hvv] at hW1
    dsimp only [NV.cells] at hW1
    replace hvv := Lib.hid hvv
    replace eV := Lib.hid eV
    replace eC := Lib.hid eC
    replace e7 := Lib.hid e7
    replace eA7 := Lib.hid eA7
    replace hB1 := Lib.hid hB1
    go_enter Try.func45, Try.ntmps45
    go_wp2_with (rw [← hW1]; at_builtin; refine wpList_append_own_at _ rfl _ _ 61 rfl w0.heap.size 70 i0 _ 9 112 Try.underlying61 hi hz0 hz1 hz2 rfl (by decide) _ _ _ rfl (ho1.alloc _) ⟨W.heap.size + 1, 0, none⟩ 1 1 [.int .i64 (d : Int), .int .i64 kd, .slice A1 set.length c1, .int .i64 num, .string nm, .int .i64 mn, .int .i64 mx, .bool lz, .slice A7 subs.length c7] rfl rfl (newCells _ _ _ _ hs1.symm) (by simp [Value.oneCell']) (by unfold maxLen; omega) (by omega) (by simp [hs1]; omega) ?_; intro u1 w1 hown1 hgrow1 _ hat1; rw [World.size_alloc, hs1] at hat1; have I0 := FIN0.out u1 w1 hown1 hgrow1 hat1)
    replace I0 := Lib.hid I0
    clear FIN0 ho1 hown1 hgrow1 hat1
    go_loopw [0, 7] (fun uv iv wr => AllI w0 W u vv m d k inner uv iv wr) (fun _ iv _ => subs.length - (intOf iv).toNat)
    case atStart => exact I0.out
    case round =>
      have hr2 := hrel
      obtain ⟨j, xs, rfl, hjl, -, -, -, -, hbx⟩ := hr2
      rw [e7.out] at hjl
      rw [eC.out] at hbx
      have z7 := cellB hbx 7
      simp at z7
      have hbl := ltB hbx
      clear hbx
      replace hrel := Lib.hid hrel
      by_cases hlt : j < subs.length
      · have dk : decide ((j : Int) < (subs.length : Int)) = true := decide_eq_true (by omega)
        obtain ⟨b, o, hA7, hbw, vs, hvs, hok, hc⟩ := rowOpen HV.out.g7 (by rw [e7.out]; omega)
        rw [eA7.out] at hA7
        subst hA7
        rw [e7.out] at hvs
        have hvl : vs.length = subs.length := by rw [← hvs]; simp
        have hkv : j < vs.length := by omega
        obtain ⟨vk, hvk⟩ : ∃ vk, vk = vs[j] := ⟨_, rfl⟩
        have hsk : vk.n = vv.n.f7[j]'(by rw [e7.out]; exact hlt) := by
          have : vv.n.f7 = vs.map (·.n) := by rw [e7.out, hvs]
          simp only [this, hvk, List.getElem_map]
        have CC := SA.out j (by rw [e7.out]; exact hlt) vk (by rw [hvk]; exact hok _ (List.getElem_mem hkv)) hsk _ wr hrel.out
        have hcell : ∀ i u, vk.cells[i]? = some u → wr.cell? ⟨b, o + j * 8 + i, none⟩ = some u := by
          intro i u hu
          rw [hvk] at hu
          have hI := hrel.out
          obtain ⟨_, _, _, _, _, _, hgr, _, _⟩ := hI
          exact (World.cell?_of_block ((ownBelow HO.out hb hgr).block b hbw)).trans (hc j hkv i u hu)
        clear hsk hvk hc hok hvs hvl hkv
        obtain ⟨⟨kd', set', num', nm', mn', mx', lz', subs'⟩, A1', c1', A7', c7'⟩ := vk
        dsimp only [NV.val, NV.cells] at hcell CC
        have y0 := hcell 0 _ rfl; have y1 := hcell 1 _ rfl; have y2 := hcell 2 _ rfl; have y3 := hcell 3 _ rfl
        have y4 := hcell 4 _ rfl; have y5 := hcell 5 _ rfl; have y6 := hcell 6 _ rfl; have y7 := hcell 7 _ rfl
        simp only [Nat.add_zero] at y0
        clear hcell
        replace CC := Lib.hid CC
        go_wp2_with (go_at_call 45; refine (CC.out).mono ?_; clear CC; rintro e w' ⟨u', rfl, hI'⟩; replace hI' := Lib.hid hI')
        go_round
        case rel => exact hI'.out
        case measure => simp [intOf]; omega
      · obtain rfl : j = subs.length := by omega
        have dk : decide ((subs.length : Int) < (subs.length : Int)) = false := decide_eq_false (by omega)
        have hE := FE.out _ wr (by rw [e7.out]; exact hrel.out)
        replace hE := Lib.hid hE
        go_wp2_with fail
        go_ret
        exact hE.out

end Go.Proofs.Ytojlhlepneefoaa
/- The document's Check of ranges, Name, Fits as plain functions. -/
namespace Go.Proofs.Ytojlhlepneefoaa
open Go.RowKit PAll Go.Proofs.YtojlhlepneefoaaW.PrintWords Go.Proofs.YtojlhlepneefoaaW.PrintLast Go.Proofs.YtojlhlepneefoaaW.PrintMore
open Go.Shelf
set_option linter.unusedVariables false
set_option linter.unusedSimpArgs false

theorem rchk_l (l : List S103) (hl : l.length ≤ 9223372036854775807) : ∀ (n i k : Nat) (last : Int), l.length - i ≤ n → i ≤ l.length → (i = 0 → last = -2) → (∀ h : i - 1 < l.length, 0 < i → last = l[i-1].f1 ∧ 0 ≤ last) →
    burinref02_Check.l0 (2 * n + k + 1) l (i : Int) = some (chkR last (l.drop i))
  | 0, i, k, last, hn, hi, h0, h1 => by
    rw [show 2 * 0 + k + 1 = k + 1 by omega, burinref02_Check.l0, if_neg (by omega), List.drop_eq_nil_of_le (by omega)]
    rfl
  | n + 1, i, k, last, hn, hi, h0, h1 => by
    by_cases h : i < l.length
    · rw [show 2 * (n + 1) + k + 1 = (2 * n + k + 1) + 1 + 1 by omega, burinref02_Check.l0, if_pos (by omega), if_pos (by omega), rd103 l i h, List.drop_eq_getElem_cons h, chkR]
      have hw : wrap64 ((i : Int) + 1) = ((i + 1 : Nat) : Int) := by unfold wrap64; omega
      have hrec : 0 ≤ l[i].f1 → burinref02_Check.l0 (2 * n + k + 1) l ((i + 1 : Nat) : Int) = some (chkR l[i].f1 (l.drop (i + 1))) := fun h0 => rchk_l l hl n (i + 1) k l[i].f1 (by omega) (by omega) (by omega) (fun h' _ => ⟨by simp, h0⟩)
      have key : burinref02_Check.j1 (2 * n + k + 1 + 1) l (i : Int) true = some 1 := by rw [burinref02_Check.j1, if_pos rfl]
      have key2 : burinref02_Check.j1 (2 * n + k + 1 + 1) l (i : Int) false = if l[i].f0 > l[i].f1 then some 4 else if 0 < i then (if wrap64 (l[i].f0 - 1) ≤ last then some 4 else burinref02_Check.l0 (2 * n + k + 1) l ((i + 1 : Nat) : Int)) else burinref02_Check.l0 (2 * n + k + 1) l ((i + 1 : Nat) : Int) := by
        rw [burinref02_Check.j1, if_neg (by decide), if_pos (by omega), if_pos (by omega), rd103 l i h, hw]
        by_cases hp : 0 < i
        · have e1 : wrap64 ((i : Int) - 1) = ((i - 1 : Nat) : Int) := by unfold wrap64; omega
          rw [if_pos (show (i : Int) > 0 by omega), e1, if_pos (show (0 : Int) ≤ ((i - 1 : Nat) : Int) by omega), if_pos (show ((i - 1 : Nat) : Int) < (l.length : Int) by omega), rd103 l (i - 1) (by omega), ← (h1 (by omega) hp).1, if_pos hp]
        · rw [if_neg (show ¬ (i : Int) > 0 by omega), if_neg hp]
      have hlast : 0 < i → 0 ≤ last := fun hp => (h1 (by omega) hp).2
      generalize hx : l[i].f0 = x at *
      generalize hy : l[i].f1 = y at *
      by_cases c1 : x < 0
      · rw [if_pos c1, if_pos (by omega), key]
      rw [if_neg c1]
      by_cases c3 : y < 0
      · rw [if_pos c3, if_pos (by omega), key]
      rw [if_neg c3]
      by_cases c2 : x > 1114111
      · rw [if_pos c2, if_pos (by omega), key]
      rw [if_neg c2]
      by_cases c4 : y > 1114111
      · rw [if_pos (by omega), decide_eq_true c4, key]
      rw [decide_eq_false c4, key2, if_neg (show ¬ (x < 0 ∨ x > 1114111 ∨ y < 0 ∨ y > 1114111) by omega)]
      by_cases c5 : x > y
      · rw [if_pos c5, if_pos (show x > y ∨ x ≤ last + 1 by omega)]
      rw [if_neg c5]
      have hr := hrec (by omega)
      have hxw : wrap64 (x - 1) = x - 1 := by unfold wrap64; omega
      rw [hr, hxw]
      by_cases hp : 0 < i
      · rw [if_pos hp]
        by_cases c6 : x - 1 ≤ last
        · rw [if_pos c6, if_pos (show x > y ∨ x ≤ last + 1 by omega)]
        · rw [if_neg c6, if_neg (show ¬ (x > y ∨ x ≤ last + 1) by omega)]
      · rw [if_neg hp, if_neg (show ¬ (x > y ∨ x ≤ last + 1) by have := h0 (by omega); omega)]
    · rw [show 2 * (n + 1) + k + 1 = (2 * n + k + 2) + 1 by omega, burinref02_Check.l0, if_neg (by omega), List.drop_eq_nil_of_le (by omega)]
      rfl
theorem rchk_f (l : List S103) (hl : l.length ≤ 9223372036854775807) (k : Nat) (hk : 2 * l.length + 1 ≤ k) : burinref02_Check.f k l = some (chkR (-2) l) := by
  obtain ⟨j, rfl⟩ : ∃ j, k = 2 * l.length + j + 1 := ⟨k - (2 * l.length + 1), by omega⟩
  exact rchk_l l hl l.length 0 j (-2) (by omega) (by omega) (fun _ => rfl) (fun _ h => by omega)
set_option maxRecDepth 100000 in
set_option maxHeartbeats 4000000 in
theorem rlet_f (c : UInt8) : burinref06_letter.f (c.toNat : Int) = some (letB c) := by
  obtain ⟨x, hx⟩ : ∃ x, c.toNat = x := ⟨_, rfl⟩
  unfold burinref06_letter.f letB
  rw [hx]
  have e1 : ((x : Int) == 95) = decide (x = 95) := by
    by_cases h : x = 95
    · subst h; rfl
    · rw [decide_eq_false h, beq_eq_false_iff_ne]; omega
  rw [e1]
  by_cases c1 : 65 ≤ x <;> by_cases c2 : x ≤ 90 <;> by_cases c3 : 97 ≤ x <;> by_cases c4 : x ≤ 122 <;> by_cases c5 : 48 ≤ x <;> by_cases c6 : x ≤ 57 <;>
    simp [c1, c2, c3, c4, c5, c6, show ((x : Int) ≥ 65 ↔ 65 ≤ x) by omega, show ((x : Int) ≤ 90 ↔ x ≤ 90) by omega, show ((x : Int) ≥ 97 ↔ 97 ≤ x) by omega, show ((x : Int) ≤ 122 ↔ x ≤ 122) by omega, show ((x : Int) ≥ 48 ↔ 48 ≤ x) by omega, show ((x : Int) ≤ 57 ↔ x ≤ 57) by omega]
theorem bt_list (s : ByteArray) (i : Nat) (h : i < s.data.toList.length) : bt s (i : Int) = ((s.data.toList[i].toNat : Nat) : Int) := by
  have h2 : i < s.size := h
  unfold bt
  rw [dif_pos (show ((i : Int)).toNat < s.size by rw [Int.toNat_natCast]; exact h2)]
  rfl
theorem rname_l (s : ByteArray) (hs : s.size ≤ 9223372036854775806) : ∀ (n i k : Nat), s.size - i ≤ n → i ≤ s.size →
    burinref06_Name.l0 (n + k + 1) s (i : Int) = some (if ((s.data.toList.drop i).all letB) = true then (decide (1 ≤ s.size) && (decide (s.size ≤ 32) && (!(decide (48 ≤ (s.data.toList.headD 0).toNat) && decide ((s.data.toList.headD 0).toNat ≤ 57))))) else false) := by
  have hsz : s.data.toList.length = s.size := rfl
  intro n
  induction n with
  | zero =>
    intro i k hn hi
    rw [show 0 + k + 1 = k + 1 by omega, burinref06_Name.l0, if_neg (show ¬ (i : Int) < (s.size : Int) by omega), List.drop_eq_nil_of_le (by omega), if_pos (show ([] : List UInt8).all letB = true from rfl)]
    by_cases h1 : 1 ≤ s.size
    · rw [if_pos (show (s.size : Int) ≥ 1 by omega), decide_eq_true h1]
      by_cases h2 : s.size ≤ 32
      · rw [if_pos (show (s.size : Int) ≤ 32 by omega), if_pos (show (0 : Int) < (s.size : Int) by omega), decide_eq_true h2]
        have hb := bt_list s 0 (by omega)
        have hh : s.data.toList.headD 0 = s.data.toList[0] := by
          rw [List.headD_eq_head?_getD, List.head?_eq_getElem?, List.getElem?_eq_getElem (by omega)]; rfl
        rw [show bt s 0 = ((s.data.toList.headD 0).toNat : Int) by rw [hh]; exact hb]
        clear hb hh
        generalize (s.data.toList.headD 0).toNat = x
        by_cases h3 : x < 48
        · rw [if_pos (by omega)]; simp [show ¬ 48 ≤ x by omega]
        · rw [if_neg (by omega)]
          by_cases h4 : x ≤ 57
          · simp [h4, show 48 ≤ x by omega]; omega
          · simp [h4]; omega
      · rw [if_neg (show ¬ (s.size : Int) ≤ 32 by omega), decide_eq_false h2]; simp
    · rw [if_neg (show ¬ (s.size : Int) ≥ 1 by omega), decide_eq_false h1]; simp
  | succ n ih =>
    intro i k hn hi
    by_cases h : i < s.size
    · rw [show n + 1 + k + 1 = (n + k + 1) + 1 by omega, burinref06_Name.l0, if_pos (by omega), if_pos (by omega), bt_list s i (by omega), rlet_f, List.drop_eq_getElem_cons (by omega : i < s.data.toList.length), show wrap64 ((i : Int) + 1) = ((i + 1 : Nat) : Int) by unfold wrap64; omega, Option.bind_some, ih (i + 1) k (by omega) (by omega)]
      obtain ⟨c, hc⟩ : ∃ c, c = s.data.toList[i]'(by omega) := ⟨_, rfl⟩
      rw [← hc]
      cases hq : letB c <;> simp [hq, List.all_cons]
    · obtain rfl : i = s.size := by omega
      have := ih s.size (k + 1) (by omega) (by omega)
      rw [show n + (k + 1) + 1 = n + 1 + k + 1 by omega] at this
      exact this
theorem rname_f (s : ByteArray) (hs : s.size ≤ 9223372036854775806) (k : Nat) (hk : s.size + 1 ≤ k) : burinref06_Name.f k s = some (nameB s.data.toList) := by
  obtain ⟨j, rfl⟩ : ∃ j, k = s.size + j + 1 := ⟨k - (s.size + 1), by omega⟩
  have hsz : s.data.toList.length = s.size := rfl
  have := rname_l s hs s.size 0 j (by omega) (by omega)
  rw [show ((0 : Nat) : Int) = 0 from rfl] at this
  unfold burinref06_Name.f
  rw [this]
  unfold nameB
  rw [hsz, List.drop_zero]
  cases s.data.toList.all letB <;> simp
set_option maxHeartbeats 4000000 in
theorem rfits_f (n : S25) (hs : n.f3.size ≤ 9223372036854775806) (hl : n.f1.length ≤ 9223372036854775807) (k : Nat) (hk : 2 * n.f1.length + n.f3.size + 6 ≤ k) : burinref06_Fits.f k n.f0 n.f1 n.f2 n.f3 n.f4 n.f5 n.f6 n.f7 = some (fitsV n) := by
  obtain ⟨kd, set, num, nm, mn, mx, lz, subs⟩ := n
  dsimp only at *
  obtain ⟨k, rfl⟩ : ∃ j, k = j + 3 := ⟨k - 3, by omega⟩
  have hc := rchk_f set hl (k + 1) (by omega)
  have hn := rname_f nm hs (k + 1) (by omega)
  have e3 : (nm.toList == ([] : List UInt8)) = emptyS nm := by unfold emptyS; cases nm.toList <;> rfl
  have e1 : ((set.length : Int) == 0) = decide (set.length = 0) := by rw [Bool.eq_iff_iff]; simp
  have e2 : (num == 0) = decide (num = 0) := by rw [Bool.eq_iff_iff]; simp
  have e5 : (mx == 0) = decide (mx = 0) := by rw [Bool.eq_iff_iff]; simp
  have e7 : ((subs.length : Int) == 0) = decide (subs.length = 0) := by rw [Bool.eq_iff_iff]; simp
  have e71 : ((subs.length : Int) == 1) = decide (subs.length = 1) := by rw [Bool.eq_iff_iff]; simp; omega
  have e72 : decide ((subs.length : Int) ≥ 2) = decide (2 ≤ subs.length) := by rw [Bool.eq_iff_iff]; simp; omega
  have b0 : emptyS ⟨#[]⟩ = true := by simp [emptyS, ByteArray.toList_eq]
  have key : burinref06_Fits.f (k + 3) kd set num nm mn mx lz subs = burinref06_Fits.j0 (k + 3) (decide (set.length = 0)) (decide (num = 0)) (emptyS nm) (decide (mn = 0) && decide (mx = 0)) (!lz) (subs.length : Int) kd set num nm mn mx lz subs := by
    unfold burinref06_Fits.f
    rw [e1, e2, e3, e5]
    by_cases h : mn = 0
    · rw [if_pos h, decide_eq_true h, Bool.true_and]
    · rw [if_neg h, decide_eq_false h, Bool.false_and]
  rw [key]
  generalize ha : decide (set.length = 0) = A
  have hA : (set = []) ↔ A = true := by rw [← ha]; simp
  unfold fitsV fitsN bareB
  dsimp only
  rw [ha]
  by_cases k1 : kd = 1
  · subst k1
    simp only [burinref06_Fits.j0, burinref06_Fits.j1, e7]
    cases A <;> cases decide (num = 0) <;> cases emptyS nm <;> cases decide (mn = 0) <;> cases decide (mx = 0) <;> cases lz <;> simp
  by_cases k2 : kd = 2
  · subst k2
    simp only [burinref06_Fits.j0, burinref06_Fits.j1, e7]
    cases A <;> cases decide (num = 0) <;> cases emptyS nm <;> cases decide (mn = 0) <;> cases decide (mx = 0) <;> cases lz <;> simp
  by_cases k4 : kd = 4
  · subst k4
    simp only [burinref06_Fits.j0, burinref06_Fits.j1, e7]
    cases A <;> cases decide (num = 0) <;> cases emptyS nm <;> cases decide (mn = 0) <;> cases decide (mx = 0) <;> cases lz <;> simp
  by_cases k3 : kd = 3
  · subst k3
    simp only [burinref06_Fits.j0, burinref06_Fits.j1, e7, hc, Option.bind_some]
    by_cases hr : chkR (-2) set = 0 <;> cases A <;> cases decide (num = 0) <;> cases emptyS nm <;> cases decide (mn = 0) <;> cases decide (mx = 0) <;> cases lz <;> simp [hr]
  by_cases k5 : kd = 5
  · subst k5
    simp only [burinref06_Fits.j0, burinref06_Fits.j1, e7]
    by_cases h1 : 1 ≤ num <;> by_cases h2 : num ≤ 6 <;> cases A <;> cases emptyS nm <;> cases decide (mn = 0) <;> cases decide (mx = 0) <;> cases lz <;> simp [h1, h2]
  by_cases k6 : kd = 6
  · subst k6
    simp only [burinref06_Fits.j0, burinref06_Fits.j1, e71, hn, Option.bind_some, b0]
    by_cases h1 : 1 ≤ num <;> cases nameB nm.data.toList <;> cases A <;> cases emptyS nm <;> cases decide (mn = 0) <;> cases decide (mx = 0) <;> cases lz <;> simp [h1]
  by_cases k7 : kd = 7
  · subst k7
    simp only [burinref06_Fits.j0, burinref06_Fits.j1, burinref06_Fits.j2, e72]
    cases A <;> cases decide (num = 0) <;> cases emptyS nm <;> cases decide (mn = 0) <;> cases decide (mx = 0) <;> cases lz <;> simp
  by_cases k8 : kd = 8
  · subst k8
    simp only [burinref06_Fits.j0, burinref06_Fits.j1, burinref06_Fits.j2, e72]
    cases A <;> cases decide (num = 0) <;> cases emptyS nm <;> cases decide (mn = 0) <;> cases decide (mx = 0) <;> cases lz <;> simp
  by_cases k9 : kd = 9
  · subst k9
    simp only [burinref06_Fits.j0, burinref06_Fits.j1, burinref06_Fits.j2, e71]
    by_cases h1 : 0 ≤ mn <;> by_cases h2 : mn ≤ 1000 <;> by_cases h3 : mx = -1 <;> by_cases h4 : mn ≤ mx <;> by_cases h5 : mx ≤ 1000 <;> cases A <;> cases decide (num = 0) <;> cases emptyS nm <;> simp [h1, h2, h3, h4, h5]
  · simp only [burinref06_Fits.j0, burinref06_Fits.j1, burinref06_Fits.j2]
    simp [k1, k2, k3, k4, k5, k6, k7, k8, k9]
theorem rfits_calls (v : NV) (w : World) (h : v.ok w) (hs : v.n.f3.size ≤ 9223372036854775806) : Calls Try.prog 77 #[v.val] w fun e w' => e = .returned (.bool (fitsV v.n)) ∧ Kp [] w w' :=
  (burinref06_Fits.calls (2 * v.n.f1.length + v.n.f3.size + 6) v.n.f0 v.A1 v.c1 v.n.f1 v.n.f2 v.n.f3 v.n.f4 v.n.f5 v.n.f6 v.A7 v.c7 v.n.f7 _ w h.g1 h.l1 h.g7 h.l7 (rfits_f v.n hs h.g1.2.1 _ (Nat.le_refl _))).mono fun e w' ⟨he, hb⟩ => ⟨he, Kp.ofBelow hb⟩
theorem rname_calls (s : ByteArray) (hs : s.size ≤ 9223372036854775806) (w : World) : Calls Try.prog 35 #[.string s] w fun e w' => e = .returned (.bool (nameB s.data.toList)) ∧ Kp [] w w' :=
  (burinref06_Name.calls (s.size + 1) s _ w (rname_f s hs _ (Nat.le_refl _))).mono fun e w' ⟨he, hb⟩ => ⟨he, Kp.ofDrawn hb⟩
theorem all_calls (v : NV) (w : World) (hv : v.ok w) (hN : (stepsL 1000 1 v.n).length ≤ 1000000) : Calls Try.prog 45 #[.slice none 0 0, v.val, .int .i64 1] w fun e w' => ∃ (u' : Value) (xs : List (Step w)), e = .returned u' ∧ proj xs = stepsL 1000 1 v.n ∧ w'.ownsRow w.heap.size 70 9 u' xs.length (stepCells xs) ∧ Kp [] w w' := by
  refine (all_in w 1000 1 (by omega) (by omega) v hv w (.slice none 0 0) 0 [] (Below.refl _ _) (World.ownsRow_nil _ _ _ _) (by simpa using hN)).mono ?_
  rintro e w' ⟨u', xs, rfl, hp, ho, hg, _⟩
  exact ⟨u', xs, rfl, hp, by simpa using ho, ⟨hg.os, hg.tape, hg.output, hg.size, fun i hi _ => hg.block i hi (by simp [Value.ownBlock])⟩⟩

end Go.Proofs.Ytojlhlepneefoaa
/- The document's Check of trees, walked. -/
namespace Go.Proofs.Ytojlhlepneefoaa
open Go.RowKit PAll Go.Proofs.YtojlhlepneefoaaW.PrintWords Go.Proofs.YtojlhlepneefoaaW.PrintLast Go.Proofs.YtojlhlepneefoaaW.PrintMore
open Go.Shelf
set_option linter.unusedVariables false
set_option linter.unusedSimpArgs false

theorem try_info9' : (Try.prog.info? 9).map (fun i => (i.zero, i.size, i.bytes)) = some (some (.string .empty), 1, 16) := by kernel_rfl
theorem thin_steps : ∀ (d : Nat) (n : S25), Thin d n → ∀ (m : Nat) (e : Int), ∀ x ∈ stepsL m e n, x.2.f3.size ≤ 100
  | 0, _, h, _, _, _, _ => h.elim
  | d + 1, n, h, 0, e, x, hx => by cases hx
  | d + 1, n, h, m + 1, e, x, hx => by
    simp only [stepsL, List.mem_cons, List.mem_flatMap] at hx
    rcases hx with rfl | ⟨y, hy, hx⟩
    · exact h.2.2.2
    · exact thin_steps d y (h.2.1 y hy) m (e + 1) x hx
theorem rdepth_calls {d : Nat} (v : NV) (w : World) (hv : v.ok w) (ht : Thin d v.n) : Calls Try.prog 46 #[v.val, .int .i64 1001] w fun e w' => e = .returned (.int .i64 (depthP 1001 v.n)) ∧ Kp [] w w' := by
  obtain ⟨K, hK⟩ := rdepth_f d v.n ht 1001 (by omega)
  exact (burinref06_Depth.calls K v.n.f0 v.A1 v.c1 v.n.f1 v.n.f2 v.n.f3 v.n.f4 v.n.f5 v.n.f6 v.A7 v.c7 v.n.f7 1001 _ w hv.g1 hv.l1 hv.g7 hv.l7 (hK K (Nat.le_refl _))).mono fun e w' ⟨h, hb⟩ => ⟨h, Kp.ofBelow hb⟩
theorem stepCell {w : World} : ∀ (xs : List (Step w)) (j : Nat) (hj : j < xs.length) (i : Nat) (u : Value), (.int .i64 xs[j].1 :: xs[j].2.1.cells)[i]? = some u → (stepCells xs)[j * 9 + i]? = some u
  | [], j, hj, _, _, _ => by simp at hj
  | x :: xs, 0, hj, i, u, h => by
    have hi : i < 9 := (List.getElem?_eq_some_iff.1 h).1
    show (((Value.int .i64 x.1 :: x.2.1.cells) ++ stepCells xs))[0 * 9 + i]? = some u
    rw [Nat.zero_mul, Nat.zero_add, List.getElem?_append_left (by simpa [cells_len8] using hi)]
    exact h
  | x :: xs, j + 1, hj, i, u, h => by
    show (((Value.int .i64 x.1 :: x.2.1.cells) ++ stepCells xs))[(j + 1) * 9 + i]? = some u
    rw [List.getElem?_append_right (by simp [cells_len8]; omega), show (j + 1) * 9 + i - (Value.int .i64 x.1 :: x.2.1.cells).length = j * 9 + i by simp [cells_len8]; omega]
    exact stepCell xs j (by simpa using hj) i u h
theorem chk_small : ∀ (xs : List (Int × S25)) (ns ns' : List ByteArray), ns.length ≤ 31 → xs.foldl chkStep (.ok ns) = .ok ns' → ns'.length ≤ 31
  | [], ns, ns', h, e => by simp at e; subst e; exact h
  | x :: xs, ns, ns', h, e => by
    rw [List.foldl_cons] at e
    cases hc : chkStep (.ok ns) x with
    | error c => rw [hc, chk_err] at e; cases e
    | ok ns2 =>
      rw [hc] at e
      refine chk_small xs ns2 ns' ?_ e
      unfold chkStep at hc
      dsimp only at hc
      split at hc
      · cases hc
      split at hc
      · cases hc; exact h
      split at hc
      · cases hc
      split at hc
      · cases hc
      split at hc
      · cases hc
      · cases hc; simp; omega
theorem rowKp {w w' : World} {b e z : Nat} {v : Value} {n : Nat} {xs : List Value} (h : w.ownsRow b e z v n xs) (k : Kp [] w w') : w'.ownsRow b e z v n xs :=
  h.kept (row := none) ⟨k.os, k.tape, k.output, k.size, fun i hi _ => k.block i hi (by simp)⟩ (by cases v.ownBlock <;> simp)
theorem rowForm {w : World} {b e z : Nat} {v : Value} {n : Nat} {xs : List Value} (h : w.ownsRow b e z v n xs) : ∃ A c, v = .slice A n c ∧ (0 < n → ∃ g, A = some ⟨g, 0, none⟩) := by
  rcases h.2 with ⟨rfl, rfl⟩ | ⟨g, cap, cur, rfl, _⟩
  · exact ⟨none, 0, rfl, fun h => by omega⟩
  · exact ⟨_, cap, rfl, fun _ => ⟨g, rfl⟩⟩
theorem strT {a b : ByteArray} (h : a = b) : (a.toList == b.toList) = true := by subst h; simp
theorem strF {a b : ByteArray} (h : ¬ a = b) : (a.toList == b.toList) = false := by
  rw [beq_eq_false_iff_ne]
  exact fun e => h (bytes_inj (by rw [ByteArray.toList_eq, ByteArray.toList_eq] at e; exact e))
theorem empF {a : ByteArray} (h : ¬ emptyS a = true) : a.toList.isEmpty = false ∧ (a.toList == []) = false := by
  unfold emptyS at h
  have e : a.toList.isEmpty = false := by simpa using h
  exact ⟨e, by cases hl : a.toList with | nil => rw [hl] at e; cases e | cons x l => rfl⟩
theorem belowGrown {W2 wr w1 : World} {B : Nat} {o : Obj} {r : Option Nat} (h : Below B W2 wr) (hB : B ≤ W2.heap.size) (hg : (wr.alloc o).grownBy w1 r) (hr : ∀ k, r = some k → B ≤ k) : Below B W2 w1 :=
  ⟨hg.os.trans h.os, hg.tape.trans h.tape, hg.output.trans h.output, Nat.le_trans h.size (Nat.le_trans (by simp) hg.size), fun i hi => (hg.block i (by have := h.size; simp; omega) (fun e => by have := hr i e.symm; omega)).trans ((Below.heap_alloc _ _ _ (by have := h.size; omega)).trans (h.block i hi))⟩
theorem d31T {n1 : Int} {k : Nat} (h : n1 = (k : Int) + 1) (e : k = 31) : decide ((31 : Int) < n1) = true := decide_eq_true (by omega)
theorem d31F {n1 : Int} {k : Nat} (h : n1 = (k : Int) + 1) (e : k ≤ 31) (f : ¬ k = 31) : decide ((31 : Int) < n1) = false := decide_eq_false (by omega)
theorem wr31 {n1 : Int} {k : Nat} (h : n1 = (k : Int) + 1) (e : k ≤ 31) : IntKind.i64.wrap ((k : Int) + 1) = n1 ∧ wrap64 ((k : Int) + 1) = n1 := by
  subst h
  exact ⟨IntWalk.i64_in _ (by omega), by unfold wrap64; omega⟩
def CkI (W2 : World) (ss : List (Int × S25)) (uv iv : Value) (wr : World) : Prop := ∃ (j : Nat) (ns : List ByteArray), iv = .int .i64 j ∧ j ≤ ss.length ∧ chkL (ss.take j) = .ok ns ∧ ns.length ≤ 31 ∧ wr.ownsRow W2.heap.size 9 1 uv ns.length (ns.map .string) ∧ Below W2.heap.size W2 wr
set_option maxRecDepth 100000 in
set_option maxHeartbeats 8000000 in
theorem rcheck_calls {d : Nat} (v : NV) (w : World) (hv : v.ok w) (ht : Thin d v.n) (hN : (stepsL 1000 1 v.n).length ≤ 1000000) : Calls Try.prog 33 #[v.val] w fun e w' => e = .returned (.int .i64 (checkV v.n)) ∧ Kp [] w w' := by
  obtain ⟨i0, hi, hz0, hz1, hz2⟩ := info_parts try_info9'
  obtain ⟨W1, hW1⟩ : ∃ W1, W1 = w.alloc (.cells v.cells.toArray 25) := ⟨_, rfl⟩
  have k1 : Kp [] w W1 := by rw [hW1]; exact (Kp.refl [] w).alloc _
  have hB1 : W1.heap[w.heap.size]? = some (.cells v.cells.toArray 25 (0, 0)) := by rw [hW1]; exact new_at _ _ _ rfl
  have hv1 := hv.kp k1
  have C46 := Lib.hid (rdepth_calls v W1 hv1 ht)
  have C45 := Lib.hid (fun W (k : Kp [] W1 W) => all_calls v W (hv1.kp k) hN)
  have hthin := thin_steps d v.n ht 1000 1
  have hpos : 0 < (stepsL 1000 1 v.n).length := by simp [stepsL]
  obtain ⟨ss, hss⟩ : ∃ ss, ss = stepsL 1000 1 v.n := ⟨_, rfl⟩
  have hck : checkV v.n = if depthP 1001 v.n > 1000 then 61 else chkOut (chkL ss) := by rw [hss]; rfl
  rw [hck]
  rw [← hss] at hN hthin hpos
  simp only [← hss] at C45
  obtain ⟨DN, hDN⟩ : ∃ DN, DN = depthP 1001 v.n := ⟨_, rfl⟩
  rw [← hDN] at C46 ⊢
  replace hDN := Lib.hid hDN
  replace hss := Lib.hid hss
  replace hthin := Lib.hid hthin
  clear hck ht hv hv1
  obtain ⟨⟨kd, set, num, nm, mn, mx, lz, subs⟩, A1, c1, A7, c7⟩ := v
  dsimp only [NV.val, NV.cells] at hW1 hB1 C46 C45 ⊢
  have z0 : W1.cell? ⟨w.heap.size, 0, none⟩ = some (.int .i64 kd) := cellB hB1 0
  have z1 : W1.cell? ⟨w.heap.size, 1, none⟩ = some (.slice A1 set.length c1) := cellB hB1 1
  have z2 : W1.cell? ⟨w.heap.size, 2, none⟩ = some (.int .i64 num) := cellB hB1 2
  have z3 : W1.cell? ⟨w.heap.size, 3, none⟩ = some (.string nm) := cellB hB1 3
  have z4 : W1.cell? ⟨w.heap.size, 4, none⟩ = some (.int .i64 mn) := cellB hB1 4
  have z5 : W1.cell? ⟨w.heap.size, 5, none⟩ = some (.int .i64 mx) := cellB hB1 5
  have z6 : W1.cell? ⟨w.heap.size, 6, none⟩ = some (.bool lz) := cellB hB1 6
  have z7 : W1.cell? ⟨w.heap.size, 7, none⟩ = some (.slice A7 subs.length c7) := cellB hB1 7
  by_cases hd1 : DN > 1000
  · rw [if_pos hd1]
    have d1 : decide ((1000 : Int) < DN) = true := decide_eq_true hd1
    go_enter Try.func33, Try.ntmps33
    go_wp2_with (rw [← hW1]; go_at_call 46; refine (C46.out).mono ?_; clear C46; rintro e w4 ⟨rfl, kk⟩)
    go_ret
    exact ⟨rfl, k1.trans kk⟩
  · rw [if_neg hd1]
    have d1 : decide ((1000 : Int) < DN) = false := decide_eq_false hd1
    go_enter Try.func33, Try.ntmps33
    go_wp2_with (first | (rw [← hW1]; go_at_call 46; refine (C46.out).mono ?_; clear C46; rintro e w4 ⟨rfl, kk⟩; have y0 : w4.cell? ⟨w.heap.size, 0, none⟩ = some (.int .i64 kd) := cellB (kblk kk hB1) 0; have y1 : w4.cell? ⟨w.heap.size, 1, none⟩ = some (.slice A1 set.length c1) := cellB (kblk kk hB1) 1; have y2 : w4.cell? ⟨w.heap.size, 2, none⟩ = some (.int .i64 num) := cellB (kblk kk hB1) 2; have y3 : w4.cell? ⟨w.heap.size, 3, none⟩ = some (.string nm) := cellB (kblk kk hB1) 3; have y4 : w4.cell? ⟨w.heap.size, 4, none⟩ = some (.int .i64 mn) := cellB (kblk kk hB1) 4; have y5 : w4.cell? ⟨w.heap.size, 5, none⟩ = some (.int .i64 mx) := cellB (kblk kk hB1) 5; have y6 : w4.cell? ⟨w.heap.size, 6, none⟩ = some (.bool lz) := cellB (kblk kk hB1) 6; have y7 : w4.cell? ⟨w.heap.size, 7, none⟩ = some (.slice A7 subs.length c7) := cellB (kblk kk hB1) 7) | (go_at_call 45; refine (C45.out _ kk).mono ?_; clear C45; rintro e W2 ⟨u2, xs, rfl, hp, ho, k2⟩))
    have hxl : xs.length = ss.length := by have := congrArg List.length hp; simpa [proj] using this
    obtain ⟨g, cap, rfl⟩ : ∃ g cap, u2 = .slice (some ⟨g, 0, none⟩) xs.length cap := by
      obtain ⟨A, c, h1, h2⟩ := rowForm ho
      obtain ⟨g, rfl⟩ := h2 (by omega)
      exact ⟨g, c, h1⟩
    have hcell : ∀ j (hj : j < xs.length) i u, (.int .i64 xs[j].1 :: xs[j].2.1.cells)[i]? = some u → W2.cell? ⟨g, j * 9 + i, none⟩ = some u := by
      intro j hj i u hu
      have hi : i < 9 := (List.getElem?_eq_some_iff.1 hu).1
      rw [ho.cellAt (j * 9 + i) (by omega)]
      exact stepCell xs j hj i u hu
    have hglt : g < W2.heap.size := (ho.lt g rfl).2
    have hsg : ∀ j (hj : j < xs.length), ss[j]'(by omega) = (xs[j].1, xs[j].2.1.n) := by
      intro j hj
      have : ss = proj xs := hp.symm
      subst this
      simp [proj]
    have HC := Lib.hid hcell
    have HS := Lib.hid hsg
    have hml : xs.length ≤ 1000000 := by omega
    rw [hxl] at *
    clear hcell hsg ho hp z0 z1 z2 z3 z4 z5 z6 z7 y0 y1 y2 y3 y4 y5 y6 y7
    go_loopw [4, 5] (fun uv iv wr => CkI W2 ss uv iv wr) (fun _ iv _ => ss.length - (intOf iv).toNat)
    case atStart => exact ⟨0, [], rfl, by omega, by simp [chkL], by simp, World.ownsRow_nil _ _ _ _, Below.refl _ _⟩
    case round =>
      obtain ⟨j, ns, rfl, hj, hck, hns, how, hb⟩ := hrel
      by_cases hlt : j < ss.length
      · have dk : decide ((j : Int) < (ss.length : Int)) = true := decide_eq_true (by omega)
        obtain ⟨x, hx⟩ : ∃ x, x = xs[j]'(by omega) := ⟨_, rfl⟩
        have hsx : ss[j] = (x.1, x.2.1.n) := by rw [hx]; exact HS.out j (by omega)
        have hstep : chkL (ss.take (j + 1)) = chkStep (.ok ns) (x.1, x.2.1.n) := by
          rw [List.take_succ_eq_append_getElem hlt, chkL_snoc, hck, hsx]
        have herr : ∀ c, chkStep (.ok ns) (x.1, x.2.1.n) = .error c → chkOut (chkL ss) = c := by
          intro c h
          rw [chkL_pre (hstep.trans h) (List.take_prefix _ _)]
          rfl
        have hsize : x.2.1.n.f3.size ≤ 100 := by
          have := hthin.out ss[j] (List.getElem_mem hlt)
          rw [hsx] at this
          exact this
        have hck2 : ns.length ≤ 31 := hns
        obtain ⟨W3, hW3⟩ : ∃ W3, W3 = wr.alloc (.cells x.2.1.cells.toArray 25) := ⟨_, rfl⟩
        have k3 : Kp [] wr W3 := by rw [hW3]; exact (Kp.refl [] wr).alloc _
        have hbx : W3.heap[wr.heap.size]? = some (.cells x.2.1.cells.toArray 25 (0, 0)) := by rw [hW3]; exact new_at _ _ _ rfl
        have hokx := ((x.2.2.kp (k2.trans (Kp.ofBelow hb))).kp k3)
        have C77 := Lib.hid (rfits_calls x.2.1 W3 hokx (by omega))
        have hcell : ∀ i u, x.2.1.cells[i]? = some u → wr.cell? ⟨g, j * 9 + 1 + i, none⟩ = some u := by
          intro i u hu
          rw [show j * 9 + 1 + i = j * 9 + (i + 1) by omega, World.cell?_of_block (hb.block g hglt)]
          exact HC.out j (by omega) (i + 1) u (by rw [← hx]; exact hu)
        have HSTEP := Lib.hid hstep
        have HERR := Lib.hid herr
        have hlx := hokx.g1.2.1
        replace hck := Lib.hid hck
        replace hW3 := Lib.hid hW3
        clear hstep herr hsx hx hokx hck2
        obtain ⟨dp, ⟨⟨⟨kd', set', num', nm', mn', mx', lz', subs'⟩, A1', c1', A7', c7'⟩, hvx⟩⟩ := x
        dsimp only [NV.val, NV.cells] at hcell C77 hbx hW3 HSTEP HERR hsize
        have hA := hW3.out
        have y0 := hcell 0 _ rfl; have y1 := hcell 1 _ rfl; have y2 := hcell 2 _ rfl; have y3 := hcell 3 _ rfl
        have y4 := hcell 4 _ rfl; have y5 := hcell 5 _ rfl; have y6 := hcell 6 _ rfl; have y7 := hcell 7 _ rfl
        have x0 : W3.cell? ⟨wr.heap.size, 0, none⟩ = some (.int .i64 kd') := cellB hbx 0
        have x1 : W3.cell? ⟨wr.heap.size, 1, none⟩ = some (.slice A1' set'.length c1') := cellB hbx 1
        have x2 : W3.cell? ⟨wr.heap.size, 2, none⟩ = some (.int .i64 num') := cellB hbx 2
        have x3 : W3.cell? ⟨wr.heap.size, 3, none⟩ = some (.string nm') := cellB hbx 3
        have x4 : W3.cell? ⟨wr.heap.size, 4, none⟩ = some (.int .i64 mn') := cellB hbx 4
        have x5 : W3.cell? ⟨wr.heap.size, 5, none⟩ = some (.int .i64 mx') := cellB hbx 5
        have x6 : W3.cell? ⟨wr.heap.size, 6, none⟩ = some (.bool lz') := cellB hbx 6
        have x7 : W3.cell? ⟨wr.heap.size, 7, none⟩ = some (.slice A7' subs'.length c7') := cellB hbx 7
        simp only [Nat.add_zero] at y0
        clear hcell
        have hgw : g < wr.heap.size := Nat.lt_of_lt_of_le hglt hb.size
        have hup := hb.trans (Kp.bel k3 |>.mono hb.size)
        replace hbx := Lib.hid hbx
        have fitsF : fitsV ⟨kd', set', num', nm', mn', mx', lz', subs'⟩ = false → chkOut (chkL ss) = 60 := fun h => HERR.out 60 (chk_no h)
        by_cases hf : fitsV ⟨kd', set', num', nm', mn', mx', lz', subs'⟩ = false
        · rw [hf] at C77
          have E := Lib.hid (fitsF hf)
          clear fitsF hf
          go_wp2_with (first | (rw [← hA]; go_at_call 77; refine (C77.out).mono ?_; clear C77; rintro e w5 ⟨rfl, k5⟩))
          go_ret
          exact ⟨by rw [E.out]; rfl, (((k1.trans kk).trans k2).trans (Kp.ofBelow hb)).trans (k3.trans k5)⟩
        · replace hf : fitsV ⟨kd', set', num', nm', mn', mx', lz', subs'⟩ = true := by simpa using hf
          rw [hf] at C77
          clear fitsF
          have hrel2 : ∀ (w5 : World) (ns2 : List ByteArray) (u2 : Value), chkStep (.ok ns) (dp, (⟨kd', set', num', nm', mn', mx', lz', subs'⟩ : S25)) = .ok ns2 → w5.ownsRow W2.heap.size 9 1 u2 ns2.length (ns2.map .string) → Below W2.heap.size W2 w5 → CkI W2 ss u2 (.int .i64 ((j : Int) + 1)) w5 := by
            intro w5 ns2 u2 h1 h2 h3
            have hst := HSTEP.out.trans h1
            exact ⟨j + 1, ns2, by simp, hlt, hst, chk_small (ss.take (j + 1)) [] ns2 (by simp) hst, h2, h3⟩
          have REL := Lib.hid hrel2
          have skip := fun h => chk_skip (ns := ns) (x := (dp, (⟨kd', set', num', nm', mn', mx', lz', subs'⟩ : S25))) hf h
          have numE := fun h6 h => chk_num (ns := ns) (x := (dp, (⟨kd', set', num', nm', mn', mx', lz', subs'⟩ : S25))) hf h6 h
          have longE := fun h6 h h2 => chk_long (ns := ns) (x := (dp, (⟨kd', set', num', nm', mn', mx', lz', subs'⟩ : S25))) hf h6 h h2
          have twiceE := fun h6 h h2 h3 h4 => chk_twice (ns := ns) (x := (dp, (⟨kd', set', num', nm', mn', mx', lz', subs'⟩ : S25))) hf h6 h h2 h3 h4
          have fineE := fun h6 h h2 h3 => chk_fine (ns := ns) (x := (dp, (⟨kd', set', num', nm', mn', mx', lz', subs'⟩ : S25))) hf h6 h h2 h3
          dsimp only at skip numE longE twiceE fineE
          have SK := Lib.hid skip; have NE := Lib.hid numE; have LE := Lib.hid longE; have TE := Lib.hid twiceE; have FE := Lib.hid fineE
          clear hrel2 skip numE longE twiceE fineE hf
          obtain ⟨n1, hn1⟩ : ∃ n1, n1 = (ns.length : Int) + 1 := ⟨_, rfl⟩
          have hwn := (wr31 hn1 hns).1
          replace hn1 := Lib.hid hn1
          clear hlx
          obtain ⟨An, cn, rfl, hAn⟩ := rowForm how
          have KF : Kp [] w wr := ((k1.trans kk).trans k2).trans (Kp.ofBelow hb)
          replace KF := Lib.hid KF
          replace HOW := Lib.hid how
          clear how
          by_cases h6 : kd' = 6
          · subst h6
            by_cases hnum : num' = n1
            · subst num'
              by_cases h31 : ns.length = 31
              · have d31 := d31T hn1.out h31
                have E := Lib.hid (HERR.out _ (LE.out (by trivial) hn1.out h31))
                replace h31 := Lib.hid h31
                go_wp2_with (first | (rw [← hA]; go_at_call 77; refine (C77.out).mono ?_; clear C77; rintro e w5 ⟨rfl, k5⟩; have y0 : w5.cell? ⟨wr.heap.size, 0, none⟩ = some (.int .i64 6) := cellB (kblk k5 hbx.out) 0; have y2 : w5.cell? ⟨wr.heap.size, 2, none⟩ = some (.int .i64 n1) := cellB (kblk k5 hbx.out) 2; have y3 : w5.cell? ⟨wr.heap.size, 3, none⟩ = some (.string nm') := cellB (kblk k5 hbx.out) 3))
                go_ret
                exact ⟨by rw [E.out]; rfl, KF.out.trans (k3.trans k5)⟩
              · have d31 := d31F hn1.out hns h31
                replace h31 := Lib.hid h31
                go_wp2_with (first | (rw [← hA]; go_at_call 77; refine (C77.out).mono ?_; clear C77; rintro e w5 ⟨rfl, k5⟩; have y0 : w5.cell? ⟨wr.heap.size, 0, none⟩ = some (.int .i64 6) := cellB (kblk k5 hbx.out) 0; have y2 : w5.cell? ⟨wr.heap.size, 2, none⟩ = some (.int .i64 n1) := cellB (kblk k5 hbx.out) 2; have y3 : w5.cell? ⟨wr.heap.size, 3, none⟩ = some (.string nm') := cellB (kblk k5 hbx.out) 3))
                have HO5 := Lib.hid (rowKp (rowKp HOW.out k3) k5)
                have hB5 := Lib.hid (hb.trans ((k3.trans k5).bel.mono hb.size))
                have hb5 := ltB (kblk k5 hbx.out)
                go_loopw [7] (fun kv wq => Aside0 (Kp [] w5 wq) ∧ ∃ q : Nat, kv = .int .i64 q ∧ q ≤ ns.length ∧ Aside0 (∀ i (h : i < ns.length), i < q → ¬ (ns[i] = nm' ∧ emptyS nm' = false))) (fun kv _ => ns.length - (intOf kv).toNat)
                case atStart => exact ⟨⟨Kp.refl _ _⟩, 0, rfl, by omega, ⟨fun i _ h => absurd h (by omega)⟩⟩
                case round =>
                  obtain ⟨HK, q, rfl, hq, HQ⟩ := hrel
                  have yn := kcell HK.out y3
                  have HO6 := Lib.hid (rowKp HO5.out HK.out)
                  have hb6 := Nat.lt_of_lt_of_le hb5 HK.out.size
                  by_cases hql : q < ns.length
                  · have dq : decide ((q : Int) < (ns.length : Int)) = true := decide_eq_true (by omega)
                    obtain ⟨gn, rfl⟩ := hAn (by omega)
                    obtain ⟨sq, hsq⟩ : ∃ sq, sq = ns[q] := ⟨_, rfl⟩
                    have hcq : wr.cell? ⟨gn, q, none⟩ = some (.string sq) := by rw [HO6.out.cellAt q (by omega), hsq]; simp [hql]
                    have hgn := (HO6.out.lt gn rfl).2
                    replace hsq := Lib.hid hsq
                    have fin : ∀ {P : Prop}, ¬ (sq = nm' ∧ emptyS nm' = false) → ((∀ i (h : i < ns.length), i < q + 1 → ¬ (ns[i] = nm' ∧ emptyS nm' = false)) → P) → P := by
                      intro P h k
                      refine k fun i hi hi2 => ?_
                      by_cases e : i = q
                      · subst e; rw [← hsq.out]; exact h
                      · exact HQ.out i hi (by omega)
                    by_cases heq : sq = nm'
                    · have b1 := strT heq
                      by_cases hem : emptyS nm' = true
                      · have b2 : nm'.toList.isEmpty = true := hem
                        have FIN := Lib.hid (fin (P := Aside0 (∀ i (h : i < ns.length), i < q + 1 → ¬ (ns[i] = nm' ∧ emptyS nm' = false))) (fun h => by rw [hem] at h; exact absurd h.2 (by decide)) (fun h => ⟨h⟩))
                        clear fin heq hem
                        go_wp2_with fail
                        go_quiet (skip)
                        all_goals
                          go_wp2_with fail
                          go_round
                          case rel => exact ⟨⟨by first | exact HK.out.drewN _ | exact HK.out⟩, q + 1, by simp, hql, FIN.out⟩
                          case measure => simp [intOf]; omega
                      · obtain ⟨b2, b3⟩ := empF hem
                        have E := Lib.hid (HERR.out 6 (TE.out trivial hn1.out (by have := h31.out; omega) (by rw [← heq, hsq.out]; exact List.getElem_mem hql) b2))
                        clear fin heq hem
                        go_wp2_with fail
                        go_quiet (skip)
                        all_goals
                          go_wp2_with fail
                          go_ret
                          exact ⟨by rw [E.out]; rfl, KF.out.trans ((k3.trans k5).trans (by first | exact HK.out.drewN _ | exact HK.out))⟩
                    · have b1 := strF heq
                      have FIN := Lib.hid (fin (P := Aside0 (∀ i (h : i < ns.length), i < q + 1 → ¬ (ns[i] = nm' ∧ emptyS nm' = false))) (fun h => heq h.1) (fun h => ⟨h⟩))
                      clear fin heq
                      go_wp2_with fail
                      go_quiet (skip)
                      all_goals
                        go_wp2_with fail
                        go_round
                        case rel => exact ⟨⟨by first | exact HK.out.drewN _ | exact HK.out⟩, q + 1, by simp, hql, FIN.out⟩
                        case measure => simp [intOf]; omega
                  · obtain rfl : q = ns.length := by omega
                    have dq : decide ((ns.length : Int) < (ns.length : Int)) = false := decide_eq_false (by omega)
                    have hfine : ¬ (nm' ∈ ns ∧ emptyS nm' = false) := by
                      rintro ⟨h1, h2⟩
                      obtain ⟨i, hi, hi2⟩ := List.getElem_of_mem h1
                      exact HQ.out i hi hi ⟨hi2, h2⟩
                    have hns30 : ns.length ≤ 30 := by have := h31.out; omega
                    have hst := Lib.hid (FE.out trivial hn1.out hns30 hfine)
                    clear hfine HQ
                    have hrow6 := HO6.out.alloc (.cells #[.string nm'] 9)
                    have hb7 := Lib.hid (hB5.out.trans (HK.out.bel.mono hB5.out.size))
                    have hb8 := hb7.out.size
                    go_wp2_with (at_builtin; refine wpList_append_own _ rfl _ _ 57 rfl W2.heap.size 9 i0 (.string .empty) 1 16 Try.underlying57 hi hz0 hz1 hz2 rfl (by decide) _ _ _ rfl hrow6 ⟨wr.heap.size, 0, none⟩ 1 1 [.string nm'] rfl rfl (cell_one_new _ _ _) (by simp [Value.oneCell']) (by unfold maxLen; omega) (by omega) (by simp; omega) ?_; intro v' w1 hown' hgrow _)
                    go_round
                    case rel => exact REL.out w1 _ _ hst.out (by simpa using hown') (belowGrown hb7.out (Nat.le_refl _) hgrow (fun k hk => (HO6.out.lt k hk).1))
                    case measure => simp [intOf]; omega
            · have E := Lib.hid (HERR.out _ (NE.out (by trivial) (by rw [← hn1.out]; exact hnum)))
              have bn : (num' == n1) = false := beq_eq_false_iff_ne.2 hnum
              replace hnum := Lib.hid hnum
              go_wp2_with (first | (rw [← hA]; go_at_call 77; refine (C77.out).mono ?_; clear C77; rintro e w5 ⟨rfl, k5⟩; have y0 : w5.cell? ⟨wr.heap.size, 0, none⟩ = some (.int .i64 6) := cellB (kblk k5 hbx.out) 0; have y2 : w5.cell? ⟨wr.heap.size, 2, none⟩ = some (.int .i64 num') := cellB (kblk k5 hbx.out) 2; have y3 : w5.cell? ⟨wr.heap.size, 3, none⟩ = some (.string nm') := cellB (kblk k5 hbx.out) 3))
              go_ret
              exact ⟨by rw [E.out]; rfl, KF.out.trans (k3.trans k5)⟩
          · go_wp2_with (first | (rw [← hA]; go_at_call 77; refine (C77.out).mono ?_; clear C77; rintro e w5 ⟨rfl, k5⟩; have y0 : w5.cell? ⟨wr.heap.size, 0, none⟩ = some (.int .i64 kd') := cellB (kblk k5 hbx.out) 0))
            go_round
            case rel => exact REL.out w5 ns _ (SK.out h6) (rowKp (rowKp HOW.out k3) k5) (hb.trans ((k3.trans k5).bel.mono hb.size))
            case measure => simp [intOf]; omega
      · obtain rfl : j = ss.length := by omega
        have dk : decide ((ss.length : Int) < (ss.length : Int)) = false := decide_eq_false (by omega)
        rw [List.take_length] at hck
        replace hck := Lib.hid hck
        go_wp2_with fail
        go_ret
        exact ⟨by rw [hck.out]; rfl, ((k1.trans kk).trans k2).trans (Kp.ofBelow hb)⟩

end Go.Proofs.Ytojlhlepneefoaa
/- The document's Groups, walked; SpoilTexts, walked. -/
namespace Go.Proofs.Ytojlhlepneefoaa
open Go.RowKit PAll Go.Proofs.YtojlhlepneefoaaW.PrintWords Go.Proofs.YtojlhlepneefoaaW.PrintLast Go.Proofs.YtojlhlepneefoaaW.PrintMore
open Go.Shelf
set_option linter.unusedVariables false
set_option linter.unusedSimpArgs false

theorem rowBase {w : World} {b b' e z : Nat} {v : Value} {n : Nat} {xs : List Value} (h : w.ownsRow b e z v n xs) (hb : b' ≤ b) : w.ownsRow b' e z v n xs := by
  refine ⟨h.1, ?_⟩
  rcases h.2 with h2 | ⟨g, cap, cur, h1, h2, h3⟩
  · exact .inl h2
  · exact .inr ⟨g, cap, cur, h1, Nat.le_trans hb h2, h3⟩
def GrI (W2 : World) (ss : List (Int × S25)) (uv iv : Value) (wr : World) : Prop := ∃ (j : Nat), iv = .int .i64 j ∧ j ≤ ss.length ∧ wr.ownsRow W2.heap.size 9 1 uv (groupsP (ss.take j)).length ((groupsP (ss.take j)).map .string) ∧ Below W2.heap.size W2 wr
set_option maxRecDepth 100000 in
set_option maxHeartbeats 8000000 in
theorem rgroups_calls (v : NV) (w : World) (hv : v.ok w) (hN : (stepsL 1000 1 v.n).length ≤ 1000000) : Calls Try.prog 43 #[v.val] w fun e w' =>
    ∃ u, e = .returned u ∧ w'.ownsRow w.heap.size 9 1 u (groupsP (stepsL 1000 1 v.n)).length ((groupsP (stepsL 1000 1 v.n)).map .string) ∧ Kp [] w w' := by
  obtain ⟨i0, hi, hz0, hz1, hz2⟩ := info_parts try_info9'
  obtain ⟨W1, hW1⟩ : ∃ W1, W1 = w.alloc (.cells v.cells.toArray 25) := ⟨_, rfl⟩
  have k1 : Kp [] w W1 := by rw [hW1]; exact (Kp.refl [] w).alloc _
  have hB1 : W1.heap[w.heap.size]? = some (.cells v.cells.toArray 25 (0, 0)) := by rw [hW1]; exact new_at _ _ _ rfl
  have hv1 := hv.kp k1
  have C45 := Lib.hid (all_calls v W1 hv1 hN)
  have hpos : 0 < (stepsL 1000 1 v.n).length := by simp [stepsL]
  obtain ⟨ss, hss⟩ : ∃ ss, ss = stepsL 1000 1 v.n := ⟨_, rfl⟩
  rw [← hss] at hN hpos ⊢
  simp only [← hss] at C45
  replace hss := Lib.hid hss
  clear hv hv1
  obtain ⟨⟨kd, set, num, nm, mn, mx, lz, subs⟩, A1, c1, A7, c7⟩ := v
  dsimp only [NV.val, NV.cells] at hW1 hB1 C45 ⊢
  have z0 : W1.cell? ⟨w.heap.size, 0, none⟩ = some (.int .i64 kd) := cellB hB1 0
  have z1 : W1.cell? ⟨w.heap.size, 1, none⟩ = some (.slice A1 set.length c1) := cellB hB1 1
  have z2 : W1.cell? ⟨w.heap.size, 2, none⟩ = some (.int .i64 num) := cellB hB1 2
  have z3 : W1.cell? ⟨w.heap.size, 3, none⟩ = some (.string nm) := cellB hB1 3
  have z4 : W1.cell? ⟨w.heap.size, 4, none⟩ = some (.int .i64 mn) := cellB hB1 4
  have z5 : W1.cell? ⟨w.heap.size, 5, none⟩ = some (.int .i64 mx) := cellB hB1 5
  have z6 : W1.cell? ⟨w.heap.size, 6, none⟩ = some (.bool lz) := cellB hB1 6
  have z7 : W1.cell? ⟨w.heap.size, 7, none⟩ = some (.slice A7 subs.length c7) := cellB hB1 7
  go_enter Try.func43, Try.ntmps43
  go_wp2_with (first | (rw [← hW1]; go_at_call 45; refine (C45.out).mono ?_; clear C45; rintro e W2 ⟨u2, xs, rfl, hp, ho, k2⟩))
  have hxl : xs.length = ss.length := by have := congrArg List.length hp; simpa [proj] using this
  obtain ⟨g, cap, rfl⟩ : ∃ g cap, u2 = .slice (some ⟨g, 0, none⟩) xs.length cap := by
    obtain ⟨A, c, h1, h2⟩ := rowForm ho
    obtain ⟨g, rfl⟩ := h2 (by omega)
    exact ⟨g, c, h1⟩
  have hcell : ∀ j (hj : j < xs.length) i u, (.int .i64 xs[j].1 :: xs[j].2.1.cells)[i]? = some u → W2.cell? ⟨g, j * 9 + i, none⟩ = some u := by
    intro j hj i u hu
    have hi : i < 9 := (List.getElem?_eq_some_iff.1 hu).1
    rw [ho.cellAt (j * 9 + i) (by omega)]
    exact stepCell xs j hj i u hu
  have hglt : g < W2.heap.size := (ho.lt g rfl).2
  have hsg : ∀ j (hj : j < xs.length), ss[j]'(by omega) = (xs[j].1, xs[j].2.1.n) := by
    intro j hj
    have : ss = proj xs := hp.symm
    subst this
    simp [proj]
  have HC := Lib.hid hcell
  have HS := Lib.hid hsg
  have hml : xs.length ≤ 1000000 := by omega
  have hww : w.heap.size ≤ W2.heap.size := (k1.trans k2).size
  rw [hxl] at *
  clear hcell hsg ho hp z0 z1 z2 z3 z4 z5 z6 z7
  go_loopw [4, 5] (fun uv iv wr => GrI W2 ss uv iv wr) (fun _ iv _ => ss.length - (intOf iv).toNat)
  case atStart => exact ⟨0, rfl, by omega, World.ownsRow_nil _ _ _ _, Below.refl _ _⟩
  case round =>
    obtain ⟨j, rfl, hj, how, hb⟩ := hrel
    by_cases hlt : j < ss.length
    · have dk : decide ((j : Int) < (ss.length : Int)) = true := decide_eq_true (by omega)
      obtain ⟨x, hx⟩ : ∃ x, x = xs[j]'(by omega) := ⟨_, rfl⟩
      have hsx : ss[j] = (x.1, x.2.1.n) := by rw [hx]; exact HS.out j (by omega)
      have hcell : ∀ i u, x.2.1.cells[i]? = some u → wr.cell? ⟨g, j * 9 + 1 + i, none⟩ = some u := by
        intro i u hu
        rw [show j * 9 + 1 + i = j * 9 + (i + 1) by omega, World.cell?_of_block (hb.block g hglt)]
        exact HC.out j (by omega) (i + 1) u (by rw [← hx]; exact hu)
      have htk : ss.take (j + 1) = ss.take j ++ [(x.1, x.2.1.n)] := by rw [List.take_succ_eq_append_getElem hlt, hsx]
      have hgl : (groupsP (ss.take j)).length ≤ 1000000 := by have := groupsP_len (ss.take j); simp at this; omega
      have hhit := groupsP_hit (ss.take j) (x.1, x.2.1.n)
      have hmiss := groupsP_miss (ss.take j) (x.1, x.2.1.n)
      rw [← htk] at hhit hmiss
      clear hsx hx htk
      obtain ⟨dp, ⟨⟨⟨kd', set', num', nm', mn', mx', lz', subs'⟩, A1', c1', A7', c7'⟩, hvx⟩⟩ := x
      dsimp only [NV.val, NV.cells] at hcell hhit hmiss
      have HH := Lib.hid hhit
      have HM := Lib.hid hmiss
      clear hhit hmiss
      have y0 := hcell 0 _ rfl; have y3 := hcell 3 _ rfl
      simp only [Nat.add_zero] at y0
      clear hcell
      have hgw : g < wr.heap.size := Nat.lt_of_lt_of_le hglt hb.size
      obtain ⟨G, hG⟩ : ∃ G, G = groupsP (ss.take j) := ⟨_, rfl⟩
      rw [← hG] at how hgl HH HM
      have hbz := hb.size
      by_cases h6 : kd' = 6
      · subst h6
        go_wp2_with (at_builtin; refine wpList_append_own _ rfl _ _ 57 rfl W2.heap.size 9 i0 (.string .empty) 1 16 Try.underlying57 hi hz0 hz1 hz2 rfl (by decide) _ _ _ rfl (how.alloc _) ⟨wr.heap.size, 0, none⟩ 1 1 [.string nm'] rfl rfl (cell_one_new _ _ _) (by simp [Value.oneCell']) (by unfold maxLen; omega) (by omega) (by simp; omega) ?_; intro v' w1 hown' hgrow _)
        go_round
        case rel => exact ⟨j + 1, by simp, hlt, by rw [HH.out rfl]; simpa using hown', belowGrown hb (Nat.le_refl _) hgrow (fun k hk => (how.lt k hk).1)⟩
        case measure => simp [intOf]; omega
      · go_wp2_with fail
        go_round
        case rel => exact ⟨j + 1, by simp, hlt, by rw [HM.out h6]; exact how, hb⟩
        case measure => simp [intOf]; omega
    · obtain rfl : j = ss.length := by omega
      have dk : decide ((ss.length : Int) < (ss.length : Int)) = false := decide_eq_false (by omega)
      rw [List.take_length] at how
      have hG := Lib.hid how
      clear how
      go_wp2_with fail
      go_ret
      exact ⟨_, rfl, rowBase hG.out hww, (k1.trans k2).trans (Kp.ofBelow hb)⟩
theorem setKeeps {B : Nat} {w wr : World} {g : Nat} (hb : Below B w wr) (hg : B ≤ g) (i : Nat) (u : Value) : Below B w (wr.setCell ⟨g, i, none⟩ u) :=
  ⟨hb.os, hb.tape, hb.output, by have := hb.size; simpa [World.setCell] using this, fun k hk => (Below.heap_setCell _ _ _ _ (by show k ≠ g; omega)).trans (hb.block k hk)⟩
set_option maxRecDepth 100000 in
set_option maxHeartbeats 4000000 in
theorem spoil_calls (B : Nat) (u : Value) (n : Nat) (xs : List Value) (w : World) (ho : w.ownsRow B 9 1 u n xs) : Calls Try.prog 44 #[u] w fun e w' => e = .returned (.tuple #[]) ∧ Below B w w' := by
  rcases ho.2 with ⟨rfl, rfl⟩ | ⟨g, cap, cur, rfl, hB, hg, hnc, hcm, hcs, _⟩
  · go_enter Try.func44, Try.ntmps44
    go_wp2_with fail
    go_loopw [9] (fun iv wr => iv = .int .i64 0 ∧ Aside0 (Below B w wr)) (fun iv _ => 0)
    case atStart => exact ⟨rfl, ⟨Below.refl _ _⟩⟩
    case round =>
      obtain ⟨rfl, hb⟩ := hrel
      go_wp2_with fail
      go_end0
      exact ⟨rfl, hb.out⟩
  · have hm : maxLen = 9223372036854775807 := rfl
    replace hcs : cur.size = cap := by omega
    go_enter Try.func44, Try.ntmps44
    go_wp2_with fail
    go_loopw [9] (fun iv wr => ∃ (j : Nat) (c : Array Value), iv = .int .i64 j ∧ j ≤ cap ∧ c.size = cap ∧ Aside0 (wr.heap[g]? = some (.cells c 9 (0, 0))) ∧ Aside0 (Below B w wr)) (fun iv _ => cap - (intOf iv).toNat)
    case atStart => exact ⟨0, cur, rfl, by omega, hcs, ⟨hg⟩, ⟨Below.refl _ _⟩⟩
    case round =>
      obtain ⟨j, c, rfl, hj, hc, HG, hb⟩ := hrel
      by_cases hlt : j < cap
      · have dk : decide ((j : Int) < (cap : Int)) = true := decide_eq_true (by omega)
        have h1 : wr.cell? ⟨g, j, none⟩ = some (c[j]'(by omega)) := by rw [cellB HG.out]; exact Array.getElem?_eq_getElem _
        have h2 := frozB HG.out j
        have hset := setB HG.out j (.string ⟨#[115, 112, 111, 105, 108, 116]⟩)
        have hkb := setKeeps hb.out hB j (.string ⟨#[115, 112, 111, 105, 108, 116]⟩)
        have HS := Lib.hid hset
        have HK := Lib.hid hkb
        have hgl := ltB HG.out
        clear hset hkb
        go_wp2_with fail
        go_round
        case rel => exact ⟨j + 1, _, by simp, hlt, by simpa using hc, ⟨HS.out⟩, ⟨HK.out⟩⟩
        case measure => simp [intOf]; omega
      · obtain rfl : j = cap := by omega
        have dk : decide ((j : Int) < (j : Int)) = false := decide_eq_false (by omega)
        go_wp2_with fail
        go_end0
        exact ⟨rfl, hb.out⟩
theorem same_l (l : List ByteArray) (hl : l.length ≤ 9223372036854775806) : ∀ (n i k : Nat), l.length - i ≤ n → i ≤ l.length → burinbook_SameTexts.l0 (n + k + 1) l l true (i : Int) = some true
  | 0, i, k, hn, hi => by rw [burinbook_SameTexts.l0, if_pos rfl, if_neg (by omega)]
  | n + 1, i, k, hn, hi => by
    by_cases h : i < l.length
    · rw [show n + 1 + k + 1 = (n + k + 1) + 1 by omega, burinbook_SameTexts.l0, if_pos rfl, if_pos (by omega), if_pos (by omega), if_pos (by omega), beq_self_eq_true, show wrap64 ((i : Int) + 1) = ((i + 1 : Nat) : Int) by unfold wrap64; omega]
      exact same_l l hl n (i + 1) k (by omega) (by omega)
    · rw [burinbook_SameTexts.l0, if_pos rfl, if_neg (by omega)]
theorem same_f (l : List ByteArray) (hl : l.length ≤ 9223372036854775806) : burinbook_SameTexts.f (l.length + 1) l l = some true := by
  unfold burinbook_SameTexts.f
  rw [beq_self_eq_true]
  exact same_l l hl l.length 0 0 (by omega) (by omega)
theorem ownStr {w : World} {b : Nat} {v : Value} {ns : List ByteArray} (h : w.ownsRow b 9 1 v ns.length (ns.map .string)) (hl : ns.length ≤ 9223372036854775806) : ∃ A c, v = .slice A ns.length c ∧ ns.length ≤ c ∧ Kd.C Kd.string w A ns.length ns := by
  rcases h.2 with ⟨rfl, h0⟩ | ⟨g, cap, cur, rfl, hb, hg, hnc, hcm, hcs, _⟩
  · have : ns = [] := List.eq_nil_of_length_eq_zero h0
    subst this
    exact ⟨none, 0, rfl, Nat.le_refl _, rfl, by simp, fun h => by simp at h⟩
  · refine ⟨some ⟨g, 0, none⟩, cap, rfl, hnc, rfl, by omega, fun hn => ⟨_, rfl, fun j x hj => ?_⟩⟩
    have hj2 : j < ns.length := (List.getElem?_eq_some_iff.1 hj).1
    refine ⟨[.string x], rfl, rfl, fun i u hu => ?_⟩
    have hi : i = 0 := by have := (List.getElem?_eq_some_iff.1 hu).1; simpa using this
    subst hi
    simp at hu
    subst hu
    rw [addNone, show (0 : Nat) + (j * Kd.string.sz + 0) = j by (show (0 : Nat) + (j * 1 + 0) = j); omega, h.cellAt j (by omega)]
    simp [hj]
theorem same_calls (u1 u2 : Value) (ns : List ByteArray) (hl : ns.length ≤ 1000000) (b1 b2 : Nat) (w : World) (h1 : w.ownsRow b1 9 1 u1 ns.length (ns.map .string)) (h2 : w.ownsRow b2 9 1 u2 ns.length (ns.map .string)) : Calls Try.prog 42 #[u1, u2] w fun e w' => e = .returned (.bool true) ∧ Kp [] w w' := by
  obtain ⟨A1, c1, rfl, l1, g1⟩ := ownStr h1 (by omega)
  obtain ⟨A2, c2, rfl, l2, g2⟩ := ownStr h2 (by omega)
  exact (burinbook_SameTexts.calls _ A1 c1 ns A2 c2 ns true w g1 l1 g2 l2 (same_f ns (by omega))).mono fun e w' ⟨h, q⟩ => ⟨h, by first | exact Kp.ofDrawn q | exact Kp.ofBelow q⟩
theorem rnull_calls {d : Nat} (v : NV) (w : World) (hv : v.ok w) (ht : Thin d v.n) : Calls Try.prog 47 #[v.val, .int .i64 1000] w fun e w' => e = .returned (.bool (nullP 1000 v.n)) ∧ Kp [] w w' := by
  obtain ⟨K, hK⟩ := rnull_f d v.n ht 1000 (by omega)
  exact (burinref06_Nullable.calls K v.n.f0 v.A1 v.c1 v.n.f1 v.n.f2 v.n.f3 v.n.f4 v.n.f5 v.n.f6 v.A7 v.c7 v.n.f7 1000 _ w hv.g1 hv.l1 hv.g7 hv.l7 (hK K (Nat.le_refl _))).mono fun e w' ⟨h, hb⟩ => ⟨h, Kp.ofBelow hb⟩

end Go.Proofs.Ytojlhlepneefoaa
