/- The parts of the texts O, U, V, CK, TT that the law TreeWalks uses, in one text (a claim has a bound of bytes). -/
import Derived.Test.YtojlhlepneefoaaTree1
import Derived.Deep.Slices
import Derived.Deep.Strs
import Derived.Deep.AppendLies
import Derived.Deep.LoopGhost
import Derived.IntWalk
import Derived.Maps.AppendAt
import Derived.Test.YtojlhlepneefoaaPAllx8
import Derived.Test.YtojlhlepneefoaaPAllx7
namespace Go.Proofs.Ytojlhlepneefoaa
open Go.RowKit PAll Go.Proofs.YtojlhlepneefoaaW.PrintWords Go.Proofs.YtojlhlepneefoaaW.PrintLast Go.Proofs.YtojlhlepneefoaaW.PrintMore
open Go.Shelf Go.Deep Go.ChangeShapes Go.WideShapes
set_option linter.unusedVariables false
set_option linter.unusedSimpArgs false

set_option maxRecDepth 100000
section
variable {H : Type} {enc : TypeId × Value → H} {w : World} {base : Nat} {spare : Nat → Bool} {held : Bool} {r : Reach} {b0 : Nat} {v : Value} {d : DataW H} {p : List MemPlace}
theorem openRow {α : Type} [Inhabited α] (kd : Kd α) {t e : TypeId} (ht : Try.prog.underlying t = some (.slice e)) (sz : Try.prog.cellsOf e = kd.sz) {fuel : Nat}
    (el : ∀ m, m < fuel → ∀ (cs : List Value) (y : DataW H × List MemPlace), DataW.trod enc Try.prog w base spare held m e cs = some y → ∃ x : α, kd.K w x cs)
    {cs : List Value} {y : DataW H × List MemPlace} (h : DataW.trod enc Try.prog w base spare held fuel t cs = some y) :
    ∃ (A : Option Addr) (cap : Nat) (l : List α), cs = [.slice A l.length cap] ∧ kd.C w A l.length l ∧ l.length ≤ cap := by
  rcases DataW.trod_slice ht h with ⟨rfl, _⟩ | ⟨a, len, cap, elems, rest, n, hn, rfl, _, _, hl, hm, hlen, hel, _, _⟩
  · exact ⟨none, 0, [], rfl, ⟨rfl, by simp, fun h => absurd h (by simp)⟩, Nat.le_refl _⟩
  · rw [sz] at hel
    have hml : maxLen = 9223372036854775807 := rfl
    have each : ∀ i, i < len → ∃ x : α, ∃ cs : List Value, kd.K w x cs ∧ ∀ j u, cs[j]? = some u → w.cell? (a.add (i * kd.sz + j)) = some u := by
      intro i hi
      have h1 := hel i hi
      rw [List.getElem?_eq_getElem (by omega)] at h1
      cases hc : w.cells? base (a.add (i * kd.sz)) kd.sz with
      | none => rw [hc] at h1; cases h1
      | some cs' =>
        rw [hc] at h1
        obtain ⟨x, hx⟩ := el n (by omega) cs' _ h1
        obtain ⟨_, hlen', hcell⟩ := World.cells?_some hc
        refine ⟨x, cs', hx, fun j u hu => ?_⟩
        have hj : j < kd.sz := by have := (List.getElem?_eq_some_iff.1 hu).1; omega
        have := hcell j (by omega)
        rw [Go.Deep.add_add] at this
        exact this.trans hu
    obtain ⟨q, hq⟩ := choose_lt each
    refine ⟨some a, cap, (List.range len).map q, by simp, ⟨rfl, by simp; omega, fun h => ⟨a, rfl, fun j x hx => ?_⟩⟩, by simp; omega⟩
    rw [List.getElem?_map] at hx
    by_cases hj : j < len
    · rw [List.getElem?_range hj] at hx
      simp at hx
      subst hx
      obtain ⟨cs, hK, hc⟩ := hq j hj
      exact ⟨cs, kd.K_len hK, hK, hc⟩
    · rw [List.getElem?_eq_none (by simpa using hj)] at hx
      simp at hx
theorem open103 {n : Nat} {cs : List Value} {y : DataW H × List MemPlace} (h : DataW.trod enc Try.prog w base spare held n 103 cs = some y) : ∃ q : S103, k103.K w q cs := by
  obtain ⟨xs, m, _, _, hl, hlen, hf⟩ := DataW.trod_struct Try.underlying103 h
  have c3 : Try.prog.cellsOf 3 = 1 := by kernel_rfl
  have c103 : Try.prog.cellsOf 103 = 2 := by kernel_rfl
  rw [c103] at hl
  match cs, hl with
  | [v0, v1], _ =>
    have g0 := hf 0 _ rfl
    have g1 := hf 1 _ rfl
    have hs : xs.length = 2 := hlen
    obtain ⟨x0, x1, rfl⟩ : ∃ x0 x1, xs = [x0, x1] := by
      match xs, hs with
      | [x0, x1], _ => exact ⟨x0, x1, rfl⟩
    simp [c3] at g0 g1
    obtain ⟨n0, q0, _, _⟩ := DataW.trod_int Try.underlying3 g0
    obtain ⟨n1, q1, _, _⟩ := DataW.trod_int Try.underlying3 g1
    simp at q0 q1
    subst q0 q1
    exact ⟨⟨n0, n1⟩, k103_mk w _⟩
theorem openNode : ∀ (n : Nat) (cs : List Value) (y : DataW H × List MemPlace), DataW.trod enc Try.prog w base spare held n 25 cs = some y → ∃ v : NV, cs = v.cells ∧ v.ok w := by
  intro n
  induction n using Nat.strongRecOn with
  | _ n ih =>
    intro cs y h
    obtain ⟨xs, m, hm, _, hl, hlen, hf⟩ := DataW.trod_struct Try.underlying25 h
    have c3 : Try.prog.cellsOf 3 = 1 := by kernel_rfl
    have c4 : Try.prog.cellsOf 4 = 1 := by kernel_rfl
    have c9 : Try.prog.cellsOf 9 = 1 := by kernel_rfl
    have c22 : Try.prog.cellsOf 22 = 1 := by kernel_rfl
    have c23 : Try.prog.cellsOf 23 = 1 := by kernel_rfl
    have c25 : Try.prog.cellsOf 25 = 8 := by kernel_rfl
    have c103 : Try.prog.cellsOf 103 = 2 := by kernel_rfl
    rw [c25] at hl
    match cs, hl with
    | [v0, v1, v2, v3, v4, v5, v6, v7], _ =>
      have g0 := hf 0 _ rfl
      have g1 := hf 1 _ rfl
      have g2 := hf 2 _ rfl
      have g3 := hf 3 _ rfl
      have g4 := hf 4 _ rfl
      have g5 := hf 5 _ rfl
      have g6 := hf 6 _ rfl
      have g7 := hf 7 _ rfl
      have hs : xs.length = 8 := hlen
      obtain ⟨x0, x1, x2, x3, x4, x5, x6, x7, rfl⟩ : ∃ x0 x1 x2 x3 x4 x5 x6 x7, xs = [x0, x1, x2, x3, x4, x5, x6, x7] := by
        match xs, hs with
        | [x0, x1, x2, x3, x4, x5, x6, x7], _ => exact ⟨x0, x1, x2, x3, x4, x5, x6, x7, rfl⟩
      simp [c3, c4, c9, c22, c23] at g0 g1 g2 g3 g4 g5 g6 g7
      obtain ⟨n0, q0, _, _⟩ := DataW.trod_int Try.underlying3 g0
      obtain ⟨n2, q2, _, _⟩ := DataW.trod_int Try.underlying3 g2
      obtain ⟨n3, q3, _, _⟩ := DataW.trod_string Try.underlying9 g3
      obtain ⟨n4, q4, _, _⟩ := DataW.trod_int Try.underlying3 g4
      obtain ⟨n5, q5, _, _⟩ := DataW.trod_int Try.underlying3 g5
      obtain ⟨n6, q6, _⟩ := DataW.trod_bool Try.underlying4 g6
      have : Inhabited S103 := ⟨z103⟩
      have : Inhabited S25 := ⟨z25⟩
      obtain ⟨A1, c1, l1, q1, C1, h1⟩ := openRow k103 Try.underlying22 c103 (fun m _ cs y h => open103 h) g1
      obtain ⟨A7, c7, l7, q7, C7, h7⟩ := openRow k25 Try.underlying23 c25 (fun m' hm' cs y h => by
        obtain ⟨v, rfl, hv⟩ := ih m' (by omega) cs y h
        exact ⟨v.n, hv.k25⟩) g7
      simp at q0 q1 q2 q3 q4 q5 q6 q7
      subst q0 q1 q2 q3 q4 q5 q6 q7
      exact ⟨⟨⟨n0, l1, n2, n3, n4, n5, n6, l7⟩, A1, c1, A7, c7⟩, rfl, ⟨h1, C1, h7, C7⟩⟩
theorem openNodeArg (hv : Value.okWide Try.prog w r b0 25 v) (h : DataW.Trod enc Try.prog w base spare held 25 v d p) : ∃ x : NV, v = x.val ∧ x.ok w := by
  obtain ⟨cs, rfl, hsz⟩ := okWide_struct Try.underlying25 hv
  obtain ⟨fuel, hf⟩ := h
  obtain ⟨x, hx, hok⟩ := openNode fuel _ _ hf
  refine ⟨x, ?_, hok⟩
  unfold NV.val
  rw [← hx]
  rfl
end
end Go.Proofs.Ytojlhlepneefoaa

namespace Go.Proofs.Ytojlhlepneefoaa
open Go.RowKit PAll Go.Proofs.YtojlhlepneefoaaW.PrintWords Go.Proofs.YtojlhlepneefoaaW.PrintLast Go.Proofs.YtojlhlepneefoaaW.PrintMore
open Go.Shelf
set_option linter.unusedVariables false
set_option linter.unusedSimpArgs false

theorem try_info70 : (Try.prog.info? 70).map (fun i => (i.zero, i.size, i.bytes)) = some (some (.agg #[(.int .i64 0), (.int .i64 0), (.slice none 0 0), (.int .i64 0), (.string ⟨#[]⟩), (.int .i64 0), (.int .i64 0), (.bool false), (.slice none 0 0)]), 9, 112) := by kernel_rfl
def stepCells {w : World} (xs : List (Step w)) : List Value := xs.flatMap fun x => .int .i64 x.1 :: x.2.1.cells
theorem cells_len8 (v : NV) : v.cells.length = 8 := rfl
theorem stepCells_len {w : World} (xs : List (Step w)) : (stepCells xs).length = xs.length * 9 := by
  induction xs with
  | nil => rfl
  | cons x xs ih => simp only [stepCells, List.flatMap_cons, List.length_append, List.length_cons] at ih ⊢; rw [ih, cells_len8]; omega
theorem stepCells_app {w : World} (xs ys : List (Step w)) : stepCells (xs ++ ys) = stepCells xs ++ stepCells ys := by simp [stepCells]
def AllI (w0 W : World) (u : Value) (v : NV) (m : Nat) (d : Int) (k : Nat) (inner : List Value) (uv iv : Value) (wr : World) : Prop :=
  ∃ (j : Nat) (xs : List (Step w0)), iv = .int .i64 j ∧ j ≤ v.n.f7.length ∧ proj xs = (d, v.n) :: (v.n.f7.take j).flatMap (stepsL m (d + 1)) ∧ wr.ownsRow w0.heap.size 70 9 uv (k + xs.length) (inner ++ stepCells xs) ∧
    W.grownBy wr u.ownBlock ∧ (uv.ownBlock = u.ownBlock ∨ ∃ g, uv.ownBlock = some g ∧ W.heap.size + 1 ≤ g) ∧ wr.heap[W.heap.size]? = some (.cells v.cells.toArray 25 (0, 0))
def AllO (w0 W : World) (u : Value) (v : NV) (m : Nat) (d : Int) (k : Nat) (inner : List Value) (e : Ending) (wr : World) : Prop :=
  ∃ (u' : Value) (xs : List (Step w0)), e = .returned u' ∧ proj xs = stepsL m d v.n ∧ wr.ownsRow w0.heap.size 70 9 u' (k + xs.length) (inner ++ stepCells xs) ∧
    W.grownBy wr u.ownBlock ∧ (u'.ownBlock = u.ownBlock ∨ ∃ g, u'.ownBlock = some g ∧ W.heap.size ≤ g)

theorem ownBelow {w0 W W' : World} {u : Value} {k : Nat} {inner : List Value} (ho : W.ownsRow w0.heap.size 70 9 u k inner) (hb : Below w0.heap.size w0 W) (hg : W.grownBy W' u.ownBlock) : Below w0.heap.size w0 W' :=
  ⟨hg.os.trans hb.os, hg.tape.trans hb.tape, hg.output.trans hb.output, Nat.le_trans hb.size hg.size, fun i hi => (hg.block i (Nat.lt_of_lt_of_le hi hb.size) (fun e => by have := (ho.lt i e.symm).1; omega)).trans (hb.block i hi)⟩
theorem newCells (w : World) (cs : List Value) (t : TypeId) (B : Nat) (hB : B = w.heap.size) (j : Nat) (u : Value) (h : cs[j]? = some u) : (w.alloc (.cells cs.toArray t)).cell? (Addr.add ⟨B, 0, none⟩ j) = some u := by
  subst hB
  rw [addNone, cellB (heap_alloc_new w _), Nat.zero_add]
  simpa using h
theorem grownThen {a b c : World} {r : Option Nat} (h : a.grownBy b none) (k : b.grownBy c r) : a.grownBy c r :=
  ⟨k.os.trans h.os, k.tape.trans h.tape, k.output.trans h.output, Nat.le_trans h.size k.size, fun i hi hn => (k.block i (Nat.lt_of_lt_of_le hi h.size) hn).trans (h.block i hi (by simp))⟩
set_option maxRecDepth 100000 in
set_option maxHeartbeats 8000000 in
theorem all_in (w0 : World) : ∀ (m : Nat) (d : Nat), d + m = 1001 → 1 ≤ d → ∀ (v : NV), v.ok w0 → ∀ (W : World) (u : Value) (k : Nat) (inner : List Value), Below w0.heap.size w0 W → W.ownsRow w0.heap.size 70 9 u k inner → k + (stepsL m d v.n).length ≤ 1000000 →
    Calls Try.prog 45 #[u, v.val, .int .i64 (d : Int)] W (AllO w0 W u v m d k inner) := by
  intro m
  induction m with
  | zero =>
    intro d hd hd1 v hv W u k inner hb ho hN
    have dd : decide ((1000 : Int) < (d : Int)) = true := decide_eq_true (by omega)
    have fin : ∀ w', W.grownBy w' none → AllO w0 W u v 0 d k inner (.returned u) w' := by
      intro w' hg
      exact ⟨u, [], rfl, rfl, by simpa [stepCells] using ho.kept hg (by cases u.ownBlock <;> simp), ⟨hg.os, hg.tape, hg.output, hg.size, fun i hi _ => hg.block i hi (by simp)⟩, .inl rfl⟩
    have FIN := Lib.hid fin
    clear fin
    obtain ⟨⟨kd, set, num, nm, mn, mx, lz, subs⟩, A1, c1, A7, c7⟩ := v
    dsimp only [NV.val, NV.cells] at FIN ⊢
    go_enter Try.func45, Try.ntmps45
    go_wp2_with fail
    go_ret
    exact FIN.out _ (World.grownBy_alloc _ _ none)
  | succ m ih =>
    intro d hd hd1 v hv W u k inner hb ho hN
    have e1 : stepsL (m + 1) (d : Int) v.n = ((d : Int), v.n) :: v.n.f7.flatMap (stepsL m ((d : Int) + 1)) := rfl
    have hN1 : k + 1 + (v.n.f7.flatMap (stepsL m ((d : Int) + 1))).length ≤ 1000000 := by rw [e1] at hN; simp only [List.length_cons] at hN; omega
    have dd : decide ((1000 : Int) < (d : Int)) = false := decide_eq_false (by omega)
    obtain ⟨i0, hi, hz0, hz1, hz2⟩ := info_parts try_info70
    obtain ⟨W1, hW1⟩ : ∃ W1, W1 = W.alloc (.cells v.cells.toArray 25) := ⟨_, rfl⟩
    have hB1 : W1.heap[W.heap.size]? = some (.cells v.cells.toArray 25 (0, 0)) := by rw [hW1]; exact heap_alloc_new W _
    have ho1 : W1.ownsRow w0.heap.size 70 9 u k inner := by rw [hW1]; exact ho.alloc _
    have hs1 : W1.heap.size = W.heap.size + 1 := by rw [hW1]; simp
    have hg1 : W.grownBy W1 none := by rw [hW1]; exact World.grownBy_alloc _ _ none
    have hbs := hb.size
    have fin0 : ∀ (u1 : Value) (w1 : World), w1.ownsRow w0.heap.size 70 9 u1 (k + 1) (inner ++ (.int .i64 (d : Int) :: v.cells)) → (W1.alloc (.cells (.int .i64 (d : Int) :: v.cells).toArray 70)).grownBy w1 u.ownBlock → (u1.ownBlock = u.ownBlock ∨ u1.ownBlock = some (W.heap.size + 1 + 1)) → AllI w0 W u v m d k inner u1 (.int .i64 0) w1 := by
      intro u1 w1 h1 h2 h3
      have g1 := grownThen (grownThen hg1 (World.grownBy_alloc W1 (.cells (.int .i64 (d : Int) :: v.cells).toArray 70) none)) h2
      refine ⟨0, [⟨(d : Int), ⟨v, hv⟩⟩], rfl, Nat.zero_le _, by simp [proj], by simpa [stepCells] using h1, g1, ?_, ?_⟩
      · rcases h3 with h3 | h3
        · exact .inl h3
        · exact .inr ⟨_, h3, by omega⟩
      · rw [h2.block W.heap.size (by simp [hs1]; omega) (fun e => by have := (ho.lt _ e.symm).2; omega)]
        exact (Below.heap_alloc _ _ _ (by omega)).trans hB1
    have stepA : ∀ (j : Nat) (hj : j < v.n.f7.length) (vj : NV), vj.ok w0 → vj.n = v.n.f7[j] → ∀ (uv : Value) (wr : World), AllI w0 W u v m d k inner uv (.int .i64 (j : Int)) wr → Calls Try.prog 45 #[uv, vj.val, .int .i64 ((d : Int) + 1)] wr fun e w' => ∃ u', e = .returned u' ∧ AllI w0 W u v m d k inner u' (.int .i64 ((j : Int) + 1)) w' := by
      intro j hj vj hvj hn uv wr hI
      obtain ⟨j', xs, e1', hjl, hp, how, hgr, hat, hbx⟩ := hI
      obtain rfl : j = j' := by injection e1' with _ h; omega
      have htake : v.n.f7.take (j + 1) = v.n.f7.take j ++ [vj.n] := by rw [List.take_succ_eq_append_getElem hj, hn]
      have hlen : (v.n.f7.flatMap (stepsL m ((d : Int) + 1))).length = ((v.n.f7.take j).flatMap (stepsL m ((d : Int) + 1))).length + (stepsL m ((d : Int) + 1) vj.n).length + ((v.n.f7.drop (j + 1)).flatMap (stepsL m ((d : Int) + 1))).length := by
        conv => lhs; rw [← List.take_append_drop (j + 1) v.n.f7, htake]
        simp only [List.flatMap_append, List.length_append, List.flatMap_cons, List.flatMap_nil, List.append_nil]
      have hxl : xs.length = 1 + ((v.n.f7.take j).flatMap (stepsL m ((d : Int) + 1))).length := by
        have := congrArg List.length hp
        simp only [proj, List.length_map, List.length_cons] at this
        omega
      have hbr := ownBelow ho hb hgr
      have := ih (d + 1) (by omega) (by omega) vj hvj wr uv (k + xs.length) (inner ++ stepCells xs) hbr how (by rw [show ((d + 1 : Nat) : Int) = (d : Int) + 1 by simp]; omega)
      rw [show ((d + 1 : Nat) : Int) = (d : Int) + 1 by simp] at this
      refine this.mono ?_
      rintro e w' ⟨u', ys, rfl, hp2, ho2, hg2, hat2⟩
      have hblk : ∀ i, i < W.heap.size + 1 → some i ≠ u.ownBlock → some i ≠ uv.ownBlock := by
        intro i hi hne he
        rcases hat with h | ⟨g, h, hg⟩
        · exact hne (he.trans h)
        · rw [h] at he
          have := Option.some.inj he
          omega
      have hsz := hgr.size
      have hbl := ltB hbx
      refine ⟨u', rfl, j + 1, xs ++ ys, by simp, hj, ?_, ?_, ⟨hg2.os.trans hgr.os, hg2.tape.trans hgr.tape, hg2.output.trans hgr.output, Nat.le_trans hgr.size hg2.size, fun i hi hne => (hg2.block i (by omega) (hblk i (by omega) hne)).trans (hgr.block i hi hne)⟩, ?_, ?_⟩
      · rw [htake, List.flatMap_append]
        simp only [proj, List.map_append] at hp hp2 ⊢
        rw [hp, hp2]
        simp
      · rw [stepCells_app, ← List.append_assoc, List.length_append, ← Nat.add_assoc]
        exact ho2
      · rcases hat2 with h | ⟨g, h, hg⟩
        · rw [h]; exact hat
        · exact .inr ⟨g, h, by omega⟩
      · rw [hg2.block _ hbl (hblk _ (by omega) (fun e => by have := (ho.lt _ e.symm).2; omega))]
        exact hbx
    have finE : ∀ (uv : Value) (wr : World), AllI w0 W u v m d k inner uv (.int .i64 (v.n.f7.length : Int)) wr → AllO w0 W u v (m + 1) d k inner (.returned uv) wr := by
      intro uv wr hI
      obtain ⟨j', xs, e1', hjl, hp, how, hgr, hat, hbx⟩ := hI
      obtain rfl : v.n.f7.length = j' := by injection e1' with _ h; omega
      rw [List.take_length] at hp
      refine ⟨uv, xs, rfl, by rw [hp]; exact e1.symm, how, hgr, ?_⟩
      rcases hat with h | ⟨g, h, hg⟩
      · exact .inl h
      · exact .inr ⟨g, h, by omega⟩
    have hl7 := hv.g7.2.1
    have hl8 := hv.l7
    have FIN0 := Lib.hid fin0
    have SA := Lib.hid stepA
    have FE := Lib.hid finE
    have HV := Lib.hid hv
    have HO := Lib.hid ho
    have wd : IntKind.i64.wrap ((d : Int) + 1) = (d : Int) + 1 := IntWalk.i64_in _ (by omega)
    clear fin0 hv e1 ho stepA finE ih
    obtain ⟨vv, hvv⟩ : ∃ vv, vv = v := ⟨_, rfl⟩
    rw [← hvv] at FIN0 SA FE HV hB1 ⊢
    obtain ⟨⟨kd, set, num, nm, mn, mx, lz, subs⟩, A1, c1, A7, c7⟩ := v
    dsimp only at hl7 hl8
    have eV : vv.val = .agg #[.int .i64 kd, .slice A1 set.length c1, .int .i64 num, .string nm, .int .i64 mn, .int .i64 mx, .bool lz, .slice A7 subs.length c7] := by rw [hvv]; rfl
    have eC : vv.cells = [.int .i64 kd, .slice A1 set.length c1, .int .i64 num, .string nm, .int .i64 mn, .int .i64 mx, .bool lz, .slice A7 subs.length c7] := by rw [hvv]; rfl
    have e7 : vv.n.f7 = subs := by rw [hvv]
    have eA7 : vv.A7 = A7 := by rw [hvv]
    rw [eC] at FIN0 hB1
    try rw [eV]
    replace FIN0 : Hid (∀ (u1 : Value) (w1 : World), w1.ownsRow w0.heap.size 70 9 u1 (k + 1) (inner ++ [.int .i64 (d : Int), .int .i64 kd, .slice A1 set.length c1, .int .i64 num, .string nm, .int .i64 mn, .int .i64 mx, .bool lz, .slice A7 subs.length c7]) → (W1.alloc (.cells #[.int .i64 (d : Int), .int .i64 kd, .slice A1 set.length c1, .int .i64 num, .string nm, .int .i64 mn, .int .i64 mx, .bool lz, .slice A7 subs.length c7] 70)).grownBy w1 u.ownBlock → (u1.ownBlock = u.ownBlock ∨ u1.ownBlock = some (W.heap.size + 1 + 1)) → AllI w0 W u vv m d k inner u1 (.int .i64 0) w1) := FIN0
    try rw [hvv] at hW1
    dsimp only [NV.cells] at hW1
    replace hvv := Lib.hid hvv
    replace eV := Lib.hid eV
    replace eC := Lib.hid eC
    replace e7 := Lib.hid e7
    replace eA7 := Lib.hid eA7
    replace hB1 := Lib.hid hB1
    go_enter Try.func45, Try.ntmps45
    go_wp2_with (rw [← hW1]; at_builtin; refine wpList_append_own_at _ rfl _ _ 61 rfl w0.heap.size 70 i0 _ 9 112 Try.underlying61 hi hz0 hz1 hz2 rfl (by decide) _ _ _ rfl (ho1.alloc _) ⟨W.heap.size + 1, 0, none⟩ 1 1 [.int .i64 (d : Int), .int .i64 kd, .slice A1 set.length c1, .int .i64 num, .string nm, .int .i64 mn, .int .i64 mx, .bool lz, .slice A7 subs.length c7] rfl rfl (newCells _ _ _ _ hs1.symm) (by simp [Value.oneCell']) (by unfold maxLen; omega) (by omega) (by simp [hs1]; omega) ?_; intro u1 w1 hown1 hgrow1 _ hat1; rw [World.size_alloc, hs1] at hat1; have I0 := FIN0.out u1 w1 hown1 hgrow1 hat1)
    replace I0 := Lib.hid I0
    clear FIN0 ho1 hown1 hgrow1 hat1
    go_loopw [0, 7] (fun uv iv wr => AllI w0 W u vv m d k inner uv iv wr) (fun _ iv _ => subs.length - (intOf iv).toNat)
    case atStart => exact I0.out
    case round =>
      have hr2 := hrel
      obtain ⟨j, xs, rfl, hjl, -, -, -, -, hbx⟩ := hr2
      rw [e7.out] at hjl
      rw [eC.out] at hbx
      have z7 := cellB hbx 7
      simp at z7
      have hbl := ltB hbx
      clear hbx
      replace hrel := Lib.hid hrel
      by_cases hlt : j < subs.length
      · have dk : decide ((j : Int) < (subs.length : Int)) = true := decide_eq_true (by omega)
        obtain ⟨b, o, hA7, hbw, vs, hvs, hok, hc⟩ := rowOpen HV.out.g7 (by rw [e7.out]; omega)
        rw [eA7.out] at hA7
        subst hA7
        rw [e7.out] at hvs
        have hvl : vs.length = subs.length := by rw [← hvs]; simp
        have hkv : j < vs.length := by omega
        obtain ⟨vk, hvk⟩ : ∃ vk, vk = vs[j] := ⟨_, rfl⟩
        have hsk : vk.n = vv.n.f7[j]'(by rw [e7.out]; exact hlt) := by
          have : vv.n.f7 = vs.map (·.n) := by rw [e7.out, hvs]
          simp only [this, hvk, List.getElem_map]
        have CC := SA.out j (by rw [e7.out]; exact hlt) vk (by rw [hvk]; exact hok _ (List.getElem_mem hkv)) hsk _ wr hrel.out
        have hcell : ∀ i u, vk.cells[i]? = some u → wr.cell? ⟨b, o + j * 8 + i, none⟩ = some u := by
          intro i u hu
          rw [hvk] at hu
          have hI := hrel.out
          obtain ⟨_, _, _, _, _, _, hgr, _, _⟩ := hI
          exact (World.cell?_of_block ((ownBelow HO.out hb hgr).block b hbw)).trans (hc j hkv i u hu)
        clear hsk hvk hc hok hvs hvl hkv
        obtain ⟨⟨kd', set', num', nm', mn', mx', lz', subs'⟩, A1', c1', A7', c7'⟩ := vk
        dsimp only [NV.val, NV.cells] at hcell CC
        have y0 := hcell 0 _ rfl; have y1 := hcell 1 _ rfl; have y2 := hcell 2 _ rfl; have y3 := hcell 3 _ rfl
        have y4 := hcell 4 _ rfl; have y5 := hcell 5 _ rfl; have y6 := hcell 6 _ rfl; have y7 := hcell 7 _ rfl
        simp only [Nat.add_zero] at y0
        clear hcell
        replace CC := Lib.hid CC
        go_wp2_with (go_at_call 45; refine (CC.out).mono ?_; clear CC; rintro e w' ⟨u', rfl, hI'⟩; replace hI' := Lib.hid hI')
        go_round
        case rel => exact hI'.out
        case measure => simp [intOf]; omega
      · obtain rfl : j = subs.length := by omega
        have dk : decide ((subs.length : Int) < (subs.length : Int)) = false := decide_eq_false (by omega)
        have hE := FE.out _ wr (by rw [e7.out]; exact hrel.out)
        replace hE := Lib.hid hE
        go_wp2_with fail
        go_ret
        exact hE.out

end Go.Proofs.Ytojlhlepneefoaa

namespace Go.Proofs.Ytojlhlepneefoaa
open Go.RowKit PAll Go.Proofs.YtojlhlepneefoaaW.PrintWords Go.Proofs.YtojlhlepneefoaaW.PrintLast Go.Proofs.YtojlhlepneefoaaW.PrintMore
open Go.Shelf
set_option linter.unusedVariables false
set_option linter.unusedSimpArgs false
theorem all_calls (v : NV) (w : World) (hv : v.ok w) (hN : (stepsL 1000 1 v.n).length ≤ 1000000) : Calls Try.prog 45 #[.slice none 0 0, v.val, .int .i64 1] w fun e w' => ∃ (u' : Value) (xs : List (Step w)), e = .returned u' ∧ proj xs = stepsL 1000 1 v.n ∧ w'.ownsRow w.heap.size 70 9 u' xs.length (stepCells xs) ∧ Kp [] w w' := by
  refine (all_in w 1000 1 (by omega) (by omega) v hv w (.slice none 0 0) 0 [] (Below.refl _ _) (World.ownsRow_nil _ _ _ _) (by simpa using hN)).mono ?_
  rintro e w' ⟨u', xs, rfl, hp, ho, hg, _⟩
  exact ⟨u', xs, rfl, hp, by simpa using ho, ⟨hg.os, hg.tape, hg.output, hg.size, fun i hi _ => hg.block i hi (by simp [Value.ownBlock])⟩⟩

theorem stepCell {w : World} : ∀ (xs : List (Step w)) (j : Nat) (hj : j < xs.length) (i : Nat) (u : Value), (.int .i64 xs[j].1 :: xs[j].2.1.cells)[i]? = some u → (stepCells xs)[j * 9 + i]? = some u
  | [], j, hj, _, _, _ => by simp at hj
  | x :: xs, 0, hj, i, u, h => by
    have hi : i < 9 := (List.getElem?_eq_some_iff.1 h).1
    show (((Value.int .i64 x.1 :: x.2.1.cells) ++ stepCells xs))[0 * 9 + i]? = some u
    rw [Nat.zero_mul, Nat.zero_add, List.getElem?_append_left (by simpa [cells_len8] using hi)]
    exact h
  | x :: xs, j + 1, hj, i, u, h => by
    show (((Value.int .i64 x.1 :: x.2.1.cells) ++ stepCells xs))[(j + 1) * 9 + i]? = some u
    rw [List.getElem?_append_right (by simp [cells_len8]; omega), show (j + 1) * 9 + i - (Value.int .i64 x.1 :: x.2.1.cells).length = j * 9 + i by simp [cells_len8]; omega]
    exact stepCell xs j (by simpa using hj) i u h
theorem rowForm {w : World} {b e z : Nat} {v : Value} {n : Nat} {xs : List Value} (h : w.ownsRow b e z v n xs) : ∃ A c, v = .slice A n c ∧ (0 < n → ∃ g, A = some ⟨g, 0, none⟩) := by
  rcases h.2 with ⟨rfl, rfl⟩ | ⟨g, cap, cur, rfl, _⟩
  · exact ⟨none, 0, rfl, fun h => by omega⟩
  · exact ⟨_, cap, rfl, fun _ => ⟨g, rfl⟩⟩
theorem strF {a b : ByteArray} (h : ¬ a = b) : (a.toList == b.toList) = false := by
  rw [beq_eq_false_iff_ne]
  exact fun e => h (bytes_inj (by rw [ByteArray.toList_eq, ByteArray.toList_eq] at e; exact e))
theorem setKeeps {B : Nat} {w wr : World} {g : Nat} (hb : Below B w wr) (hg : B ≤ g) (i : Nat) (u : Value) : Below B w (wr.setCell ⟨g, i, none⟩ u) :=
  ⟨hb.os, hb.tape, hb.output, by have := hb.size; simpa [World.setCell] using this, fun k hk => (Below.heap_setCell _ _ _ _ (by show k ≠ g; omega)).trans (hb.block k hk)⟩
end Go.Proofs.Ytojlhlepneefoaa
