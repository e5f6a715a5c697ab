/- The document's All: a row of its own, of steps whose nodes share what came in; its walk. -/
import Derived.Test.YtojlhlepneefoaaK
import Derived.Deep.LoopGhost
import Derived.IntWalk
import Derived.Maps.AppendAt
namespace Go.Proofs.Ytojlhlepneefoaa
open Go.RowKit PAll Go.Proofs.YtojlhlepneefoaaW.PrintWords Go.Proofs.YtojlhlepneefoaaW.PrintLast Go.Proofs.YtojlhlepneefoaaW.PrintMore
open Go.Shelf
set_option linter.unusedVariables false
set_option linter.unusedSimpArgs false

theorem try_info70 : (Try.prog.info? 70).map (fun i => (i.zero, i.size, i.bytes)) = some (some (.agg #[(.int .i64 0), (.int .i64 0), (.slice none 0 0), (.int .i64 0), (.string ⟨#[]⟩), (.int .i64 0), (.int .i64 0), (.bool false), (.slice none 0 0)]), 9, 112) := by kernel_rfl
def stepCells {w : World} (xs : List (Step w)) : List Value := xs.flatMap fun x => .int .i64 x.1 :: x.2.1.cells
theorem cells_len8 (v : NV) : v.cells.length = 8 := rfl
theorem stepCells_len {w : World} (xs : List (Step w)) : (stepCells xs).length = xs.length * 9 := by
  induction xs with
  | nil => rfl
  | cons x xs ih => simp only [stepCells, List.flatMap_cons, List.length_append, List.length_cons] at ih ⊢; rw [ih, cells_len8]; omega
theorem stepCells_app {w : World} (xs ys : List (Step w)) : stepCells (xs ++ ys) = stepCells xs ++ stepCells ys := by simp [stepCells]
def AllI (w0 W : World) (u : Value) (v : NV) (m : Nat) (d : Int) (k : Nat) (inner : List Value) (uv iv : Value) (wr : World) : Prop :=
  ∃ (j : Nat) (xs : List (Step w0)), iv = .int .i64 j ∧ j ≤ v.n.f7.length ∧ proj xs = (d, v.n) :: (v.n.f7.take j).flatMap (stepsL m (d + 1)) ∧ wr.ownsRow w0.heap.size 70 9 uv (k + xs.length) (inner ++ stepCells xs) ∧
    W.grownBy wr u.ownBlock ∧ (uv.ownBlock = u.ownBlock ∨ ∃ g, uv.ownBlock = some g ∧ W.heap.size + 1 ≤ g) ∧ wr.heap[W.heap.size]? = some (.cells v.cells.toArray 25 (0, 0))
def AllO (w0 W : World) (u : Value) (v : NV) (m : Nat) (d : Int) (k : Nat) (inner : List Value) (e : Ending) (wr : World) : Prop :=
  ∃ (u' : Value) (xs : List (Step w0)), e = .returned u' ∧ proj xs = stepsL m d v.n ∧ wr.ownsRow w0.heap.size 70 9 u' (k + xs.length) (inner ++ stepCells xs) ∧
    W.grownBy wr u.ownBlock ∧ (u'.ownBlock = u.ownBlock ∨ ∃ g, u'.ownBlock = some g ∧ W.heap.size ≤ g)

theorem ownBelow {w0 W W' : World} {u : Value} {k : Nat} {inner : List Value} (ho : W.ownsRow w0.heap.size 70 9 u k inner) (hb : Below w0.heap.size w0 W) (hg : W.grownBy W' u.ownBlock) : Below w0.heap.size w0 W' :=
  ⟨hg.os.trans hb.os, hg.tape.trans hb.tape, hg.output.trans hb.output, Nat.le_trans hb.size hg.size, fun i hi => (hg.block i (Nat.lt_of_lt_of_le hi hb.size) (fun e => by have := (ho.lt i e.symm).1; omega)).trans (hb.block i hi)⟩
theorem newCells (w : World) (cs : List Value) (t : TypeId) (B : Nat) (hB : B = w.heap.size) (j : Nat) (u : Value) (h : cs[j]? = some u) : (w.alloc (.cells cs.toArray t)).cell? (Addr.add ⟨B, 0, none⟩ j) = some u := by
  subst hB
  rw [addNone, cellB (heap_alloc_new w _), Nat.zero_add]
  simpa using h
theorem grownThen {a b c : World} {r : Option Nat} (h : a.grownBy b none) (k : b.grownBy c r) : a.grownBy c r :=
  ⟨k.os.trans h.os, k.tape.trans h.tape, k.output.trans h.output, Nat.le_trans h.size k.size, fun i hi hn => (k.block i (Nat.lt_of_lt_of_le hi h.size) hn).trans (h.block i hi (by simp))⟩
set_option maxRecDepth 100000 in
set_option maxHeartbeats 8000000 in
theorem all_in (w0 : World) : ∀ (m : Nat) (d : Nat), d + m = 1001 → 1 ≤ d → ∀ (v : NV), v.ok w0 → ∀ (W : World) (u : Value) (k : Nat) (inner : List Value), Below w0.heap.size w0 W → W.ownsRow w0.heap.size 70 9 u k inner → k + (stepsL m d v.n).length ≤ 1000000 →
    Calls Try.prog 45 #[u, v.val, .int .i64 (d : Int)] W (AllO w0 W u v m d k inner) := by
  intro m
  induction m with
  | zero =>
    intro d hd hd1 v hv W u k inner hb ho hN
    have dd : decide ((1000 : Int) < (d : Int)) = true := decide_eq_true (by omega)
    have fin : ∀ w', W.grownBy w' none → AllO w0 W u v 0 d k inner (.returned u) w' := by
      intro w' hg
      exact ⟨u, [], rfl, rfl, by simpa [stepCells] using ho.kept hg (by cases u.ownBlock <;> simp), ⟨hg.os, hg.tape, hg.output, hg.size, fun i hi _ => hg.block i hi (by simp)⟩, .inl rfl⟩
    have FIN := Lib.hid fin
    clear fin
    obtain ⟨⟨kd, set, num, nm, mn, mx, lz, subs⟩, A1, c1, A7, c7⟩ := v
    dsimp only [NV.val, NV.cells] at FIN ⊢
    go_enter Try.func45, Try.ntmps45
    go_wp2_with fail
    go_ret
    exact FIN.out _ (World.grownBy_alloc _ _ none)
  | succ m ih =>
    intro d hd hd1 v hv W u k inner hb ho hN
    have e1 : stepsL (m + 1) (d : Int) v.n = ((d : Int), v.n) :: v.n.f7.flatMap (stepsL m ((d : Int) + 1)) := rfl
    have hN1 : k + 1 + (v.n.f7.flatMap (stepsL m ((d : Int) + 1))).length ≤ 1000000 := by rw [e1] at hN; simp only [List.length_cons] at hN; omega
    have dd : decide ((1000 : Int) < (d : Int)) = false := decide_eq_false (by omega)
    obtain ⟨i0, hi, hz0, hz1, hz2⟩ := info_parts try_info70
    obtain ⟨W1, hW1⟩ : ∃ W1, W1 = W.alloc (.cells v.cells.toArray 25) := ⟨_, rfl⟩
    have hB1 : W1.heap[W.heap.size]? = some (.cells v.cells.toArray 25 (0, 0)) := by rw [hW1]; exact heap_alloc_new W _
    have ho1 : W1.ownsRow w0.heap.size 70 9 u k inner := by rw [hW1]; exact ho.alloc _
    have hs1 : W1.heap.size = W.heap.size + 1 := by rw [hW1]; simp
    have hg1 : W.grownBy W1 none := by rw [hW1]; exact World.grownBy_alloc _ _ none
    have hbs := hb.size
    have fin0 : ∀ (u1 : Value) (w1 : World), w1.ownsRow w0.heap.size 70 9 u1 (k + 1) (inner ++ (.int .i64 (d : Int) :: v.cells)) → (W1.alloc (.cells (.int .i64 (d : Int) :: v.cells).toArray 70)).grownBy w1 u.ownBlock → (u1.ownBlock = u.ownBlock ∨ u1.ownBlock = some (W.heap.size + 1 + 1)) → AllI w0 W u v m d k inner u1 (.int .i64 0) w1 := by
      intro u1 w1 h1 h2 h3
      have g1 := grownThen (grownThen hg1 (World.grownBy_alloc W1 (.cells (.int .i64 (d : Int) :: v.cells).toArray 70) none)) h2
      refine ⟨0, [⟨(d : Int), ⟨v, hv⟩⟩], rfl, Nat.zero_le _, by simp [proj], by simpa [stepCells] using h1, g1, ?_, ?_⟩
      · rcases h3 with h3 | h3
        · exact .inl h3
        · exact .inr ⟨_, h3, by omega⟩
      · rw [h2.block W.heap.size (by simp [hs1]; omega) (fun e => by have := (ho.lt _ e.symm).2; omega)]
        exact (Below.heap_alloc _ _ _ (by omega)).trans hB1
    have stepA : ∀ (j : Nat) (hj : j < v.n.f7.length) (vj : NV), vj.ok w0 → vj.n = v.n.f7[j] → ∀ (uv : Value) (wr : World), AllI w0 W u v m d k inner uv (.int .i64 (j : Int)) wr → Calls Try.prog 45 #[uv, vj.val, .int .i64 ((d : Int) + 1)] wr fun e w' => ∃ u', e = .returned u' ∧ AllI w0 W u v m d k inner u' (.int .i64 ((j : Int) + 1)) w' := by
      intro j hj vj hvj hn uv wr hI
      obtain ⟨j', xs, e1', hjl, hp, how, hgr, hat, hbx⟩ := hI
      obtain rfl : j = j' := by injection e1' with _ h; omega
      have htake : v.n.f7.take (j + 1) = v.n.f7.take j ++ [vj.n] := by rw [List.take_succ_eq_append_getElem hj, hn]
      have hlen : (v.n.f7.flatMap (stepsL m ((d : Int) + 1))).length = ((v.n.f7.take j).flatMap (stepsL m ((d : Int) + 1))).length + (stepsL m ((d : Int) + 1) vj.n).length + ((v.n.f7.drop (j + 1)).flatMap (stepsL m ((d : Int) + 1))).length := by
        conv => lhs; rw [← List.take_append_drop (j + 1) v.n.f7, htake]
        simp only [List.flatMap_append, List.length_append, List.flatMap_cons, List.flatMap_nil, List.append_nil]
      have hxl : xs.length = 1 + ((v.n.f7.take j).flatMap (stepsL m ((d : Int) + 1))).length := by
        have := congrArg List.length hp
        simp only [proj, List.length_map, List.length_cons] at this
        omega
      have hbr := ownBelow ho hb hgr
      have := ih (d + 1) (by omega) (by omega) vj hvj wr uv (k + xs.length) (inner ++ stepCells xs) hbr how (by rw [show ((d + 1 : Nat) : Int) = (d : Int) + 1 by simp]; omega)
      rw [show ((d + 1 : Nat) : Int) = (d : Int) + 1 by simp] at this
      refine this.mono ?_
      rintro e w' ⟨u', ys, rfl, hp2, ho2, hg2, hat2⟩
      have hblk : ∀ i, i < W.heap.size + 1 → some i ≠ u.ownBlock → some i ≠ uv.ownBlock := by
        intro i hi hne he
        rcases hat with h | ⟨g, h, hg⟩
        · exact hne (he.trans h)
        · rw [h] at he
          have := Option.some.inj he
          omega
      have hsz := hgr.size
      have hbl := ltB hbx
      refine ⟨u', rfl, j + 1, xs ++ ys, by simp, hj, ?_, ?_, ⟨hg2.os.trans hgr.os, hg2.tape.trans hgr.tape, hg2.output.trans hgr.output, Nat.le_trans hgr.size hg2.size, fun i hi hne => (hg2.block i (by omega) (hblk i (by omega) hne)).trans (hgr.block i hi hne)⟩, ?_, ?_⟩
      · rw [htake, List.flatMap_append]
        simp only [proj, List.map_append] at hp hp2 ⊢
        rw [hp, hp2]
        simp
      · rw [stepCells_app, ← List.append_assoc, List.length_append, ← Nat.add_assoc]
        exact ho2
      · rcases hat2 with h | ⟨g, h, hg⟩
        · rw [h]; exact hat
        · exact .inr ⟨g, h, by omega⟩
      · rw [hg2.block _ hbl (hblk _ (by omega) (fun e => by have := (ho.lt _ e.symm).2; omega))]
        exact hbx
    have finE : ∀ (uv : Value) (wr : World), AllI w0 W u v m d k inner uv (.int .i64 (v.n.f7.length : Int)) wr → AllO w0 W u v (m + 1) d k inner (.returned uv) wr := by
      intro uv wr hI
      obtain ⟨j', xs, e1', hjl, hp, how, hgr, hat, hbx⟩ := hI
      obtain rfl : v.n.f7.length = j' := by injection e1' with _ h; omega
      rw [List.take_length] at hp
      refine ⟨uv, xs, rfl, by rw [hp]; exact e1.symm, how, hgr, ?_⟩
      rcases hat with h | ⟨g, h, hg⟩
      · exact .inl h
      · exact .inr ⟨g, h, by omega⟩
    have hl7 := hv.g7.2.1
    have hl8 := hv.l7
    have FIN0 := Lib.hid fin0
    have SA := Lib.hid stepA
    have FE := Lib.hid finE
    have HV := Lib.hid hv
    have HO := Lib.hid ho
    have wd : IntKind.i64.wrap ((d : Int) + 1) = (d : Int) + 1 := IntWalk.i64_in _ (by omega)
    clear fin0 hv e1 ho stepA finE ih
    obtain ⟨vv, hvv⟩ : ∃ vv, vv = v := ⟨_, rfl⟩
    rw [← hvv] at FIN0 SA FE HV hB1 ⊢
    obtain ⟨⟨kd, set, num, nm, mn, mx, lz, subs⟩, A1, c1, A7, c7⟩ := v
    dsimp only at hl7 hl8
    have eV : vv.val = .agg #[.int .i64 kd, .slice A1 set.length c1, .int .i64 num, .string nm, .int .i64 mn, .int .i64 mx, .bool lz, .slice A7 subs.length c7] := by rw [hvv]; rfl
    have eC : vv.cells = [.int .i64 kd, .slice A1 set.length c1, .int .i64 num, .string nm, .int .i64 mn, .int .i64 mx, .bool lz, .slice A7 subs.length c7] := by rw [hvv]; rfl
    have e7 : vv.n.f7 = subs := by rw [hvv]
    have eA7 : vv.A7 = A7 := by rw [hvv]
    rw [eC] at FIN0 hB1
    try rw [eV]
    replace FIN0 : Hid (∀ (u1 : Value) (w1 : World), w1.ownsRow w0.heap.size 70 9 u1 (k + 1) (inner ++ [.int .i64 (d : Int), .int .i64 kd, .slice A1 set.length c1, .int .i64 num, .string nm, .int .i64 mn, .int .i64 mx, .bool lz, .slice A7 subs.length c7]) → (W1.alloc (.cells #[.int .i64 (d : Int), .int .i64 kd, .slice A1 set.length c1, .int .i64 num, .string nm, .int .i64 mn, .int .i64 mx, .bool lz, .slice A7 subs.length c7] 70)).grownBy w1 u.ownBlock → (u1.ownBlock = u.ownBlock ∨ u1.ownBlock = some (W.heap.size + 1 + 1)) → AllI w0 W u vv m d k inner u1 (.int .i64 0) w1) := FIN0
    try rw [hvv] at hW1
    dsimp only [NV.cells] at hW1
    replace hvv := Lib.hid hvv
    replace eV := Lib.hid eV
    replace eC := Lib.hid eC
    replace e7 := Lib.hid e7
    replace eA7 := Lib.hid eA7
    replace hB1 := Lib.hid hB1
    go_enter Try.func45, Try.ntmps45
    go_wp2_with (rw [← hW1]; at_builtin; refine wpList_append_own_at _ rfl _ _ 61 rfl w0.heap.size 70 i0 _ 9 112 Try.underlying61 hi hz0 hz1 hz2 rfl (by decide) _ _ _ rfl (ho1.alloc _) ⟨W.heap.size + 1, 0, none⟩ 1 1 [.int .i64 (d : Int), .int .i64 kd, .slice A1 set.length c1, .int .i64 num, .string nm, .int .i64 mn, .int .i64 mx, .bool lz, .slice A7 subs.length c7] rfl rfl (newCells _ _ _ _ hs1.symm) (by simp [Value.oneCell']) (by unfold maxLen; omega) (by omega) (by simp [hs1]; omega) ?_; intro u1 w1 hown1 hgrow1 _ hat1; rw [World.size_alloc, hs1] at hat1; have I0 := FIN0.out u1 w1 hown1 hgrow1 hat1)
    replace I0 := Lib.hid I0
    clear FIN0 ho1 hown1 hgrow1 hat1
    go_loopw [0, 7] (fun uv iv wr => AllI w0 W u vv m d k inner uv iv wr) (fun _ iv _ => subs.length - (intOf iv).toNat)
    case atStart => exact I0.out
    case round =>
      have hr2 := hrel
      obtain ⟨j, xs, rfl, hjl, -, -, -, -, hbx⟩ := hr2
      rw [e7.out] at hjl
      rw [eC.out] at hbx
      have z7 := cellB hbx 7
      simp at z7
      have hbl := ltB hbx
      clear hbx
      replace hrel := Lib.hid hrel
      by_cases hlt : j < subs.length
      · have dk : decide ((j : Int) < (subs.length : Int)) = true := decide_eq_true (by omega)
        obtain ⟨b, o, hA7, hbw, vs, hvs, hok, hc⟩ := rowOpen HV.out.g7 (by rw [e7.out]; omega)
        rw [eA7.out] at hA7
        subst hA7
        rw [e7.out] at hvs
        have hvl : vs.length = subs.length := by rw [← hvs]; simp
        have hkv : j < vs.length := by omega
        obtain ⟨vk, hvk⟩ : ∃ vk, vk = vs[j] := ⟨_, rfl⟩
        have hsk : vk.n = vv.n.f7[j]'(by rw [e7.out]; exact hlt) := by
          have : vv.n.f7 = vs.map (·.n) := by rw [e7.out, hvs]
          simp only [this, hvk, List.getElem_map]
        have CC := SA.out j (by rw [e7.out]; exact hlt) vk (by rw [hvk]; exact hok _ (List.getElem_mem hkv)) hsk _ wr hrel.out
        have hcell : ∀ i u, vk.cells[i]? = some u → wr.cell? ⟨b, o + j * 8 + i, none⟩ = some u := by
          intro i u hu
          rw [hvk] at hu
          have hI := hrel.out
          obtain ⟨_, _, _, _, _, _, hgr, _, _⟩ := hI
          exact (World.cell?_of_block ((ownBelow HO.out hb hgr).block b hbw)).trans (hc j hkv i u hu)
        clear hsk hvk hc hok hvs hvl hkv
        obtain ⟨⟨kd', set', num', nm', mn', mx', lz', subs'⟩, A1', c1', A7', c7'⟩ := vk
        dsimp only [NV.val, NV.cells] at hcell CC
        have y0 := hcell 0 _ rfl; have y1 := hcell 1 _ rfl; have y2 := hcell 2 _ rfl; have y3 := hcell 3 _ rfl
        have y4 := hcell 4 _ rfl; have y5 := hcell 5 _ rfl; have y6 := hcell 6 _ rfl; have y7 := hcell 7 _ rfl
        simp only [Nat.add_zero] at y0
        clear hcell
        replace CC := Lib.hid CC
        go_wp2_with (go_at_call 45; refine (CC.out).mono ?_; clear CC; rintro e w' ⟨u', rfl, hI'⟩; replace hI' := Lib.hid hI')
        go_round
        case rel => exact hI'.out
        case measure => simp [intOf]; omega
      · obtain rfl : j = subs.length := by omega
        have dk : decide ((subs.length : Int) < (subs.length : Int)) = false := decide_eq_false (by omega)
        have hE := FE.out _ wr (by rw [e7.out]; exact hrel.out)
        replace hE := Lib.hid hE
        go_wp2_with fail
        go_ret
        exact hE.out

end Go.Proofs.Ytojlhlepneefoaa
