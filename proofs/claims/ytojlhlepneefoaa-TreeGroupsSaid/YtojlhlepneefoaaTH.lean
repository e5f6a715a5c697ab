/- A sequence of groups: how it lies in memory. -/
import Derived.Test.YtojlhlepneefoaaTG
namespace Go.Proofs.Ytojlhlepneefoaa
open Go.RowKit PAll Go.Proofs.YtojlhlepneefoaaW.PrintWords Go.Proofs.YtojlhlepneefoaaW.PrintLast Go.Proofs.YtojlhlepneefoaaW.PrintMore
open Go.Shelf
set_option linter.unusedVariables false
set_option linter.unusedSimpArgs false

/-- A value that is right in every world that has the blocks of fp. -/
def okF (w : World) (fp : Nat → Prop) (v : NV) : Prop := ∀ W, (∀ k, fp k → W.heap[k]? = w.heap[k]?) → v.ok W
theorem okF.now {w : World} {fp : Nat → Prop} {v : NV} (h : okF w fp v) : v.ok w := h w fun _ _ => rfl
theorem okF.move {w w' : World} {fp : Nat → Prop} {v : NV} (h : okF w fp v) (k : ∀ k, fp k → w'.heap[k]? = w.heap[k]?) : okF w' fp v := fun W q => h W fun i hi => (q i hi).trans (k i hi)
theorem letter_own (c : Int) (w : World) : Calls Try.prog 37 #[.int .i64 c] w fun e w' => ∃ v : NV, e = .returned v.val ∧ v.n = letN c ∧ okF w' (fun k => w.heap.size ≤ k ∧ k < w'.heap.size) v ∧ Kp [] w w' := by
  refine (burinlaw06_letter.calls c 3 [⟨c, c⟩] 0 ⟨#[]⟩ 0 0 false [] w rfl).mono ?_
  rintro e w' ⟨v1, v7, rfl, h1, h7, hb⟩
  obtain ⟨A1, c1, rfl⟩ := Kd.R_slice h1
  obtain ⟨A7, c7, rfl⟩ := Kd.R_slice h7
  refine ⟨⟨letN c, A1, c1, A7, c7⟩, rfl, rfl, fun W hW => ?_, Kp.ofBelow hb⟩
  have g1 := Kd.R_reads' (Kd.R_move (Kd.R_bound h1) (w1 := W) (fun k hk => hW k ⟨hk.2.1, hk.2.2.1⟩))
  have g7 := Kd.R_reads' (Kd.R_move (Kd.R_bound h7) (w1 := W) (fun k hk => hW k ⟨hk.2.1, hk.2.2.1⟩))
  exact ⟨g1.2.1, g1.2.2, g7.2.1, g7.2.2⟩
theorem okF_one {w : World} {fp : Nat → Prop} {C : Nat} {lv : NV} (h : okF w fp lv) (hC : w.heap[C]? = some (.cells ([lv].flatMap NV.cells).toArray 25 (0, 0))) (x : S25) (hx : x.f7 = [lv.n]) (h1 : x.f1 = []) : okF w (fun k => fp k ∨ k = C) ⟨x, none, 0, some ⟨C, 0, none⟩, 1⟩ := fun W q => by
  have R := rowMake (w := W) (vs := [lv]) ((q C (.inr rfl)).trans hC) (fun v hv => by simp at hv; subst hv; exact h W (fun k hk => q k (.inl hk))) (by simp)
  obtain ⟨x0, x1, x2, x3, x4, x5, x6, x7⟩ := x
  dsimp only at hx h1
  subst hx h1
  exact ⟨Nat.zero_le _, ⟨rfl, Nat.zero_le _, fun h => absurd h (by simp)⟩, Nat.le_refl _, R⟩
/-- A row of nodes of the call's own. -/
theorem rowMake2 {w : World} {b g cap : Nat} {vs : List NV} (ho : w.ownsRow b 25 8 (.slice (some ⟨g, 0, none⟩) vs.length cap) vs.length (vs.flatMap NV.cells)) (hok : ∀ v ∈ vs, v.ok w) (hl : vs.length ≤ 9223372036854775807) :
    Kd.C k25 w (some ⟨g, 0, none⟩) vs.length (vs.map (·.n)) := by
  refine ⟨by simp, hl, fun hn => ⟨_, rfl, fun j x hj => ?_⟩⟩
  rw [List.getElem?_map] at hj
  cases hj' : vs[j]? with
  | none => rw [hj'] at hj; cases hj
  | some v =>
    rw [hj'] at hj
    cases hj
    have hlt : j < vs.length := (List.getElem?_eq_some_iff.1 hj').1
    have ev : vs[j] = v := (List.getElem?_eq_some_iff.1 hj').2
    refine ⟨v.cells, rfl, (hok v (by rw [← ev]; exact List.getElem_mem hlt)).k25, fun i u hu => ?_⟩
    have hi : i < 8 := (List.getElem?_eq_some_iff.1 hu).1
    rw [addNone, show (0 : Nat) + (j * k25.sz + i) = j * 8 + i by (show (0 : Nat) + (j * 8 + i) = j * 8 + i); omega, ho.cellAt (j * 8 + i) (by omega)]
    exact flat8 vs j hlt i u (by rw [ev]; exact hu)
def catC (u : Value) : Array Value := #[.int .i64 7, .slice none 0 0, .int .i64 0, .string ⟨#[]⟩, .int .i64 0, .int .i64 0, .bool false, u]
/-- A node over a row of its own, in the box B. -/
structure GRow (B : Nat) (vs : List NV) (u : Value) (wr : World) : Prop where
  box : wr.heap[B]? = some (.cells (catC u) 25 (0, 0))
  row : wr.ownsRow (B + 1) 25 8 u vs.length (vs.flatMap NV.cells)
  each : ∀ v ∈ vs, ∃ fp : Nat → Prop, okF wr fp v ∧ ∀ k, fp k → k < wr.heap.size ∧ k ≠ B ∧ some k ≠ u.ownBlock
theorem GRow.kp {B : Nat} {vs : List NV} {u : Value} {w w' : World} (h : GRow B vs u w) (k : Kp [] w w') : GRow B vs u w' :=
  ⟨kblk k h.box, rowKp h.row k, fun v hv => by
    obtain ⟨fp, h1, h2⟩ := h.each v hv
    exact ⟨fp, h1.move (fun i hi => k.block i (h2 i hi).1 (by simp)), fun i hi => ⟨Nat.lt_of_lt_of_le (h2 i hi).1 k.size, (h2 i hi).2⟩⟩⟩
theorem GRow.tree {B : Nat} {vs : List NV} {u : Value} {w : World} (h : GRow B vs u w) (hl : vs.length ≤ 1000000) : ∃ A c, u = .slice A vs.length c ∧ (⟨catN (vs.map (·.n)), none, 0, A, c⟩ : NV).ok w ∧ (0 < vs.length → ∃ g, A = some ⟨g, 0, none⟩) := by
  have hok : ∀ v ∈ vs, v.ok w := fun v hv => by obtain ⟨fp, h1, _⟩ := h.each v hv; exact h1.now
  rcases h.row.2 with ⟨rfl, h0⟩ | ⟨g, cap, cur, rfl, hb, hg, hnc, hcm, hcs, _⟩
  · have : vs = [] := List.eq_nil_of_length_eq_zero h0
    subst this
    exact ⟨none, 0, rfl, ⟨Nat.zero_le _, ⟨rfl, Nat.zero_le _, fun h => absurd h (by simp [catN])⟩, by simp [catN], ⟨by simp [catN], by simp [catN], fun h => absurd h (by simp [catN])⟩⟩, fun h => by simp at h⟩
  · refine ⟨_, cap, rfl, ⟨Nat.zero_le _, ⟨rfl, Nat.zero_le _, fun h => absurd h (by simp [catN])⟩, by simpa [catN] using hnc, ?_⟩, fun _ => ⟨g, rfl⟩⟩
    have R := rowMake2 h.row hok (by omega)
    show Kd.C k25 w (some ⟨g, 0, none⟩) (vs.map (·.n)).length (vs.map (·.n))
    rw [List.length_map]
    exact R
theorem GRow.grow {B : Nat} {vs : List NV} {u u' : Value} {wr w3 w5 : World} {lv : NV} {m : Int} {s : ByteArray} (h : GRow B vs u wr) (k3 : Kp [] wr w3) (hn : lv.n = letN 97) (hl : okF w3 (fun k => wr.heap.size ≤ k ∧ k < w3.heap.size) lv)
    (hg : ((w3.alloc (.cells lv.cells.toArray 25)).alloc (.cells (⟨grN m s, none, 0, some ⟨w3.heap.size, 0, none⟩, 1⟩ : NV).cells.toArray 25)).grownBy w5 u.ownBlock)
    (ho : w5.ownsRow (B + 1) 25 8 u' (vs.length + 1) (vs.flatMap NV.cells ++ (⟨grN m s, none, 0, some ⟨w3.heap.size, 0, none⟩, 1⟩ : NV).cells)) (hat : u'.ownBlock = u.ownBlock ∨ u'.ownBlock = some (w3.heap.size + 1 + 1)) :
    GRow B (vs ++ [⟨grN m s, none, 0, some ⟨w3.heap.size, 0, none⟩, 1⟩]) u' (w5.setCell ⟨B, 7, none⟩ u') := by
  have hBl := ltB h.box
  have hsz := k3.size
  have hsz5 := hg.size
  simp only [World.size_alloc] at hsz5
  have hub : ∀ k, u.ownBlock = some k → B + 1 ≤ k ∧ k < wr.heap.size := fun k hk => h.row.lt k hk
  have hub' : ∀ k, u'.ownBlock = some k → B + 1 ≤ k := fun k hk => (ho.lt k hk).1
  have old4 : ∀ k, k < w3.heap.size → ((w3.alloc (.cells lv.cells.toArray 25)).alloc (.cells (⟨grN m s, none, 0, some ⟨w3.heap.size, 0, none⟩, 1⟩ : NV).cells.toArray 25)).heap[k]? = w3.heap[k]? := fun k hk =>
    (Below.heap_alloc _ _ _ (by simp; omega)).trans (Below.heap_alloc _ _ _ hk)
  have old5 : ∀ k, k < w3.heap.size → some k ≠ u.ownBlock → w5.heap[k]? = w3.heap[k]? := fun k hk hne => (hg.block k (by simp; omega) hne).trans (old4 k hk)
  have hb5 : w5.heap[B]? = some (.cells (catC u) 25 (0, 0)) := (old5 B (by omega) (fun e => by have := hub B e.symm; omega)).trans ((k3.block B hBl (by simp)).trans h.box)
  have hC4 : ((w3.alloc (.cells lv.cells.toArray 25)).alloc (.cells (⟨grN m s, none, 0, some ⟨w3.heap.size, 0, none⟩, 1⟩ : NV).cells.toArray 25)).heap[w3.heap.size]? = some (.cells lv.cells.toArray 25 (0, 0)) :=
    (Below.heap_alloc _ _ _ (by simp)).trans (heap_alloc_new _ _)
  have hC5 : w5.heap[w3.heap.size]? = some (.cells lv.cells.toArray 25 (0, 0)) := (hg.block _ (by simp; omega) (fun e => by have := hub _ e.symm; omega)).trans hC4
  have setO : ∀ k, k ≠ B → (w5.setCell ⟨B, 7, none⟩ u').heap[k]? = w5.heap[k]? := fun k hk => Below.heap_setCell _ _ _ _ hk
  refine ⟨?_, ?_, ?_⟩
  · rw [setB hb5 7 u']; rfl
  · have : w5.grownBy (w5.setCell ⟨B, 7, none⟩ u') (some B) := ⟨rfl, rfl, rfl, by simp [World.setCell], fun k _ hk => setO k (fun e => hk (by rw [e]))⟩
    have := ho.kept this (by
      cases hu : u'.ownBlock with
      | none => exact .inl rfl
      | some k => right; intro e; have := hub' k hu; injection e with e; omega)
    simpa using this
  · intro v hv
    rcases List.mem_append.1 hv with hv | hv
    · obtain ⟨fp, h1, h2⟩ := h.each v hv
      refine ⟨fp, h1.move (fun k hk => (setO k (h2 k hk).2.1).trans ((old5 k (by have := (h2 k hk).1; omega) (h2 k hk).2.2).trans (k3.block k (h2 k hk).1 (by simp)))), fun k hk => ⟨?_, (h2 k hk).2.1, ?_⟩⟩
      · have := (h2 k hk).1; simp [World.setCell]; omega
      · rcases hat with e | e
        · rw [e]; exact (h2 k hk).2.2
        · rw [e]; intro e2; have := (h2 k hk).1; injection e2 with e2; omega
    · simp only [List.mem_singleton] at hv
      subst hv
      have l5 : okF (w5.setCell ⟨B, 7, none⟩ u') (fun k => wr.heap.size ≤ k ∧ k < w3.heap.size) lv := hl.move (fun k hk => (setO k (by omega)).trans (old5 k hk.2 (fun e => by have := hub k e.symm; omega)))
      refine ⟨_, okF_one l5 (C := w3.heap.size) (by rw [setO _ (by omega), hC5]; simp) _ (by rw [hn]; rfl) rfl, ?_⟩
      intro k hk
      have hkb : wr.heap.size ≤ k ∧ k ≤ w3.heap.size := by rcases hk with hk | hk <;> omega
      refine ⟨by simp [World.setCell]; omega, by omega, ?_⟩
      rcases hat with e | e
      · rw [e]; intro e2; have := hub k e2.symm; omega
      · rw [e]; intro e2; injection e2 with e2; omega
theorem flat_set : ∀ (vs : List NV) (k : Nat) (hk : k < vs.length) (x : Int), (vs.flatMap NV.cells).set (k * 8 + 2) (.int .i64 x) = (vs.set k { vs[k] with n := { vs[k].n with f2 := x } }).flatMap NV.cells
  | [], k, hk, _ => by simp at hk
  | v :: vs, 0, hk, x => by
    rw [List.flatMap_cons, List.set_append_left _ _ (by rw [cells_len8]; omega)]
    rfl
  | v :: vs, k + 1, hk, x => by
    rw [List.flatMap_cons, List.set_append_right _ _ (by rw [cells_len8]; omega), cells_len8, show (k + 1) * 8 + 2 - 8 = k * 8 + 2 by omega, flat_set vs k (by simpa using hk) x]
    rfl
theorem GRow.store {B g cap k : Nat} {vs : List NV} {w : World} (hk : k < vs.length) (x : Int) (h : GRow B vs (.slice (some ⟨g, 0, none⟩) vs.length cap) w) :
    GRow B (vs.set k { vs[k] with n := { vs[k].n with f2 := x } }) (.slice (some ⟨g, 0, none⟩) vs.length cap) (w.setCell ⟨g, k * 8 + 2, none⟩ (.int .i64 x)) := by
  have hg := h.row.lt g rfl
  have hst := (h.row.stored (k * 8 + 2) (.int .i64 x)).1
  rw [flat_set vs k hk x] at hst
  refine ⟨?_, by simpa using hst, ?_⟩
  · rw [Below.heap_setCell _ _ _ _ (by show B ≠ g; omega)]; exact h.box
  · intro v hv
    have hmem : v ∈ vs ∨ v = { vs[k] with n := { vs[k].n with f2 := x } } := by
      rcases List.mem_or_eq_of_mem_set hv with h | h
      · exact .inl h
      · exact .inr h
    have key : ∀ v0 ∈ vs, ∃ fp : Nat → Prop, okF (w.setCell ⟨g, k * 8 + 2, none⟩ (.int .i64 x)) fp v0 ∧ ∀ i, fp i → i < (w.setCell ⟨g, k * 8 + 2, none⟩ (.int .i64 x)).heap.size ∧ i ≠ B ∧ some i ≠ (Value.slice (some ⟨g, 0, none⟩) vs.length cap).ownBlock := by
      intro v0 hv0
      obtain ⟨fp, h1, h2⟩ := h.each v0 hv0
      exact ⟨fp, h1.move (fun i hi => Below.heap_setCell _ _ _ _ (fun e => (h2 i hi).2.2 (by rw [e]; rfl))), fun i hi => ⟨by simpa [World.setCell] using (h2 i hi).1, (h2 i hi).2⟩⟩
    rcases hmem with hv | rfl
    · exact key v hv
    · obtain ⟨fp, h1, h2⟩ := key vs[k] (List.getElem_mem hk)
      exact ⟨fp, fun W hW => by have := h1 W hW; exact ⟨this.l1, this.g1, this.l7, this.g7⟩, h2⟩
theorem strOpen {w : World} {A : Option Addr} {l : List ByteArray} (h : Kd.C Kd.string w A l.length l) (hn : 0 < l.length) : ∃ b o, A = some ⟨b, o, none⟩ ∧ b < w.heap.size ∧ ∀ j (hj : j < l.length), w.cell? ⟨b, o + j, none⟩ = some (.string l[j]) := by
  obtain ⟨ad, rfl, hc⟩ := h.2.2 hn
  obtain ⟨b, o, s⟩ := ad
  have each : ∀ j (hj : j < l.length), w.cell? (Addr.add ⟨b, o, s⟩ j) = some (.string l[j]) := by
    intro j hj
    obtain ⟨c, hl, hK, hcell⟩ := hc j l[j] (List.getElem?_eq_getElem hj)
    obtain rfl : c = [.string l[j]] := hK
    have := hcell 0 _ rfl
    rw [show j * Kd.string.sz + 0 = j by (show j * 1 + 0 = j); omega] at this
    exact this
  obtain rfl : s = none := by
    have := each 0 hn
    cases s with
    | none => rfl
    | some k => simp [Addr.add, World.cell?] at this; split at this <;> simp at this
  refine ⟨b, o, rfl, World.block_lt_of_cell? w _ (each 0 hn), fun j hj => ?_⟩
  have := each j hj
  rwa [addNone] at this
theorem few_l (l : List ByteArray) (hl : l.length ≤ 9223372036854775806) (b : Int) : ∀ (n i k : Nat), l.length - i ≤ n → i ≤ l.length → burinbook_Few.l0 (n + k + 1) l b (i : Int) = some ((l.drop i).all fun s => decide ((s.size : Int) ≤ b))
  | 0, i, k, hn, hi => by rw [burinbook_Few.l0, if_neg (by omega), List.drop_eq_nil_of_le (by omega)]; rfl
  | n + 1, i, k, hn, hi => by
    by_cases h : i < l.length
    · rw [show n + 1 + k + 1 = (n + k + 1) + 1 by omega, burinbook_Few.l0, if_pos (by omega), if_pos (by omega), show wrap64 ((i : Int) + 1) = ((i + 1 : Nat) : Int) by unfold wrap64; omega, few_l l hl b n (i + 1) k (by omega) (by omega), show rdOf ByteArray.empty l (i : Int) = l[i] by simp [rdOf, List.getD, h], List.drop_eq_getElem_cons h, List.all_cons]
      by_cases hs : (l[i].size : Int) ≤ b
      · rw [if_neg (by omega), decide_eq_true hs, Bool.true_and]
      · rw [if_pos (by omega), decide_eq_false hs, Bool.false_and]
    · obtain rfl : i = l.length := by omega
      rw [burinbook_Few.l0, if_neg (by omega), List.drop_length]; rfl
def fewB (l : List ByteArray) : Bool := decide (l.length ≤ 40) && l.all fun s => decide ((s.size : Int) ≤ 100)
theorem few_calls (A : Option Addr) (c : Nat) (l : List ByteArray) (w : World) (h : Kd.C Kd.string w A l.length l) (hc : l.length ≤ c) : Calls Try.prog 48 #[.slice A l.length c, .int .i64 40, .int .i64 100] w fun e w' => e = .returned (.bool (fewB l)) ∧ Kp [] w w' := by
  refine (burinbook_Few.calls (l.length + 1) A c l 40 100 (fewB l) w h hc ?_).mono fun e w' ⟨h, q⟩ => ⟨h, Kp.ofDrawn q⟩
  unfold burinbook_Few.f fewB
  by_cases h40 : l.length ≤ 40
  · rw [if_neg (by omega), decide_eq_true h40, Bool.true_and]
    have := few_l l (by omega) 100 l.length 0 0 (by omega) (by omega)
    simpa using this
  · rw [if_pos (by omega), decide_eq_false h40, Bool.false_and]

end Go.Proofs.Ytojlhlepneefoaa
