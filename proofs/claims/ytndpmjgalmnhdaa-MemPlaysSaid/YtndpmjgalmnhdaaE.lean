/- Package mem: what a memory's functions do: find, Load, Store, Fetch, Region, Written, for every memory that New made. -/
import Derived.Test.YtndpmjgalmnhdaaD
import Derived.Test.YtndpmjgalmnhdaaShelf
import Derived.Test.YtndpmjgalmnhdaaPMemPlaysx3
namespace Go.Proofs.Ytndpmjgalmnhdaa
open Go.RowKit PMemPlays Go.Proofs.YtndpmjgalmnhdaaW.PrintWords Go.Proofs.YtndpmjgalmnhdaaW.PrintLast Go.Proofs.YtndpmjgalmnhdaaW.PrintMore
open Go.Sort Go.Shelf
set_option linter.unusedVariables false
set_option linter.unusedSimpArgs false

theorem pcells_get : ∀ (bs : List Nat) (ps : List S59) (i : Nat) (h : i < ps.length) (h' : i < bs.length), bs.length = ps.length →
    (pcells bs ps)[i * 3]? = some (.int .u64 ps[i].f0) ∧ (pcells bs ps)[i * 3 + 1]? = some (.slice (some ⟨bs[i], 0, none⟩) ps[i].f1.length ps[i].f1.length) ∧ (pcells bs ps)[i * 3 + 2]? = some (.int .i64 ps[i].f2)
  | b :: bs, p :: ps, 0, _, _, _ => by simp [pcells, pcell]
  | b :: bs, p :: ps, i + 1, h, h', e => by
    have := pcells_get bs ps i (by simpa using h) (by simpa using h') (by simpa using e)
    simp only [pcells, pcell, List.getElem_cons_succ, List.cons_append, List.nil_append]
    rw [show (i + 1) * 3 = i * 3 + 1 + 1 + 1 by omega]
    simp only [List.getElem?_cons_succ, show i * 3 + 1 + 1 + 1 + 1 = (i * 3 + 1) + 1 + 1 + 1 by omega, show i * 3 + 1 + 1 + 1 + 2 = (i * 3 + 2) + 1 + 1 + 1 by omega]
    exact this
  | [], _ :: _, _, _, h', _ => absurd h' (by simp)
  | _, [], _, h, _, _ => absurd h (by simp)

theorem IsMem.at_ {w : World} {B m : Nat} {wr : Int} {bs : List Nat} {ps : List S59} (h : IsMem w B m wr bs ps) (hn : 0 < ps.length) :
    ∃ pb c, w.heap[m]? = some (.cells #[.slice (some ⟨pb, 0, none⟩) ps.length c, .int .u64 wr] 55 (0, 0)) ∧ B ≤ pb ∧ pb < w.heap.size ∧ ∀ i (hi : i < ps.length) (hi' : i < bs.length),
      w.cell? ⟨pb, i * 3, none⟩ = some (.int .u64 ps[i].f0) ∧ w.cell? ⟨pb, i * 3 + 1, none⟩ = some (.slice (some ⟨bs[i], 0, none⟩) ps[i].f1.length ps[i].f1.length) ∧ w.cell? ⟨pb, i * 3 + 2, none⟩ = some (.int .i64 ps[i].f2) := by
  obtain ⟨A, c, h1, h2⟩ := h.st
  obtain ⟨hl, hr⟩ := h2
  rcases hr with ⟨_, h0⟩ | ⟨g, cap, cur, hv, hb, hg, hc1, hc2, hsz, htk⟩
  · omega
  · injection hv with hv1 _ hv3
    subst hv1 hv3
    refine ⟨g, c, h1, hb, ltB hg, fun i hi hi' => ?_⟩
    have key : ∀ j u, (pcells bs ps)[j]? = some u → w.cell? ⟨g, j, none⟩ = some u := by
      intro j u hj
      rw [cellB hg j]
      rw [← htk, List.getElem?_take] at hj
      split at hj
      · rwa [Array.getElem?_toList] at hj
      · simp at hj
    obtain ⟨e0, e1, e2⟩ := pcells_get bs ps i hi hi' h.len
    exact ⟨key _ _ e0, key _ _ e1, key _ _ e2⟩

theorem kp_grow (w : World) (m : Nat) (os : Array Obj) : Kp [] w (grow (w.drewN m) os) :=
  ⟨rfl, rfl, rfl, by simp [grow], fun i hi _ => by
    show ((w.drewN m).heap ++ os)[i]? = _
    rw [Array.getElem?_append_left (by show i < w.heap.size; omega)]
    rfl⟩
theorem kp_drewN (w : World) (m : Nat) : Kp [] w (w.drewN m) := ⟨rfl, rfl, rfl, Nat.le_refl _, fun _ _ _ => rfl⟩

set_option maxRecDepth 100000 in
theorem close_any (w : World) (B m wr bs ps) (h : IsMem w B m wr bs ps) (mb ab : Nat) (at_ : Int) (hm : w.cell? ⟨mb, 0, none⟩ = some (.pointer (some ⟨m, 0, none⟩))) (ha : w.cell? ⟨ab, 0, none⟩ = some (.int .u64 at_)) (i : Nat) (hi : i < ps.length) :
    Calls Try.prog 27 #[.int .i64 i, .pointer (some ⟨mb, 0, none⟩), .pointer (some ⟨ab, 0, none⟩)] w fun e w' => e = .returned (.bool (decide (at_ < ps[i].f0))) ∧ ∃ q, w' = w.drewN q := by
  obtain ⟨pb, c, h1, _, _, hc⟩ := h.at_ (by omega)
  have c0 := (hc i hi (by have := h.len; omega)).1
  clear hc
  have m0 := cellB h1 0
  simp at m0
  generalize ps[i].f0 = x at c0 ⊢
  go_enter Try.func27, Try.ntmps27
  go_wp2_with fail
  go_quiet (fail)
  go_wp2
  go_ret
  exact ⟨rfl, _, rfl⟩
theorem countP_cut : ∀ (n c : Nat) (q : Nat → Bool), c ≤ n → (∀ i, i < n → q i = decide (i < c)) → (List.range n).countP q = c
  | 0, c, q, h, _ => by simp; omega
  | n + 1, c, q, h, hq => by
    rw [List.range_succ, List.countP_append]
    by_cases hc : c ≤ n
    · rw [countP_cut n c q hc (fun i hi => hq i (by omega))]
      simp [hq n (by omega)]
      omega
    · have : c = n + 1 := by omega
      subst this
      have h1 : (List.range n).countP q = n := by
        rw [List.countP_eq_length.2]
        · simp
        · intro i hi
          rw [hq i (by have := List.mem_range.1 hi; omega)]
          have := List.mem_range.1 hi
          simp; omega
      rw [h1]
      simp [hq n (by omega)]

def Mono (ps : List S59) : Prop := ∀ i j (hi : i < ps.length) (hj : j < ps.length), i ≤ j → ps[i].f0 ≤ ps[j].f0
/-- Piece k is the last one that begins at or ahead of a place. -/
def AtK (ps : List S59) (a : Int) (k : Nat) : Prop := ∃ h : k < ps.length, ps[k].f0 ≤ a ∧ ∀ j (hj : j < ps.length), k < j → a < ps[j].f0

theorem search_any (w : World) (B m wr bs ps) (h : IsMem w B m wr bs ps) (hmono : Mono ps) (mb ab : Nat) (a : Int) (hm : w.cell? ⟨mb, 0, none⟩ = some (.pointer (some ⟨m, 0, none⟩))) (ha : w.cell? ⟨ab, 0, none⟩ = some (.int .u64 a)) (hl : ps.length ≤ 10)
    (c : Nat) (hc : c ≤ ps.length) (hcl : ∀ i (hi : i < ps.length), i < c ↔ ps[i].f0 ≤ a) :
    Calls Try.prog 26 #[.int .i64 ps.length, .func (.func 27) #[] #[.pointer (some ⟨mb, 0, none⟩), .pointer (some ⟨ab, 0, none⟩)]] w fun e w' => e = .returned (.int .i64 c) ∧ Kp [] w w' := by
  have hp : ∀ i, i < ps.length → (decide (a < (ps.getD i z59).f0)) = !decide (i < c) := by
    intro i hi
    have e : ps.getD i z59 = ps[i] := by simp [hi]
    rw [e]
    by_cases h1 : i < c
    · have := (hcl i hi).1 h1
      simp [h1]; omega
    · have : ¬ ps[i].f0 ≤ a := fun h2 => h1 ((hcl i hi).2 h2)
      simp [h1]; omega
  have hcount := countP_cut ps.length c (fun i => !decide (a < (ps.getD i z59).f0)) hc (fun i hi => by show (!decide (a < (ps.getD i z59).f0)) = _; rw [hp i hi, Bool.not_not])
  have hcon := Any.sort_Search Try.search 27 #[.pointer (some ⟨mb, 0, none⟩), .pointer (some ⟨ab, 0, none⟩)] ps.length (fun i => decide (a < (ps.getD i z59).f0)) w (enters_of Try.func27 (by kernel_rfl) rfl) (by omega)
    (fun n os i hi => by
      have k := kp_grow w n os
      have e : ps.getD i z59 = ps[i] := by simp [hi]
      rw [e]
      have hmb := World.block_lt_of_cell? w _ hm
      have hab := World.block_lt_of_cell? w _ ha
      refine (close_any _ B m wr bs ps (h.kept k (by simp)) mb ab a ((World.cell?_of_block (a := ⟨mb, 0, none⟩) (k.block mb hmb (by simp))).trans hm) ((World.cell?_of_block (a := ⟨ab, 0, none⟩) (k.block ab hab (by simp))).trans ha) i hi).mono ?_
      rintro e w' ⟨rfl, q, rfl⟩
      exact ⟨rfl, q, #[], (grow_empty _).symm⟩)
    (fun x y hxy hy h1 => by
      have ex : ps.getD x z59 = ps[x] := by simp [show x < ps.length by omega]
      have ey : ps.getD y z59 = ps[y] := by simp [hy]
      simp only [ex, ey, decide_eq_true_eq] at h1 ⊢
      have := hmono x y (by omega) hy hxy
      omega)
  change Calls Try.prog 26 _ _ _ at hcon
  refine hcon.mono ?_
  rintro e w' ⟨rfl, q, os, rfl⟩
  exact ⟨by rw [hcount], kp_grow w q os⟩

theorem AtK.cl {ps : List S59} {a : Int} {k : Nat} (h : AtK ps a k) (hm : Mono ps) : k + 1 ≤ ps.length ∧ ∀ i (hi : i < ps.length), i < k + 1 ↔ ps[i].f0 ≤ a := by
  obtain ⟨hk, h1, h2⟩ := h
  refine ⟨hk, fun i hi => ⟨fun hik => ?_, fun hle => ?_⟩⟩
  · have := hm i k hi hk (by omega)
    omega
  · rcases Nat.lt_or_ge k i with hlt | hge
    · have := h2 i hi hlt
      omega
    · omega

def Small (ps : List S59) : Prop := ps.length ≤ 10 ∧ ∀ p ∈ ps, 0 ≤ p.f0 ∧ p.f0 ≤ lastP ∧ p.f1.length ≤ 200
set_option maxRecDepth 100000 in
set_option maxHeartbeats 1000000 in
theorem find_out (w : World) (B m wr bs ps) (h : IsMem w B m wr bs ps) (hmono : Mono ps) (hs : Small ps) (a n rt : Int) (h0 : ∀ i (hi : i < ps.length), a < ps[i].f0) :
    Calls Try.prog 21 #[.pointer (some ⟨m, 0, none⟩), .int .u64 a, .int .i64 n, .int .i64 rt] w fun e w' => e = .returned (.slice none 0 0) ∧ Kp [] w w' := by
  obtain ⟨A, c, h1, h2⟩ := h.st
  have m0 := cellB h1 0
  have hmlt := ltB h1
  simp at m0
  have hl := hs.1
  go_enter Try.func21, Try.ntmps21
  have k1 : Kp [] w ((w.alloc (.cells #[.pointer (some ⟨m, 0, none⟩)] 28)).alloc (.cells #[.int .u64 a] 23)) := ((Kp.refl _ _).alloc _).alloc _
  have HS := Lib.hid (search_any _ B m wr bs ps (h.kept k1 (by simp)) hmono w.heap.size (w.heap.size + 1) a (by rw [World.cell?_alloc_past _ _ _ (by simp)]; exact cell_new1 _ _ _ rfl) (cell_new1 _ _ _ (by simp)) hl 0 (by omega) (fun i hi => ⟨fun q => by omega, fun q => by have := h0 i hi; omega⟩))
  go_wp2_with fail
  refine HS.out.mono ?_
  rintro e w' ⟨rfl, k2⟩
  go_wp2
  go_ret
  exact ⟨rfl, k1.trans k2⟩

/-- The boxes and the cells of a memory that find reads behind its search. -/
theorem find_cells {w w2 : World} {B m wr bs ps} (h : IsMem w B m wr bs ps) {a : Int} (k2 : Kp [] ((w.alloc (.cells #[.pointer (some ⟨m, 0, none⟩)] 28)).alloc (.cells #[.int .u64 a] 23)) w2) {k b : Nat} {p : S59} (hp : ps[k]? = some p) (hb : bs[k]? = some b) :
    ∃ pb c, w2.cell? ⟨w.heap.size, 0, none⟩ = some (.pointer (some ⟨m, 0, none⟩)) ∧ w2.cell? ⟨w.heap.size + 1, 0, none⟩ = some (.int .u64 a) ∧ w2.cell? ⟨m, 0, none⟩ = some (.slice (some ⟨pb, 0, none⟩) ps.length c) ∧
      w2.cell? ⟨pb, k * 3, none⟩ = some (.int .u64 p.f0) ∧ w2.cell? ⟨pb, k * 3 + 1, none⟩ = some (.slice (some ⟨b, 0, none⟩) p.f1.length p.f1.length) ∧ w2.cell? ⟨pb, k * 3 + 2, none⟩ = some (.int .i64 p.f2) := by
  have k1 : Kp [] w ((w.alloc (.cells #[.pointer (some ⟨m, 0, none⟩)] 28)).alloc (.cells #[.int .u64 a] 23)) := ((Kp.refl _ _).alloc _).alloc _
  obtain ⟨hk, rfl⟩ := List.getElem?_eq_some_iff.1 hp
  obtain ⟨hk', rfl⟩ := List.getElem?_eq_some_iff.1 hb
  obtain ⟨pb, c, h1, _, _, hc⟩ := (h.kept (k1.trans k2) (by simp)).at_ (by omega)
  obtain ⟨c0, c1, c2⟩ := hc k hk hk'
  have m0 := cellB h1 0
  simp at m0
  refine ⟨pb, c, ?_, ?_, m0, c0, c1, c2⟩
  · refine (World.cell?_of_block (a := ⟨w.heap.size, 0, none⟩) (k2.block _ (by simp; omega) (by simp))).trans ?_
    rw [World.cell?_alloc_past _ _ _ (by simp)]
    exact cell_new1 _ _ _ rfl
  · exact (World.cell?_of_block (a := ⟨w.heap.size + 1, 0, none⟩) (k2.block _ (by simp) (by simp))).trans (cell_new1 _ _ _ (by simp))

/-- What find says of a piece. -/
def Lacks (p : S59) (a n rt : Int) : Prop := Go.bits .and .i64 p.f2 rt = 0 ∨ (p.f1.length : Int) ≤ a - p.f0 ∨ p.f1.length - (a - p.f0) < n

set_option maxRecDepth 100000 in
set_option maxHeartbeats 1000000 in
theorem find_no (w : World) (B m wr bs ps) (h : IsMem w B m wr bs ps) (hmono : Mono ps) (hs : Small ps) (a n rt : Int) (k b : Nat) (p : S59) (hp : ps[k]? = some p) (hb : bs[k]? = some b) (hat : AtK ps a k) (ha : a < 18446744073709551616) (hn : 1 ≤ n) (hn8 : n ≤ 8)
    (hno : Lacks p a n rt) :
    Calls Try.prog 21 #[.pointer (some ⟨m, 0, none⟩), .int .u64 a, .int .i64 n, .int .i64 rt] w fun e w' => e = .returned (.slice none 0 0) ∧ Kp [] w w' := by
  obtain ⟨A, c, h1, h2⟩ := h.st
  have m0 := cellB h1 0
  have hmlt := ltB h1
  simp at m0
  have hl := hs.1
  obtain ⟨hc1, hcl⟩ := hat.cl hmono
  have k1 : Kp [] w ((w.alloc (.cells #[.pointer (some ⟨m, 0, none⟩)] 28)).alloc (.cells #[.int .u64 a] 23)) := ((Kp.refl _ _).alloc _).alloc _
  have HS := Lib.hid (search_any _ B m wr bs ps (h.kept k1 (by simp)) hmono w.heap.size (w.heap.size + 1) a (by rw [World.cell?_alloc_past _ _ _ (by simp)]; exact cell_new1 _ _ _ rfl) (cell_new1 _ _ _ (by simp)) hl (k + 1) hc1 hcl)
  have hklt : k < ps.length := by omega
  have hle : p.f0 ≤ a := by
    obtain ⟨hk, e⟩ := List.getElem?_eq_some_iff.1 hp
    obtain ⟨_, hle, _⟩ := hat
    rwa [e] at hle
  obtain ⟨q1, q2, q3⟩ := hs.2 p (List.mem_of_getElem? hp)
  unfold lastP at q2
  have HP := Lib.hid hp
  have HB := Lib.hid hb
  clear hs hcl hp hb
  have hw : IntKind.u64.wrap (a - p.f0) = a - p.f0 := by rw [IntKind.wrap_u64]; omega
  have hw2 : IntKind.u64.wrap (p.f1.length - (a - p.f0)) = p.f1.length - (a - p.f0) ∨ (p.f1.length : Int) ≤ a - p.f0 := by rw [IntKind.wrap_u64]; omega
  by_cases hb1 : Go.bits .and .i64 p.f2 rt = 0
  · go_enter Try.func21, Try.ntmps21
    go_wp2_with fail
    refine HS.out.mono ?_
    rintro e w' ⟨rfl, k2⟩
    obtain ⟨pb, c', x0, x1, x2, x3, x4, x5⟩ := find_cells h k2 HP.out HB.out
    have z1 := World.block_lt_of_cell? _ _ x1
    go_wp2
    go_ret
    exact ⟨rfl, (k1.trans k2).alloc _⟩
  · have hb1' : (Go.bits .and .i64 p.f2 rt == 0) = false := by simpa using hb1
    by_cases hb2 : (p.f1.length : Int) ≤ a - p.f0
    · clear hno hb1 hw2
      go_enter Try.func21, Try.ntmps21
      go_wp2_with fail
      refine HS.out.mono ?_
      rintro e w' ⟨rfl, k2⟩
      obtain ⟨pb, c', x0, x1, x2, x3, x4, x5⟩ := find_cells h k2 HP.out HB.out
      have z1 := World.block_lt_of_cell? _ _ x1
      go_wp2
      go_ret
      exact ⟨rfl, (k1.trans k2).alloc _⟩
    · have hw3 : IntKind.u64.wrap (p.f1.length - (a - p.f0)) = p.f1.length - (a - p.f0) := by rcases hw2 with h | h; exact h; exact absurd h hb2
      have hb3 : p.f1.length - (a - p.f0) < n := by rcases hno with h | h | h; exact absurd h hb1; exact absurd h hb2; exact h
      clear hno hb1 hw2
      go_enter Try.func21, Try.ntmps21
      go_wp2_with fail
      refine HS.out.mono ?_
      rintro e w' ⟨rfl, k2⟩
      obtain ⟨pb, c', x0, x1, x2, x3, x4, x5⟩ := find_cells h k2 HP.out HB.out
      have z1 := World.block_lt_of_cell? _ _ x1
      go_wp2
      go_ret
      exact ⟨rfl, (k1.trans k2).alloc _⟩

set_option maxRecDepth 100000 in
set_option maxHeartbeats 1000000 in
theorem find_yes (w : World) (B m wr bs ps) (h : IsMem w B m wr bs ps) (hmono : Mono ps) (hs : Small ps) (a n rt : Int) (k b : Nat) (p : S59) (hp : ps[k]? = some p) (hb : bs[k]? = some b) (hat : AtK ps a k) (ha : a < 18446744073709551616) (hn : 1 ≤ n) (hn8 : n ≤ 8)
    (hyes : ¬ Lacks p a n rt) :
    Calls Try.prog 21 #[.pointer (some ⟨m, 0, none⟩), .int .u64 a, .int .i64 n, .int .i64 rt] w fun e w' => e = .returned (.slice (some ⟨b, (a - p.f0).toNat, none⟩) n.toNat (p.f1.length - (a - p.f0).toNat)) ∧ Kp [] w w' := by
  obtain ⟨A, c, h1, h2⟩ := h.st
  have m0 := cellB h1 0
  have hmlt := ltB h1
  simp at m0
  have hl := hs.1
  obtain ⟨hc1, hcl⟩ := hat.cl hmono
  have k1 : Kp [] w ((w.alloc (.cells #[.pointer (some ⟨m, 0, none⟩)] 28)).alloc (.cells #[.int .u64 a] 23)) := ((Kp.refl _ _).alloc _).alloc _
  have HS := Lib.hid (search_any _ B m wr bs ps (h.kept k1 (by simp)) hmono w.heap.size (w.heap.size + 1) a (by rw [World.cell?_alloc_past _ _ _ (by simp)]; exact cell_new1 _ _ _ rfl) (cell_new1 _ _ _ (by simp)) hl (k + 1) hc1 hcl)
  have hklt : k < ps.length := by omega
  have hle : p.f0 ≤ a := by
    obtain ⟨hk, e⟩ := List.getElem?_eq_some_iff.1 hp
    obtain ⟨_, hle, _⟩ := hat
    rwa [e] at hle
  obtain ⟨q1, q2, q3⟩ := hs.2 p (List.mem_of_getElem? hp)
  unfold lastP at q2
  have HP := Lib.hid hp
  have HB := Lib.hid hb
  unfold Lacks at hyes
  have hb1' : (Go.bits .and .i64 p.f2 rt == 0) = false := by simp; omega
  have hb2 : a - p.f0 < p.f1.length := by omega
  have hb3 : n ≤ p.f1.length - (a - p.f0) := by omega
  clear hs hcl hp hb hyes
  obtain ⟨f, hf⟩ : ∃ f : Nat, a - p.f0 = f := ⟨(a - p.f0).toNat, by omega⟩
  have hw : IntKind.u64.wrap (a - p.f0) = f := by rw [IntKind.wrap_u64]; omega
  have hw2 : IntKind.u64.wrap (p.f1.length - (f : Int)) = p.f1.length - (f : Int) := by rw [IntKind.wrap_u64]; omega
  rw [hf, Int.toNat_natCast]
  rw [hf] at hb2 hb3
  clear hf
  obtain ⟨n, rfl⟩ := Int.eq_ofNat_of_zero_le (show 0 ≤ n by omega)
  rw [Int.toNat_natCast]
  go_enter Try.func21, Try.ntmps21
  go_wp2_with fail
  refine HS.out.mono ?_
  rintro e w' ⟨rfl, k2⟩
  obtain ⟨pb, c', x0, x1, x2, x3, x4, x5⟩ := find_cells h k2 HP.out HB.out
  have z1 := World.block_lt_of_cell? _ _ x1
  go_wp2
  go_ret
  refine ⟨?_, (k1.trans k2).alloc _⟩
  show Ending.returned (.slice (some ⟨b, f, none⟩) (f + n - f) (p.f1.length - f)) = _
  rw [show f + n - f = n by omega]
end Go.Proofs.Ytndpmjgalmnhdaa
