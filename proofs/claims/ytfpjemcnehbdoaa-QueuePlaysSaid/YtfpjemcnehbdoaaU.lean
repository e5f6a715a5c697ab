/- Package queue, the law QueuePlays: it returns true, for every two integers and every slice of acts. -/
import Derived.Test.YtfpjemcnehbdoaaT
import Derived.Deep.RegionHeld3
import Derived.Deep.SlicePairs
import Derived.Deep.DeepCutAuto
import Derived.Deep.CutRange
import Derived.Deep.CutBlock
import Derived.Deep.LoopGhost
namespace Go.Proofs.Ytfpjemcnehbdoaa
open Go.RowKit PQueuePlays Go.Proofs.YtfpjemcnehbdoaaW.PrintWords Go.Proofs.YtfpjemcnehbdoaaW.PrintLast Go.Proofs.YtfpjemcnehbdoaaW.PrintMore
set_option linter.unusedVariables false
set_option linter.unusedSimpArgs false

def IsActs (w : World) (A : Option Addr) (len : Nat) (f0 f1 : Nat → Int) : Prop :=
  len ≤ 9223372036854775807 ∧ (0 < len → ∃ b off, A = some ⟨b, off, none⟩ ∧ b < w.heap.size ∧
  ∀ j, j < len → w.cell? ⟨b, off + j * 2, none⟩ = some (.int .i64 (f0 j)) ∧ w.cell? ⟨b, off + j * 2 + 1, none⟩ = some (.int .i64 (f1 j)) ∧ (Lit.int .i64 (f0 j)).wf = true ∧ (Lit.int .i64 (f1 j)).wf = true)

theorem Kp.cellAt {w w' : World} {S : List Nat} (h : Kp S w w') {p : Addr} (hp : p.block < w.heap.size) (hS : p.block ∉ S) {u : Value} (hc : w.cell? p = some u) : w'.cell? p = some u := by
  have := h.block p.block hp hS
  simpa [World.cell?, this] using hc
structure St (W : World) (q wb lb n tb : Nat) (w : World) (v : Value) (l : List Nat) : Prop where
  k : Kp [] W w
  i : IsQ w q wb lb n l
  t : w.heap[tb]? = some (.cells #[.int .i64 n, v] 36 (0, 0))
  r : Kd.R (Kd.int .i64) 3 w W.heap.size (fun k => k ≠ q ∧ k ≠ wb ∧ k ≠ lb ∧ k ≠ tb) v (zl l)
  hq : W.heap.size ≤ q ∧ W.heap.size ≤ wb ∧ W.heap.size ≤ lb ∧ W.heap.size ≤ tb
theorem St.ne {W q wb lb n tb w v l} (h : St W q wb lb n tb w v l) : q ≠ tb ∧ wb ≠ tb ∧ lb ≠ tb := by
  obtain ⟨_, hw, _⟩ := h.i.hw
  obtain ⟨_, hl, _⟩ := h.i.hl
  refine ⟨?_, ?_, ?_⟩
  · rintro rfl
    have := h.i.hq.symm.trans h.t
    simp at this
  · rintro rfl
    have := hw.symm.trans h.t
    simp at this
  · rintro rfl
    have := hl.symm.trans h.t
    simp at this
theorem St.kept {W q wb lb n tb w v l} (h : St W q wb lb n tb w v l) {w' : World} (k : Kp [] w w') : St W q wb lb n tb w' v l :=
  ⟨h.k.trans k, h.i.kept k (by simp) (by simp) (by simp), (k.block _ (ltB h.t) (by simp)).trans h.t, Kd.R_below h.r ⟨k.os, k.tape, k.output, k.size, fun i hi => k.block i hi (by simp)⟩, h.hq⟩

structure R12 (W : World) (q wb lb n tb : Nat) (qv nv : Value) (l l' : List Nat) (xb : Nat) (w : World) : Prop where
  k : Kp [] W w
  i : IsQ w q wb lb n l
  t : w.heap[tb]? = some (.cells #[.int .i64 n, qv] 36 (0, 0))
  x : w.heap[xb]? = some (.cells #[.int .i64 n, nv] 36 (0, 0))
  ne : xb ≠ tb
  r : Kd.R (Kd.int .i64) 3 w W.heap.size (fun k => k ≠ q ∧ k ≠ wb ∧ k ≠ lb ∧ k ≠ tb) nv (zl l')
theorem Kp.ofBelow {w w' : World} (b : Below w.heap.size w w') : Kp [] w w' := ⟨b.os, b.tape, b.output, b.size, fun i hi _ => b.block i hi⟩
theorem IsQ.move {w w' : World} {q wb lb n : Nat} {l : List Nat} (h : IsQ w q wb lb n l) (e1 : w'.heap[q]? = w.heap[q]?) (e2 : w'.heap[wb]? = w.heap[wb]?) (e3 : w'.heap[lb]? = w.heap[lb]?) : IsQ w' q wb lb n l := by
  obtain ⟨cw, hw, hw'⟩ := h.hw
  obtain ⟨cl, hl, hl'⟩ := h.hl
  exact ⟨e1.trans h.hq, ⟨cw, e2.trans hw, hw'⟩, ⟨cl, e3.trans hl, hl'⟩, h.d1, h.d2, h.d3, h.lt, h.small⟩
theorem St.lts {W q wb lb n tb w v l} (h : St W q wb lb n tb w v l) : q < w.heap.size ∧ wb < w.heap.size ∧ lb < w.heap.size ∧ tb < w.heap.size := by
  obtain ⟨_, hw, _⟩ := h.i.hw
  obtain ⟨_, hl, _⟩ := h.i.hl
  exact ⟨ltB h.i.hq, ltB hw, ltB hl, ltB h.t⟩
theorem R12.after {W q wb lb n tb wr qv l w5 A5 c5} {l' : List Nat} (h : St W q wb lb n tb wr qv l) (b5 : Below W.heap.size W w5)
    (r5 : Kd.R (Kd.int .i64) 3 w5 W.heap.size (fun k => ((k ≠ q ∧ k ≠ wb ∧ k ≠ lb ∧ k ≠ tb) ∧ k ≠ wr.heap.size) ∨ wr.heap.size ≤ k) (.slice A5 l'.length c5) (zl l')) (p5 : Kept wr w5 (fun k => (k ≠ q ∧ k ≠ wb ∧ k ≠ lb ∧ k ≠ tb) ∧ k ≠ wr.heap.size)) :
    R12 W q wb lb n tb qv (.slice A5 l'.length c5) l l' w5.heap.size (w5.alloc (.cells #[.int .i64 n, .slice A5 l'.length c5] 36)) := by
  obtain ⟨l1, l2, l3, l4⟩ := h.lts
  have e1 := p5.2 q l1 (by simp)
  have e2 := p5.2 wb l2 (by simp)
  have e3 := p5.2 lb l3 (by simp)
  have e4 := p5.2 tb l4 (by simp)
  have ka := (Kp.refl [] w5).alloc (.cells #[.int .i64 n, .slice A5 l'.length c5] 36)
  have hs := p5.1
  refine ⟨(Kp.ofBelow b5).trans ka, (h.i.move e1 e2 e3).kept ka (by simp) (by simp) (by simp), (ka.block _ (by omega) (by simp)).trans (e4.trans h.t), heap_alloc_new w5 _, by omega, ?_⟩
  refine Kd.R_alloc (Kd.R_mono r5 ?_) _
  rintro k (⟨q1, q2⟩ | q2)
  · exact q1
  · omega
theorem R12.before {W q wb lb n tb wr qv l w5 A5 c5} {o : Obj} {v0 v1 : Value} {l' : List Nat} (h : St W q wb lb n tb wr qv l) (b5 : Below W.heap.size W w5)
    (r5 : Kd.R (Kd.int .i64) 3 w5 W.heap.size (fun k => ((k ≠ q ∧ k ≠ wb ∧ k ≠ lb ∧ k ≠ tb) ∧ k ≠ wr.heap.size) ∨ (wr.alloc o).heap.size ≤ k) (.slice A5 l'.length c5) (zl l')) (p5 : Kept (wr.alloc o) w5 (fun k => (k ≠ q ∧ k ≠ wb ∧ k ≠ lb ∧ k ≠ tb) ∧ k ≠ wr.heap.size))
    (hx5 : w5.heap[wr.heap.size]? = some (.cells #[v0, v1] 36 (0, 0))) :
    R12 W q wb lb n tb qv (.slice A5 l'.length c5) l l' wr.heap.size ((w5.setCell ⟨wr.heap.size, 0, none⟩ (.int .i64 n)).setCell ⟨wr.heap.size, 1, none⟩ (.slice A5 l'.length c5)) := by
  obtain ⟨l1, l2, l3, l4⟩ := h.lts
  have hz : (wr.alloc o).heap.size = wr.heap.size + 1 := by simp
  have ka := (Kp.refl [] wr).alloc o
  have e1 := (p5.2 q (by omega) (by simp)).trans (ka.block q l1 (by simp))
  have e2 := (p5.2 wb (by omega) (by simp)).trans (ka.block wb l2 (by simp))
  have e3 := (p5.2 lb (by omega) (by simp)).trans (ka.block lb l3 (by simp))
  have e4 := (p5.2 tb (by omega) (by simp)).trans (ka.block tb l4 (by simp))
  have hs := p5.1
  have hsW := h.k.size
  have kS : Kp [wr.heap.size] w5 ((w5.setCell ⟨wr.heap.size, 0, none⟩ (.int .i64 n)).setCell ⟨wr.heap.size, 1, none⟩ (.slice A5 l'.length c5)) := ((Kp.refl _ _).setCell (by simp) _).setCell (by simp) _
  have hx := setB (setB hx5 0 (.int .i64 n)) 1 (.slice A5 l'.length c5)
  simp at hx
  refine ⟨(Kp.ofBelow b5).into kS (by simp; omega), (h.i.move e1 e2 e3).kept kS (by simp; omega) (by simp; omega) (by simp; omega), (kS.block _ (by omega) (by simp; omega)).trans (e4.trans h.t), hx, by omega, ?_⟩
  have r6 := Kd.R_far (p := ⟨wr.heap.size, 1, none⟩) (Kd.R_far (p := ⟨wr.heap.size, 0, none⟩) r5 (by
    rintro k (⟨q1, q2⟩ | q2)
    · exact q2
    · show k ≠ wr.heap.size; omega) (.int .i64 n)) (by
    rintro k (⟨q1, q2⟩ | q2)
    · exact q2
    · show k ≠ wr.heap.size; omega) (.slice A5 l'.length c5)
  refine Kd.R_mono r6 ?_
  rintro k (⟨q1, q2⟩ | q2)
  · exact q1
  · omega

/-- The document's struct is written anew: both its cells. -/
theorem St.stored {W : World} {q wb lb n tb : Nat} {w5 w6 : World} {qv nv : Value} {l' : List Nat} (k : Kp [] W w5) (i : IsQ w5 q wb lb n l') (t : w5.heap[tb]? = some (.cells #[.int .i64 n, qv] 36 (0, 0)))
    (r : Kd.R (Kd.int .i64) 3 w5 W.heap.size (fun k => k ≠ q ∧ k ≠ wb ∧ k ≠ lb ∧ k ≠ tb) nv (zl l')) (hq : W.heap.size ≤ q ∧ W.heap.size ≤ wb ∧ W.heap.size ≤ lb ∧ W.heap.size ≤ tb) (ne : q ≠ tb ∧ wb ≠ tb ∧ lb ≠ tb)
    (k6 : Kp [tb] w5 w6) (h6 : w6.heap[tb]? = some (.cells #[.int .i64 n, nv] 36 (0, 0))) : St W q wb lb n tb w6 nv l' := by
  refine ⟨k.into k6 (by simp; omega), i.kept k6 (by simp; exact ne.1) (by simp; exact ne.2.1) (by simp; exact ne.2.2), h6, ?_, hq⟩
  exact Kd.R_step r (fun k hk hlt => k6.block k hlt (by simpa using hk.2.2.2))
theorem two_stores {w : World} {tb n : Nat} {u0 u1 nv : Value} (t : w.heap[tb]? = some (.cells #[u0, u1] 36 (0, 0))) :
    ((w.setCell ⟨tb, 0, none⟩ (.int .i64 n)).setCell ⟨tb, 1, none⟩ nv).heap[tb]? = some (.cells #[.int .i64 n, nv] 36 (0, 0)) ∧ Kp [tb] w ((w.setCell ⟨tb, 0, none⟩ (.int .i64 n)).setCell ⟨tb, 1, none⟩ nv) := by
  refine ⟨?_, ((Kp.refl _ _).setCell (by simp) _).setCell (by simp) _⟩
  have := setB (setB t 0 (.int .i64 n)) 1 nv
  simpa using this
theorem R12.move {W q wb lb n tb qv nv xb w} {l l' : List Nat} (h : R12 W q wb lb n tb qv nv l l' xb w) (hq : W.heap.size ≤ q ∧ W.heap.size ≤ wb ∧ W.heap.size ≤ lb ∧ W.heap.size ≤ tb) (ne : q ≠ tb ∧ wb ≠ tb ∧ lb ≠ tb)
    {w7 : World} (i7 : IsQ w7 q wb lb n l') (k7 : Kp [q, wb, lb] ((w.setCell ⟨tb, 0, none⟩ (.int .i64 n)).setCell ⟨tb, 1, none⟩ nv) w7) : St W q wb lb n tb w7 nv l' := by
  obtain ⟨t6, k6⟩ := two_stores (n := n) (nv := nv) h.t
  have kk := k6.mono (T := [q, wb, lb, tb]) (by simp)
  have k8 := kk.trans (k7.mono (T := [q, wb, lb, tb]) (by intro x hx; simp at hx ⊢; omega))
  refine ⟨h.k.into k8 (by simp; omega), i7, (k7.block _ (ltB t6) (by simp; omega)).trans t6, ?_, hq⟩
  exact Kd.R_step h.r (fun k hk hlt => k8.block k hlt (by simp; omega))
theorem mv3 {W : World} {q wb lb n tb : Nat} {wr w4 : World} {qv : Value} {l l4 : List Nat} (h : St W q wb lb n tb wr qv l) (i4 : IsQ w4 q wb lb n l4) (k4 : Kp [q, wb, lb] wr w4) : 
    Kp [] W w4 ∧ w4.heap[tb]? = some (.cells #[.int .i64 n, qv] 36 (0, 0)) ∧ Kd.R (Kd.int .i64) 3 w4 W.heap.size (fun k => k ≠ q ∧ k ≠ wb ∧ k ≠ lb ∧ k ≠ tb) qv (zl l) := by
  obtain ⟨ne1, ne2, ne3⟩ := h.ne
  obtain ⟨q1, q2, q3, q4⟩ := h.hq
  refine ⟨h.k.into k4 (by simp; omega), (k4.block _ (ltB h.t) (by simp; omega)).trans h.t, Kd.R_step h.r (fun k hk hlt => k4.block k hlt (by simp; omega))⟩

theorem row_at {w : World} {base : Nat} {P : Nat → Prop} {A : Option Addr} {c : Nat} {l : List Nat} (h : Kd.R (Kd.int .i64) 3 w base P (.slice A l.length c) (zl l)) (i : Nat) (hi : i < l.length) :
    ∃ rb ro, A = some ⟨rb, ro, none⟩ ∧ w.cell? ⟨rb, ro + i, none⟩ = some (.int .i64 ((l.getD i 0 : Nat) : Int)) := by
  obtain ⟨A', c', he, h1, h2, h3, h4⟩ := Kd.R_reads h
  injection he with e1 e2 e3
  subst e1 e3
  obtain ⟨ad, rfl, hc⟩ := h4 (by rw [zl_len]; omega)
  have hg : (zl l)[i]? = some ((l.getD i 0 : Nat) : Int) := by simp [zl, hi]
  obtain ⟨cc, hlen, hK, hcell⟩ := hc i _ hg
  have : cc = [Value.int .i64 ((l.getD i 0 : Nat) : Int)] := hK
  subst this
  have h5 := hcell 0 _ rfl
  have h0 : (zl l)[0]? = some ((l.getD 0 0 : Nat) : Int) := by simp [zl, show 0 < l.length by omega]
  obtain ⟨cc, hlen, hK, hcell0⟩ := hc 0 _ h0
  have : cc = [Value.int .i64 ((l.getD 0 0 : Nat) : Int)] := hK
  subst this
  have h6 := hcell0 0 _ rfl
  obtain ⟨rb, ro, spot⟩ := ad
  have hspot : spot = none := by simpa [Addr.add] using World.cell?_spot h6
  subst hspot
  refine ⟨rb, ro, rfl, ?_⟩
  have hsz : (Kd.int .i64).sz = 1 := rfl
  rw [hsz, Nat.mul_one, Nat.add_zero, Go.WideShapes.add_plain] at h5
  exact h5

/-- Behind List: the copy B lies apart from all else. -/
structure Tl (W : World) (q wb lb n tb B BC : Nat) (w : World) (v : Value) (l : List Nat) : Prop where
  st : St W q wb lb n tb w v l
  fc : FC w B BC l
  r' : Kd.R (Kd.int .i64) 3 w W.heap.size (fun k => (k ≠ q ∧ k ≠ wb ∧ k ≠ lb ∧ k ≠ tb) ∧ k ≠ B) v (zl l)
  ne : B ≠ q ∧ B ≠ wb ∧ B ≠ lb ∧ B ≠ tb ∧ W.heap.size ≤ B
theorem FC.kept {w w' : World} {B C : Nat} {l : List Nat} (h : FC w B C l) (k : Kp [] w w') : FC w' B C l := by
  obtain ⟨h1, h2, cs, h3, h4⟩ := h
  exact ⟨h1, h2, cs, (k.block _ (ltB h3) (by simp)).trans h3, h4⟩
theorem Tl.kept {W q wb lb n tb B BC w v l} (h : Tl W q wb lb n tb B BC w v l) {w' : World} (k : Kp [] w w') : Tl W q wb lb n tb B BC w' v l :=
  ⟨h.st.kept k, h.fc.kept k, Kd.R_below h.r' ⟨k.os, k.tape, k.output, k.size, fun i hi => k.block i hi (by simp)⟩, h.ne⟩
/-- Behind SpoilInts. -/
theorem Tl.spoilt {W q wb lb n tb B BC w v l} (h : Tl W q wb lb n tb B BC w v l) {w' : World} (k : Kp [B] w w') : St W q wb lb n tb w' v l := by
  obtain ⟨n1, n2, n3, n4, n5⟩ := h.ne
  refine ⟨h.st.k.into k (by simp; omega), h.st.i.kept k (by simp; omega) (by simp; omega) (by simp; omega), (k.block _ (ltB h.st.t) (by simp; omega)).trans h.st.t, ?_, h.st.hq⟩
  exact Kd.R_mono (Kd.R_step h.r' (fun j hj hlt => k.block j hlt (by simpa using hj.2))) (fun j hj => hj.1)
def SS (W : World) (q wb lb n tb B BC b o : Nat) (A : Option Addr) (c : Nat) (x : Int) (l : List Nat) (w : World) : Prop :=
  Tl W q wb lb n tb B BC w (.slice A l.length c) l ∧ b < w.heap.size ∧ w.cell? ⟨tb, 0, none⟩ = some (.int .i64 n) ∧ w.cell? ⟨tb, 1, none⟩ = some (.slice A l.length c) ∧ w.cell? ⟨b, o, none⟩ = some (.int .i64 x)
theorem SS.kept {W q wb lb n tb B BC b o A c x l w} (h : SS W q wb lb n tb B BC b o A c x l w) {w' : World} (k : Kp [] w w') : SS W q wb lb n tb B BC b o A c x l w' :=
  ⟨h.1.kept k, Nat.lt_of_lt_of_le h.2.1 k.size, k.cellAt (ltB h.1.st.t) (by simp) h.2.2.1, k.cellAt (ltB h.1.st.t) (by simp) h.2.2.2.1, k.cellAt h.2.1 (by simp) h.2.2.2.2⟩
theorem SS.of {W q wb lb n tb B BC b o A c x l w w'} (h : St W q wb lb n tb w (.slice A l.length c) l) (k : Kp [] w w') (hF : FC w' B BC l) (hB : w.heap.size ≤ B) (hc : w.cell? ⟨b, o, none⟩ = some (.int .i64 x)) (hb : b < W.heap.size) :
    SS W q wb lb n tb B BC b o A c x l w' := by
  obtain ⟨l1, l2, l3, l4⟩ := h.lts
  have t0 := cellB h.t 0
  have t1 := cellB h.t 1
  simp at t0 t1
  have hbw : b < w.heap.size := Nat.lt_of_lt_of_le hb h.k.size
  refine ⟨⟨h.kept k, hF, ?_, by omega, by omega, by omega, by omega, Nat.le_trans h.k.size hB⟩, Nat.lt_of_lt_of_le hbw k.size, k.cellAt l4 (by simp) t0, k.cellAt l4 (by simp) t1, k.cellAt hbw (by simp) hc⟩
  refine Kd.R_below (Kd.R_mono (Kd.R_bound h.r) ?_) ⟨k.os, k.tape, k.output, k.size, fun i hi => k.block i hi (by simp)⟩
  rintro j ⟨q1, q2, q3, _⟩
  exact ⟨q1, by omega⟩

set_option maxRecDepth 100000 in
set_option maxHeartbeats 1600000 in
theorem play_main (W : World) (n : Nat) (at_ : Int) (A : Option Addr) (len cap : Nat) (f0 f1 : Nat → Int) (hA : IsActs W A len f0 f1) (hn : n ≤ 4000) :
    Calls Try.prog 5 #[.int .i64 n, .slice A len cap, .int .i64 at_] W fun e w' => e = .returned (.bool true) ∧ Kp [] W w' := by
  have hlen := hA.1
  have hd0 : ¬ (n : Int) < 0 := by omega
  have hd1 : ¬ (4000 : Int) < n := by omega
  go_enter Try.func5, Try.ntmps5
  go_wp2_with fail
  refine (new_yes W n hn).mono ?_
  rintro e w1 ⟨q, wb, lb, rfl, h1, hq, hwb, hlb, k1⟩
  have ks := k1.size
  go_wp2_with fail
  go_loopg [10] 100 (fun g i wr => ∃ (k : Nat) (v : Value) (l : List Nat), g + k = 100 ∧ i = .int .i64 k ∧ l.length ≤ k ∧ St W q wb lb n w1.heap.size wr v l)
  case atStart =>
    refine ⟨0, .slice none 0 0, [], rfl, rfl, by simp, ?_⟩
    exact ⟨k1.alloc _, h1.kept ((Kp.refl [] w1).alloc _) (by simp) (by simp) (by simp), heap_alloc_new w1 _, Kd.R_nil _ _ _ _ _, hq, hwb, hlb, ks⟩
  case round =>
    obtain ⟨k, v, l, hk1, rfl, hl, hst⟩ := hrel
    replace hk1 := Lib.hid hk1
    by_cases h3 : k < len ∧ k < 100
    · obtain ⟨b, off, rfl, hb, hc⟩ := hA.2 (by omega)
      obtain ⟨c0, c1, x0, x1⟩ := hc k h3.1
      have hk := hst.k
      have d0 := hk.cellAt hb (by simp) c0
      have d1 := hk.cellAt hb (by simp) c1
      have hlt : (k : Int) < len := by omega
      have hlt100 : (k : Int) < 100 := by omega
      obtain ⟨qA, qc, rfl⟩ := Kd.R_slice hst.r
      rw [zl_len] at hst
      go_upto_block 2 with fail
      go_cut [11, 12] (fun s11 s12 wx => ∃ (v' : Value) (l' : List Nat), l'.length ≤ k + 1 ∧ St W q wb lb n w1.heap.size wx v' l')
      case first =>
        obtain ⟨ne1, ne2, ne3⟩ := hst.ne
        have t0 := cellB hst.t 0
        have t1 := cellB hst.t 1
        simp at t0 t1
        by_cases e0 : f0 k = 0
        · have hd2 : (f0 k == 0) = true := by simpa using e0
          clear e0
          go_upto_region 12 with fail
          go_cut [11, 12] (fun s11 s12 wx => s12 = .bool (goodZ n l (f1 k)) ∧ ∃ (xb : Nat) (rA : Option Addr) (rc : Nat), s11 = .pointer (some ⟨xb, 0, none⟩) ∧ R12 W q wb lb n w1.heap.size (.slice qA l.length qc) (.slice rA (addZ n l (f1 k)).length rc) l (addZ n l (f1 k)) xb wx)
          case first =>
            have ka := (Kp.refl [] wr).alloc (.cells #[.int .i64 0, .slice none 0 0] 36)
            have g0 := ka.cellAt (ltB hst.t) (by simp) t0
            have g1 := ka.cellAt (ltB hst.t) (by simp) t1
            have g2 := ka.cellAt (Nat.lt_of_lt_of_le hb hk.size) (by simp) d1
            have hz := heap_alloc_new wr (.cells #[.int .i64 0, .slice none 0 0] 36)
            have CA := Lib.hid (fun w hB ho => refAdd W w n (fun k => (k ≠ q ∧ k ≠ wb ∧ k ≠ lb ∧ k ≠ w1.heap.size) ∧ k ≠ wr.heap.size) (.slice qA l.length qc) l (f1 k) hB ho (by omega))
            have HB0 := Lib.hid (hst.k.below (Nat.le_refl W.heap.size) (by simp))
            have HR0 : Hid (Kd.R (Kd.int .i64) 3 wr W.heap.size (fun k => (k ≠ q ∧ k ≠ wb ∧ k ≠ lb ∧ k ≠ w1.heap.size) ∧ k ≠ wr.heap.size) (.slice qA l.length qc) (zl l)) := by
              refine Kd.R_mono (Kd.R_bound hst.r) ?_
              rintro k ⟨q1, q2, q3, _⟩
              exact ⟨q1, by omega⟩
            go_region_with (go_at_call 14; refine (CA.out _ (by repeat (first | exact HB0.out | apply below_alloc | apply pw_below_drewN | apply below_drew1)) (by (with_reducible repeat (first | apply Kd.R_alloc | apply Kd.R_drewN | apply Kd.R_drew)); exact HR0.out)).mono ?_; rintro e w5 ⟨A5, c5, rfl, r5, b5, p5⟩; (try (have hx5 := (p5.2 wr.heap.size (ltB hz) (by simp)).trans hz; have z0 := cellB hx5 0; have z1 := cellB hx5 1; have z2 := frozB hx5 0; have z3 := frozB hx5 1; simp at z0 z1)))
            all_goals
              go_wp2_with fail
              go_simp
              go_meet
              first
              | exact ⟨rfl, _, _, _, rfl, R12.after hst b5 r5 p5⟩
              | exact ⟨rfl, _, _, _, rfl, R12.before hst b5 r5 p5 hx5⟩
          case rest =>
            obtain ⟨rfl, xb, rA, rc, rfl, hR⟩ := hcut
            have z0 := cellB hR.x 0
            have z1 := cellB hR.x 1
            have y0 := cellB hR.t 0
            have y1 := cellB hR.t 1
            have y2 := frozB hR.t 0
            have y3 := frozB hR.t 1
            obtain ⟨t6, k6⟩ := two_stores (n := n) (nv := .slice rA (addZ n l (f1 k)).length rc) hR.t
            have i6 := hR.i.kept k6 (by simp; exact ne1) (by simp; exact ne2) (by simp; exact ne3)
            have a6 := k6.cellAt (Nat.lt_of_lt_of_le hb hR.k.size) (by simp; have := hst.hq; omega) (hR.k.cellAt hb (by simp) c1)
            have HA := Lib.hid (add_l _ q wb lb n l i6 (f1 k))
            have HL := addZ_len n l (f1 k)
            simp at z0 z1 y0 y1
            clear t0 t1
            go_wp2_with fail
            refine HA.out.mono ?_
            rintro e w7 ⟨rfl, i7, k7⟩
            go_wp2_with fail
            go_meet
            exact ⟨_, _, by omega, hR.move hst.hq ⟨ne1, ne2, ne3⟩ i7 k7⟩
        · have hd2 : (f0 k == 0) = false := by rw [beq_eq_false_iff_ne]; exact e0
          by_cases e1 : f0 k = 1
          · have hd3 : (f0 k == 1) = true := by simpa using e1
            clear e0 e1
            go_wp2_with fail
            refine (cut_any wr q wb lb n l hst.i (f1 k)).mono ?_
            rintro e w4 ⟨rfl, i4, k4⟩
            obtain ⟨K4, t4, r4⟩ := mv3 hst i4 k4
            have y0 := cellB t4 0
            have y1 := cellB t4 1
            have a4 := K4.cellAt hb (by simp) c1
            have HB0 := Lib.hid (K4.below (Nat.le_refl W.heap.size) (by simp))
            have HR0 := Lib.hid r4
            have CC0 := (fun w hB ho => refCut W w n (fun k => k ≠ q ∧ k ≠ wb ∧ k ≠ lb ∧ k ≠ w1.heap.size) (.slice qA l.length qc) l (f1 k) hB ho)
            obtain ⟨nl, hnl⟩ : ∃ nl, nl = l.take (f1 k).toNat := ⟨_, rfl⟩
            have hnl2 : nl.length ≤ k + 1 := by rw [hnl, List.length_take]; omega
            rw [← hnl] at CC0 i4
            have CC := Lib.hid CC0
            clear CC0 hnl
            simp at y0 y1
            clear t0 t1 d0 d1
            go_upto_region 18 with fail
            go_region_with (go_at_call 15; refine (CC.out _ (by repeat (first | exact HB0.out | apply below_alloc | apply pw_below_drewN | apply below_drew1)) (by (with_reducible repeat (first | apply Kd.R_alloc | apply Kd.R_drewN | apply Kd.R_drew)); exact HR0.out)).mono ?_; rintro e w5 ⟨A5, c5, rfl, r5, b5, p5⟩; have t5 := (p5.2 w1.heap.size (ltB t4) (by simp)).trans t4; have z0 := cellB t5 0; have z1 := cellB t5 1; have z2 := frozB t5 0; have z3 := frozB t5 1; simp at z0 z1)
            all_goals
              go_wp2_with fail
              try go_simp
              go_meet
              obtain ⟨cw, hw, _⟩ := i4.hw
              obtain ⟨cl, hl4, _⟩ := i4.hl
              have lq := ltB i4.hq
              have lw := ltB hw
              have ll := ltB hl4
              have lt4 := ltB t4
              have i5 := i4.move (p5.2 q lq (by simp)) (p5.2 wb lw (by simp)) (p5.2 lb ll (by simp))
              obtain ⟨t6, k6⟩ := two_stores (n := n) (nv := .slice A5 nl.length c5) t5
              refine ⟨_, _, ?_, St.stored (Kp.ofBelow b5) i5 t5 (Kd.R_mono r5 ?_) hst.hq ⟨ne1, ne2, ne3⟩ k6 t6⟩
              · omega
              · rintro j (q1 | q2)
                · exact q1
                · have q3 : w4.heap.size ≤ j := q2
                  omega
          · have hd3 : (f0 k == 1) = false := by rw [beq_eq_false_iff_ne]; exact e1
            by_cases e2 : f0 k = 2
            · have hd4 : (f0 k == 2) = true := by simpa using e2
              clear e0 e1 e2
              go_wp2_with fail
              refine (clear_any wr q wb lb n l hst.i).mono ?_
              rintro e w4 ⟨rfl, i4, k4⟩
              obtain ⟨K4, t4, r4⟩ := mv3 hst i4 k4
              have y1 := cellB t4 1
              have y3 := frozB t4 1
              have t5 := setB t4 1 (.slice none 0 0)
              have k5 : Kp [w1.heap.size] w4 (w4.setCell ⟨w1.heap.size, 1, none⟩ (.slice none 0 0)) := (Kp.refl _ _).setCell (by simp) _
              simp at y1 t5
              go_wp2_with fail
              go_meet
              exact ⟨_, [], by simp, St.stored K4 i4 t4 (Kd.R_nil _ _ _ _ _) hst.hq ⟨ne1, ne2, ne3⟩ k5 t5⟩
            · have hd4 : (f0 k == 2) = false := by rw [beq_eq_false_iff_ne]; exact e2
              clear e0 e1 e2
              go_wp2_with fail
              go_meet
              exact ⟨_, _, by omega, hst⟩
      case rest =>
        obtain ⟨v', l', hl', hst'⟩ := hcut
        obtain ⟨qA', qc', rfl⟩ := Kd.R_slice hst'.r
        rw [zl_len] at hst'
        clear hst d0 d1 hk hl
        have hk := hst'.k
        have t0 := cellB hst'.t 0
        have t1 := cellB hst'.t 1
        have a1 := hk.cellAt hb (by simp) c1
        simp at t0 t1
        go_upto_region 23 with fail
        go_cut [109] (fun s109 wx => ∃ cb : Bool, s109 = .bool cb ∧ Hid (cb = decide (0 ≤ at_ ∧ at_ < (l'.length : Int))) ∧ wx = wc)
        case first =>
          by_cases h4 : 0 ≤ at_
          · have hd2 : decide (0 ≤ at_) = true := by simpa using h4
            go_wp2_with fail
            go_meet
            exact ⟨_, rfl, by unfold Hid; simp [h4], rfl⟩
          · have hd2 : decide (0 ≤ at_) = false := by simpa using h4
            have hd3 : decide (0 ≤ at_ ∧ at_ < (l'.length : Int)) = false := by rw [decide_eq_false_iff_not]; exact fun h => h4 h.1
            replace hd3 := Lib.hid hd3
            go_wp2_with fail
            go_meet
            exact ⟨_, rfl, hd3.out.symm, rfl⟩
        case rest =>
          obtain ⟨cb, rfl, hcb, rfl⟩ := hcut
          go_upto_if 109 with fail
          go_cut [13] (fun s13 wx => s13 = .int .i64 (atZ l' at_) ∧ wx = wc)
          case first =>
            cases cb with
            | true =>
              have h5 : 0 ≤ at_ ∧ at_ < (l'.length : Int) := by simpa using hcb.out.symm
              have hz : atZ l' at_ = ((l'.getD at_.toNat 0 : Nat) : Int) := by unfold atZ; rw [if_pos h5]
              obtain ⟨rb, ro, he, hcell⟩ := row_at hst'.r at_.toNat (by omega)
              obtain ⟨h6, h7⟩ := h5
              subst he
              obtain ⟨ev, hev⟩ : ∃ ev : Nat, l'.getD at_.toNat 0 = ev := ⟨_, rfl⟩
              rw [hev] at hcell hz
              clear hev
              replace hz := Lib.hid hz
              go_wp2_with fail
              go_meet
              exact ⟨by rw [hz.out], rfl⟩
            | false =>
              have h5 : ¬ (0 ≤ at_ ∧ at_ < (l'.length : Int)) := by simpa using hcb.out.symm
              have hz : atZ l' at_ = -1 := by unfold atZ; rw [if_neg h5]
              replace hz := Lib.hid hz
              clear h5
              go_wp2_with fail
              go_meet
              exact ⟨by rw [hz.out], rfl⟩
          case rest =>
            obtain ⟨rfl, rfl⟩ := hcut
            go_wp2_with fail
            refine (list_any _ q wb lb n l' hst'.i).mono ?_
            rintro e w8 ⟨B, BC, rfl, hF, hB, k8⟩
            have HS := SS.of hst' k8 hF hB a1 hb
            clear hF hst' k8 t0 t1 a1 hk
            have hlM : l'.length < 1000000 := by omega
            have C17 : Hid (∀ w, SS W q wb lb n w1.heap.size B BC b (off + k * 2 + 1) qA' qc' (f1 k) l' w → Calls Try.prog 17 #[.slice (some ⟨B, 0, none⟩) l'.length BC, .slice qA' l'.length qc'] w fun e w' => e = .returned (.bool true) ∧ SS W q wb lb n w1.heap.size B BC b (off + k * 2 + 1) qA' qc' (f1 k) l' w') :=
              fun w h => (same_l w B BC qA' qc' l' _ _ h.1.fc h.1.st.r hlM).mono (by rintro e w' ⟨rfl, k⟩; exact ⟨rfl, h.kept k⟩)
            have C12 : Hid (∀ w, SS W q wb lb n w1.heap.size B BC b (off + k * 2 + 1) qA' qc' (f1 k) l' w → Calls Try.prog 12 #[.pointer (some ⟨q, 0, none⟩)] w fun e w' => e = .returned (.int .i64 l'.length) ∧ SS W q wb lb n w1.heap.size B BC b (off + k * 2 + 1) qA' qc' (f1 k) l' w') :=
              fun w h => (len_any w q wb lb n l' h.1.st.i).mono (by rintro e w' ⟨rfl, rfl⟩; exact ⟨rfl, h⟩)
            have C11 : Hid (∀ w, SS W q wb lb n w1.heap.size B BC b (off + k * 2 + 1) qA' qc' (f1 k) l' w → Calls Try.prog 11 #[.pointer (some ⟨q, 0, none⟩), .int .i64 at_] w fun e w' => e = .returned (.int .i64 (atZ l' at_)) ∧ SS W q wb lb n w1.heap.size B BC b (off + k * 2 + 1) qA' qc' (f1 k) l' w') :=
              fun w h => (at_l w q wb lb n l' h.1.st.i at_).mono (by rintro e w' ⟨rfl, rfl⟩; exact ⟨rfl, h⟩)
            have C10 : Hid (∀ w, SS W q wb lb n w1.heap.size B BC b (off + k * 2 + 1) qA' qc' (f1 k) l' w → ∀ x, Calls Try.prog 10 #[.pointer (some ⟨q, 0, none⟩), .int .i64 x] w fun e w' => e = .returned (.bool (hasZ l' x)) ∧ SS W q wb lb n w1.heap.size B BC b (off + k * 2 + 1) qA' qc' (f1 k) l' w') :=
              fun w h x => (has_l w q wb lb n l' h.1.st.i x).mono (by rintro e w' ⟨rfl, rfl⟩; exact ⟨rfl, h⟩)
            have C18 : Hid (∀ w, SS W q wb lb n w1.heap.size B BC b (off + k * 2 + 1) qA' qc' (f1 k) l' w → ∀ x, Calls Try.prog 18 #[.agg #[.int .i64 n, .slice qA' l'.length qc'], .int .i64 x] w fun e w' => e = .returned (.bool (hasZ l' x)) ∧ SS W q wb lb n w1.heap.size B BC b (off + k * 2 + 1) qA' qc' (f1 k) l' w') :=
              fun w h x => (refHas w n qA' qc' l' x _ _ h.1.st.r hlM).mono (by rintro e w' ⟨rfl, k⟩; exact ⟨rfl, h.kept k⟩)
            unfold SS at HS C17 C12 C11 C10 C18
            go_wp2_with fail
            go_region_held3 (fun w => (Tl W q wb lb n w1.heap.size B BC w (.slice qA' l'.length qc') l' ∧ b < w.heap.size ∧ w.cell? ⟨w1.heap.size, 0, none⟩ = some (.int .i64 n) ∧ w.cell? ⟨w1.heap.size, 1, none⟩ = some (.slice qA' l'.length qc') ∧ w.cell? ⟨b, off + k * 2 + 1, none⟩ = some (.int .i64 (f1 k)))) (first | assumption | exact ⟨Tl.kept (And.left (by assumption)) (Kp.drew (Kp.refl [] _)), And.right (by assumption)⟩)
              (first
               | (go_at_call 17; refine (C17.out _ (by assumption)).mono ?_; rintro e w' ⟨rfl, k2⟩)
               | (go_at_call 12; refine (C12.out _ (by assumption)).mono ?_; rintro e w' ⟨rfl, k2⟩)
               | (go_at_call 11; refine (C11.out _ (by assumption)).mono ?_; rintro e w' ⟨rfl, k2⟩)
               | (go_at_call 10; refine (C10.out _ (by assumption) _).mono ?_; rintro e w' ⟨rfl, k2⟩)
               | (go_at_call 18; refine (C18.out _ (by assumption) _).mono ?_; rintro e w' ⟨rfl, k2⟩))
            have TT : Hid (Tl W q wb lb n w1.heap.size B BC w' (.slice qA' l'.length qc') l') := And.left (by assumption)
            have CS := Lib.hid (spoil_any w' B BC l'.length l' TT.out.fc)
            clear C17 C12 C11 C10 C18
            go_wp2_with fail
            refine CS.out.mono ?_
            rintro e w9 ⟨rfl, k9⟩
            have hF := TT.out.spoilt k9
            go_wp2_with fail
            go_roundg (99 - k)
            case measure => have := hk1.out; omega
            case rel => exact ⟨k + 1, _, l', by omega, by go_num, hl', hF⟩
    · have hd1 : ¬ ((k : Int) < len ∧ (k : Int) < 100) := by omega
      by_cases h4 : k < len
      · have hd2 : (k : Int) < len := by omega
        have hd3 : ¬ (k : Int) < 100 := by omega
        go_wp2_with fail
        refine (works_any _).mono ?_
        rintro e w3 ⟨rfl, k3⟩
        go_wp2_with fail
        go_ret
        exact ⟨rfl, hst.k.trans k3⟩
      · have hd2 : ¬ (k : Int) < len := by omega
        go_wp2_with fail
        refine (works_any _).mono ?_
        rintro e w3 ⟨rfl, k3⟩
        go_wp2_with fail
        go_ret
        exact ⟨rfl, hst.k.trans k3⟩

set_option maxRecDepth 100000 in
theorem play_no (W : World) (n : Int) (at_ : Int) (v : Value) (h : n < 0 ∨ 4000 < n) :
    Calls Try.prog 5 #[.int .i64 n, v, .int .i64 at_] W fun e w' => e = .returned (.bool true) ∧ Kp [] W w' := by
  have HN := Lib.hid (fun w => new_no w n h)
  rcases h with h | h
  · have hd : decide (n < 0) = true := decide_eq_true h
    go_enter Try.func5, Try.ntmps5
    go_wp2_with fail
    refine (HN.out _).mono ?_
    rintro e w1 ⟨rfl, rfl⟩
    go_wp2_with fail
    refine (works_any _).mono ?_
    rintro e w2 ⟨rfl, k2⟩
    go_wp2_with fail
    go_ret
    exact ⟨rfl, k2⟩
  · have hd : decide (n < 0) = false := decide_eq_false (by omega)
    have hd2 : decide (4000 < n) = true := decide_eq_true h
    go_enter Try.func5, Try.ntmps5
    go_wp2_with fail
    refine (HN.out _).mono ?_
    rintro e w1 ⟨rfl, rfl⟩
    go_wp2_with fail
    refine (works_any _).mono ?_
    rintro e w2 ⟨rfl, k2⟩
    go_wp2_with fail
    go_ret
    exact ⟨rfl, k2⟩
end Go.Proofs.Ytfpjemcnehbdoaa
