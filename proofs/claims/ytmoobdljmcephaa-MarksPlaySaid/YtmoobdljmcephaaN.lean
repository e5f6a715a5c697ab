/- Package marks, the law MarksPlay: it returns true, for every two integers and every slice of acts. -/
import Derived.Test.YtmoobdljmcephaaM
import Derived.Deep.RegionHeld3
namespace Go.Proofs.Ytmoobdljmcephaa
open Go.RowKit PMarksPlay Go.Proofs.YtmoobdljmcephaaW.PrintWords Go.Proofs.YtmoobdljmcephaaW.PrintLast Go.Proofs.YtmoobdljmcephaaW.PrintMore
set_option linter.unusedVariables false
set_option linter.unusedSimpArgs false

theorem refNew_ok (w : World) (R C : Nat) (h1 : 1 ≤ R) (h2 : 1 ≤ C) (h : R * C ≤ 262144) :
    Calls Try.prog 13 #[.int .i64 R, .int .i64 C] w fun e w' => ∃ v, e = .returned (.tuple #[.agg #[.int .i64 R, .int .i64 C, v], .int .i64 0]) ∧ Kd.R k41 41 w' w.heap.size (fun _ => True) v [] ∧ Below w.heap.size w w' := by
  have hR : R ≤ 262144 := by have := Nat.mul_le_mul_left R h2; omega
  have hC : C ≤ 262144 := by have := Nat.mul_le_mul_right C h1; omega
  have e : (R : Int) * C = ((R * C : Nat) : Int) := by simp
  refine burinref20_New.calls 1 R C R C [] 0 w ?_
  simp only [burinref20_New.f, burinref20_New.j0]
  have hw : wrap64 ((R : Int) * C) = ((R * C : Nat) : Int) := by rw [e]; unfold wrap64; omega
  rw [if_neg (by omega), if_neg (by simp; omega), if_neg (by omega), if_neg (by omega), if_neg (by rw [hw]; omega)]
theorem refNew_range (w : World) (a b : Int) (h : a < 1 ∨ b < 1) :
    Calls Try.prog 13 #[.int .i64 a, .int .i64 b] w fun e w' => ∃ v, e = .returned (.tuple #[.agg #[.int .i64 0, .int .i64 0, v], .int .i64 1]) ∧ Kd.R k41 41 w' w.heap.size (fun _ => True) v [] ∧ Below w.heap.size w w' := by
  refine burinref20_New.calls 1 a b 0 0 [] 1 w ?_
  simp only [burinref20_New.f, burinref20_New.j0]
  by_cases h1 : a < 1
  · rw [if_pos h1]
    simp
  · rw [if_neg h1, if_pos (by simp; omega)]
theorem refNew_long (w : World) (a b : Int) (h1 : 1 ≤ a) (h2 : 1 ≤ b) (h : 262144 < a * b) :
    Calls Try.prog 13 #[.int .i64 a, .int .i64 b] w fun e w' => ∃ v, e = .returned (.tuple #[.agg #[.int .i64 0, .int .i64 0, v], .int .i64 2]) ∧ Kd.R k41 41 w' w.heap.size (fun _ => True) v [] ∧ Below w.heap.size w w' := by
  refine burinref20_New.calls 1 a b 0 0 [] 2 w ?_
  simp only [burinref20_New.f, burinref20_New.j0]
  rw [if_neg (by omega), if_neg (by simp; omega)]
  by_cases h3 : a > 262144
  · rw [if_pos h3]
  · by_cases h4 : b > 262144
    · rw [if_neg h3, if_pos h4]
    · have h5 : a * b ≤ 262144 * 262144 := Int.mul_le_mul (by omega) (by omega) (by omega) (by omega)
      have hw : wrap64 (a * b) = a * b := by unfold wrap64; omega
      rw [if_neg h3, if_neg h4, hw, if_pos (by omega)]

theorem Kp.cellAt {w w' : World} (h : Kp [] w w') {p : Addr} (hp : p.block < w.heap.size) {u : Value} (hc : w.cell? p = some u) : w'.cell? p = some u := by
  have := h.block p.block hp (by simp)
  simpa [World.cell?, this] using hc
structure St (W : World) (R C m wb tb : Nat) (w : World) (v : Value) (l : List S41) : Prop where
  k : Kp [] W w
  i : IsM w m wb R C (l.map (encP C))
  t : w.heap[tb]? = some (.cells #[.int .i64 R, .int .i64 C, v] 35 (0, 0))
  r : Kd.R k41 41 w W.heap.size (fun k => k ≠ m ∧ k ≠ wb ∧ k ≠ tb) v l
  rel : Rel R C l

theorem IsM.move {w w' : World} {m wb R C : Nat} {L : List Nat} (h : IsM w m wb R C L) (e1 : w'.heap[m]? = w.heap[m]?) (e2 : w'.heap[wb]? = w.heap[wb]?) : IsM w' m wb R C L := by
  obtain ⟨cs, W, hw, hr⟩ := h.hw
  exact ⟨e1.trans h.hm, ⟨cs, W, e2.trans hw, hr⟩, h.lt, h.nd, h.d, h.r, h.c, h.small⟩
theorem St.ne {W R C m wb tb w v l} (h : St W R C m wb tb w v l) : m ≠ tb ∧ wb ≠ tb := by
  constructor
  · rintro rfl
    have := h.i.hm.symm.trans h.t
    simp at this
  · rintro rfl
    obtain ⟨_, _, hw, _⟩ := h.i.hw
    have := hw.symm.trans h.t
    simp at this
theorem mark_f' (R C : Nat) (x y : Int) (l : List S41) (hl : l.length < 1000000) : burinref20_Mark.f 1000001 R C l x y = some ((R : Int), (C : Int), addP R C l x y, goodP R C l x y) := by
  rw [mark_f R C x y l hl]
  unfold addP goodP
  split
  · next h => simp only [h, decide_true, Bool.not_true, Bool.false_eq_true, if_false]
  · next h => simp only [h, decide_false, Bool.not_false, if_true]
theorem refMark (W w : World) (R C : Nat) (P : Nat → Prop) (v : Value) (l : List S41) (x y : Int) (hB : Below W.heap.size W w) (ho : Kd.R k41 41 w W.heap.size P v l) (hl : l.length < 1000000) :
    Calls Try.prog 15 #[.agg #[.int .i64 R, .int .i64 C, v], .agg #[.int .i64 x, .int .i64 y]] w fun e w' => ∃ A c, e = .returned (.tuple #[.agg #[.int .i64 R, .int .i64 C, .slice A (addP R C l x y).length c], .bool (goodP R C l x y)]) ∧
      Kd.R k41 41 w' W.heap.size (fun k => P k ∨ w.heap.size ≤ k) (.slice A (addP R C l x y).length c) (addP R C l x y) ∧ Below W.heap.size W w' ∧ Kept w w' P := by
  refine (burinref20_Mark.calls 1000001 R C P v l x y R C (addP R C l x y) (goodP R C l x y) W w hB ho (mark_f' R C x y l hl)).mono ?_
  rintro e w' ⟨v2, rfl, h1, h2, h3⟩
  obtain ⟨A, c, rfl⟩ := Kd.R_slice h1
  exact ⟨A, c, rfl, h1, h2, h3⟩
theorem refHas (w : World) (R C : Int) (A : Option Addr) (c : Nat) (l : List S41) (x y : Int) (base : Nat) (P : Nat → Prop) (h : Kd.R k41 41 w base P (.slice A l.length c) l) (hl : l.length < 1000000) :
    Calls Try.prog 16 #[.agg #[.int .i64 R, .int .i64 C, .slice A l.length c], .agg #[.int .i64 x, .int .i64 y]] w fun e w' => e = .returned (.bool (hasL l x y)) ∧ Kp [] w w' := by
  obtain ⟨A', c', he, h1, h2⟩ := Kd.R_reads h
  injection he with e1 e2 e3
  subst e1 e3
  refine (burinref20_Has.calls 1000001 R C A c l x y (hasL l x y) w h2 h1 (has_f R C x y l hl)).mono ?_
  rintro e w' ⟨rfl, b⟩
  exact ⟨rfl, ⟨b.os, b.tape, b.output, b.size, fun i hi _ => b.block i hi⟩⟩
theorem refFirst (w : World) (R C : Int) (A : Option Addr) (c : Nat) (l : List S41) (x : Int) (base : Nat) (P : Nat → Prop) (h : Kd.R k41 41 w base P (.slice A l.length c) l) (hl : l.length < 1000000) :
    Calls Try.prog 18 #[.agg #[.int .i64 R, .int .i64 C, .slice A l.length c], .int .i64 x] w fun e w' => e = .returned (.int .i64 (firstL l x)) ∧ Kp [] w w' := by
  obtain ⟨A', c', he, h1, h2⟩ := Kd.R_reads h
  injection he with e1 e2 e3
  subst e1 e3
  refine (burinref20_First.calls 1000001 R C A c l x (firstL l x) w h2 h1 (first_f R C x l hl)).mono ?_
  rintro e w' ⟨rfl, b⟩
  exact ⟨rfl, ⟨b.os, b.tape, b.output, b.size, fun i hi _ => b.block i hi⟩⟩
theorem St.kept {W R C m wb tb w v l} (h : St W R C m wb tb w v l) {w' : World} (k : Kp [] w w') : St W R C m wb tb w' v l :=
  ⟨h.k.trans k, h.i.kept k (by simp) (by simp), (k.block _ (ltB h.t) (by simp)).trans h.t, Kd.R_below h.r ⟨k.os, k.tape, k.output, k.size, fun i hi => k.block i hi (by simp)⟩, h.rel⟩

def SS (W : World) (R C m wb tb xb : Nat) (x y : Int) (A : Option Addr) (c : Nat) (l : List S41) (w : World) : Prop :=
  St W R C m wb tb w (.slice A l.length c) l ∧ w.heap[xb]? = some (.cells #[Value.int IntKind.i64 x, Value.int IntKind.i64 y] 41 (0, 0)) ∧ w.cell? ⟨tb, 0, none⟩ = some (.int .i64 R) ∧ w.cell? ⟨tb, 1, none⟩ = some (.int .i64 C) ∧ w.cell? ⟨tb, 2, none⟩ = some (.slice A l.length c) ∧
    w.cell? ⟨xb, 0, none⟩ = some (.int .i64 x) ∧ w.cell? ⟨xb, 1, none⟩ = some (.int .i64 y)
theorem SS.mk' {W R C m wb tb xb x y A c l w} (h : St W R C m wb tb w (.slice A l.length c) l) (hx : w.heap[xb]? = some (.cells #[Value.int IntKind.i64 x, Value.int IntKind.i64 y] 41 (0, 0))) : SS W R C m wb tb xb x y A c l w := by
  have t0 := cellB h.t 0
  have t1 := cellB h.t 1
  have t2 := cellB h.t 2
  have y0 := cellB hx 0
  have y1 := cellB hx 1
  simp at t0 t1 t2 y0 y1
  exact ⟨h, hx, t0, t1, t2, y0, y1⟩
theorem SS.kept {W R C m wb tb xb x y A c l w} (h : SS W R C m wb tb xb x y A c l w) {w' : World} (k : Kp [] w w') : SS W R C m wb tb xb x y A c l w' :=
  SS.mk' (h.1.kept k) ((k.block _ (ltB h.2.1) (by simp)).trans h.2.1)

set_option maxRecDepth 100000 in
set_option maxHeartbeats 1600000 in
theorem play_main (W : World) (R C : Nat) (A : Option Addr) (len cap : Nat) (f0 f1 f2 : Nat → Int) (hA : IsActs W A len f0 f1 f2) (hR : 1 ≤ R) (hC : 1 ≤ C) (hRC : R * C ≤ 262144) :
    Calls Try.prog 5 #[.int .i64 R, .int .i64 C, .slice A len cap] W fun e w' => e = .returned (.bool true) ∧ Kp [] W w' := by
  have hlen := hA.1
  go_enter Try.func5, Try.ntmps5
  go_wp2_with fail
  refine (new_yes W R C hR hC hRC).mono ?_
  rintro e w1 ⟨m, wb, rfl, h1, hm, hwb, k1⟩
  have ks := k1.size
  go_wp2_with fail
  refine (refNew_ok w1 R C hR hC hRC).mono ?_
  rintro e w2 ⟨v, rfl, hr, b2⟩
  obtain ⟨vA, vc, rfl⟩ := Kd.R_slice hr
  go_wp2_with fail
  go_loopw [11] (fun i wr => ∃ (k : Nat) (v : Value) (l : List S41), k ≤ 100 ∧ i = .int .i64 k ∧ l.length ≤ k ∧ St W R C m wb w2.heap.size wr v l) (fun i _ => 100 - (intOf i).toNat)
  case atStart =>
    refine ⟨0, .slice vA 0 vc, [], by omega, rfl, by simp, ?_⟩
    have bs := b2.size
    have K2 : Kp [] W w2 := k1.trans ⟨b2.os, b2.tape, b2.output, b2.size, fun k hk _ => b2.block k hk⟩
    have h2 : IsM w2 m wb R C [] := h1.kept ⟨b2.os, b2.tape, b2.output, b2.size, fun k hk _ => b2.block k hk⟩ (S := []) (by simp) (by simp)
    have lm := ltB h1.hm
    obtain ⟨_, _, hw, _⟩ := h1.hw
    have lw := ltB hw
    refine ⟨K2.alloc _, h2.kept ((Kp.refl [] w2).alloc _) (by simp) (by simp), heap_alloc_new w2 _, ?_, by intro s hs; simp at hs⟩
    refine Kd.R_alloc (Kd.R_lower (Kd.R_mono (Kd.R_bound hr) ?_) ks) _
    rintro k ⟨_, q1, q2, _⟩
    omega
  case round =>
    obtain ⟨k, v, l, hk1, rfl, hl, hst⟩ := hrel
    by_cases h3 : k < len ∧ k < 100
    · obtain ⟨b, off, rfl, hb, hc⟩ := hA.2 (by omega)
      obtain ⟨c0, c1, c2, x0, x1, x2⟩ := hc k h3.1
      have hk := hst.k
      have d0 := hk.cellAt hb c0
      have d1 := hk.cellAt hb c1
      have d2 := hk.cellAt hb c2
      have hbw : b < wr.heap.size := Nat.lt_of_lt_of_le hb hk.size
      have ka := (Kp.refl [] wr).alloc (.cells #[.int .i64 0, .int .i64 0] 41)
      have g1 := ka.cellAt hbw d1
      have g2 := ka.cellAt hbw d2
      clear c0 c1 c2
      have hlt : (k : Int) < len := by omega
      have hlt100 : (k : Int) < 100 := by omega
      obtain ⟨qA, qc, rfl⟩ := Kd.R_slice hst.r
      go_wp2_with fail
      go_region
      obtain ⟨ws, hws⟩ : ∃ ws, ws = (wr.alloc (Obj.cells #[Value.int IntKind.i64 (f1 k), Value.int IntKind.i64 (f2 k)] 41)).drew := ⟨_, rfl⟩
      have kw : Kp [] wr ws := by rw [hws]; exact ((Kp.refl [] wr).alloc _).drew
      have hs1 : St W R C m wb w2.heap.size ws _ l := hst.kept kw
      have hx : ws.heap[wr.heap.size]? = some (.cells #[Value.int IntKind.i64 (f1 k), Value.int IntKind.i64 (f2 k)] 41 (0, 0)) := by rw [hws]; exact heap_alloc_new wr _
      have s0 := kw.cellAt hbw d0
      have hR1 : Kd.R k41 41 ws W.heap.size (fun k => k ≠ m ∧ k ≠ wb ∧ k ≠ w2.heap.size ∧ k ≠ wr.heap.size) (.slice qA l.length qc) l := by
        refine Kd.R_below (Kd.R_mono (Kd.R_bound hst.r) ?_) ⟨kw.os, kw.tape, kw.output, kw.size, fun i hi => kw.block i hi (by simp)⟩
        rintro k ⟨⟨q1, q2, q3⟩, q4, q5, _⟩
        exact ⟨q1, q2, q3, by omega⟩
      have hn1 := ltB hst.i.hm
      have hn2 := ltB hst.t
      have hn3 : wb < wr.heap.size := by obtain ⟨_, _, hw, _⟩ := hst.i.hw; exact ltB hw
      obtain ⟨xb, hxb⟩ : ∃ xb, xb = wr.heap.size := ⟨_, rfl⟩
      rw [← hws, ← hxb]
      rw [← hxb] at hx hn1 hn2 hn3 hR1
      have hxW : W.heap.size ≤ xb := by rw [hxb]; exact hk.size
      have hTW : W.heap.size ≤ w2.heap.size := by have := b2.size; omega
      have kw1 : xb < ws.heap.size := ltB hx
      clear hws hxb d0 d1 d2 g1 g2 ka kw hk hst hbw
      have y0 := cellB hx 0
      have y1 := cellB hx 1
      have t0 := cellB hs1.t 0
      have t1 := cellB hs1.t 1
      have t2 := cellB hs1.t 2
      simp at y0 y1 t0 t1 t2
      obtain ⟨ne1, ne2⟩ := hs1.ne
      by_cases e1 : f0 k = 1
      · rw [e1] at s0
        go_wp2_with fail
        refine (clear_any ws m wb R C _ hs1.i).mono ?_
        rintro e w4 ⟨rfl, h4, k4⟩
        have ht4 := (k4.block _ (ltB hs1.t) (by simp; exact ne2.symm)).trans hs1.t
        have hx4 := (k4.block _ (ltB hx) (by simp; omega)).trans hx
        have t2' := cellB ht4 2
        have t3' := frozB ht4 2
        simp at t2'
        go_wp2_with fail
        obtain ⟨w5, hw5⟩ : ∃ w5, w5 = w4.setCell ⟨w2.heap.size, 2, none⟩ (Value.slice none 0 0) := ⟨_, rfl⟩
        have k5 : Kp [w2.heap.size] w4 w5 := by rw [hw5]; exact (Kp.refl _ _).setCell (by simp) _
        have ht5 := setB ht4 2 (Value.slice none 0 0)
        rw [← hw5] at ht5 ⊢
        simp at ht5
        have hX := (k5.block _ (ltB hx4) (by simp; omega)).trans hx4
        obtain ⟨nl, hnl0⟩ : ∃ nl : List S41, nl = [] := ⟨_, rfl⟩
        have hnl : nl.length ≤ k := by rw [hnl0]; simp
        have hS : St W R C m wb w2.heap.size w5 (.slice none nl.length 0) nl := by
          subst hnl0
          obtain ⟨_, _, hw, _⟩ := h4.hw
          exact ⟨(hs1.k.into k4 (by simp; omega)).into k5 (by simp; exact hTW), h4.move (k5.block _ (ltB h4.hm) (by simp; exact ne1)) (k5.block _ (ltB hw) (by simp; exact ne2)), ht5, Kd.R_nil _ _ _ _ _, by intro s hs; simp at hs⟩
        clear hnl0 hw5
        have HS : SS W R C m wb w2.heap.size xb (f1 k) (f2 k) (none : Option Addr) 0 nl w5 := SS.mk' hS hX
        have C11 : Hid (∀ w', SS W R C m wb w2.heap.size xb (f1 k) (f2 k) (none : Option Addr) 0 nl w' → Calls Try.prog 11 #[.pointer (some ⟨m, 0, none⟩), .int .i64 (f1 k), .int .i64 (f2 k)] w' fun e w'' => e = .returned (.bool (hasL nl (f1 k) (f2 k))) ∧ SS W R C m wb w2.heap.size xb (f1 k) (f2 k) (none : Option Addr) 0 nl w'') :=
          fun w' h => (has_l w' m wb R C _ h.1.i h.1.rel _ _).mono (by rintro e w'' ⟨rfl, rfl⟩; exact ⟨rfl, h⟩)
        have C16 : Hid (∀ w', SS W R C m wb w2.heap.size xb (f1 k) (f2 k) (none : Option Addr) 0 nl w' → Calls Try.prog 16 #[.agg #[.int .i64 R, .int .i64 C, .slice (none : Option Addr) nl.length 0], .agg #[.int .i64 (f1 k), .int .i64 (f2 k)]] w' fun e w'' => e = .returned (.bool (hasL nl (f1 k) (f2 k))) ∧ SS W R C m wb w2.heap.size xb (f1 k) (f2 k) (none : Option Addr) 0 nl w'') :=
          fun w' h => (refHas w' R C _ _ _ _ _ _ _ h.1.r (by omega)).mono (by rintro e w'' ⟨rfl, k⟩; exact ⟨rfl, SS.kept h k⟩)
        have C12 : Hid (∀ w', SS W R C m wb w2.heap.size xb (f1 k) (f2 k) (none : Option Addr) 0 nl w' → Calls Try.prog 12 #[.pointer (some ⟨m, 0, none⟩)] w' fun e w'' => e = .returned (.int .i64 nl.length) ∧ SS W R C m wb w2.heap.size xb (f1 k) (f2 k) (none : Option Addr) 0 nl w'') :=
          fun w' h => (count_any w' m wb R C _ h.1.i).mono (by rintro e w'' ⟨rfl, rfl⟩; exact ⟨by simp, h⟩)
        have C17 : Hid (∀ w', SS W R C m wb w2.heap.size xb (f1 k) (f2 k) (none : Option Addr) 0 nl w' → Calls Try.prog 17 #[.pointer (some ⟨m, 0, none⟩), .int .i64 (f1 k)] w' fun e w'' => e = .returned (.int .i64 (firstL nl (f1 k))) ∧ SS W R C m wb w2.heap.size xb (f1 k) (f2 k) (none : Option Addr) 0 nl w'') :=
          fun w' h => (first_l w' m wb R C _ h.1.i h.1.rel _).mono (by rintro e w'' ⟨rfl, rfl⟩; exact ⟨rfl, h⟩)
        have C18 : Hid (∀ w', SS W R C m wb w2.heap.size xb (f1 k) (f2 k) (none : Option Addr) 0 nl w' → Calls Try.prog 18 #[.agg #[.int .i64 R, .int .i64 C, .slice (none : Option Addr) nl.length 0], .int .i64 (f1 k)] w' fun e w'' => e = .returned (.int .i64 (firstL nl (f1 k))) ∧ SS W R C m wb w2.heap.size xb (f1 k) (f2 k) (none : Option Addr) 0 nl w'') :=
          fun w' h => (refFirst w' R C _ _ _ _ _ _ h.1.r (by omega)).mono (by rintro e w'' ⟨rfl, k⟩; exact ⟨rfl, SS.kept h k⟩)
        unfold SS at HS C11 C16 C12 C17 C18
        go_region_held3 (fun w' => (St W R C m wb w2.heap.size w' (.slice (none : Option Addr) nl.length 0) nl ∧ w'.heap[xb]? = some (.cells #[Value.int IntKind.i64 (f1 k), Value.int IntKind.i64 (f2 k)] 41 (0, 0)) ∧ w'.cell? ⟨w2.heap.size, 0, none⟩ = some (.int .i64 R) ∧ w'.cell? ⟨w2.heap.size, 1, none⟩ = some (.int .i64 C) ∧ w'.cell? ⟨w2.heap.size, 2, none⟩ = some (.slice (none : Option Addr) nl.length 0) ∧ w'.cell? ⟨xb, 0, none⟩ = some (.int .i64 (f1 k)) ∧ w'.cell? ⟨xb, 1, none⟩ = some (.int .i64 (f2 k)))) (first | assumption | exact ⟨St.kept (And.left (by assumption)) (Kp.drew (Kp.refl [] _)), And.right (by assumption)⟩)
          (first
           | (go_at_call 11; refine (C11.out _ (by assumption)).mono ?_; rintro e w' ⟨rfl, k2⟩)
           | (go_at_call 12; refine (C12.out _ (by assumption)).mono ?_; rintro e w' ⟨rfl, k2⟩)
           | (go_at_call 16; refine (C16.out _ (by assumption)).mono ?_; rintro e w' ⟨rfl, k2⟩))
        have hl2 : nl.length ≤ k + 1 := by omega
        by_cases hcols : (C : Int) < 2000
        · have hcd : decide ((C : Int) < 2000) = true := by simpa using hcols
          go_wp2_with fail
          go_region_held3 (fun w' => (St W R C m wb w2.heap.size w' (.slice (none : Option Addr) nl.length 0) nl ∧ w'.heap[xb]? = some (.cells #[Value.int IntKind.i64 (f1 k), Value.int IntKind.i64 (f2 k)] 41 (0, 0)) ∧ w'.cell? ⟨w2.heap.size, 0, none⟩ = some (.int .i64 R) ∧ w'.cell? ⟨w2.heap.size, 1, none⟩ = some (.int .i64 C) ∧ w'.cell? ⟨w2.heap.size, 2, none⟩ = some (.slice (none : Option Addr) nl.length 0) ∧ w'.cell? ⟨xb, 0, none⟩ = some (.int .i64 (f1 k)) ∧ w'.cell? ⟨xb, 1, none⟩ = some (.int .i64 (f2 k)))) (first | assumption | exact ⟨St.kept (And.left (by assumption)) (Kp.drew (Kp.refl [] _)), And.right (by assumption)⟩)
            (first
             | (go_at_call 17; refine (C17.out _ (by assumption)).mono ?_; rintro e w' ⟨rfl, k2⟩)
             | (go_at_call 18; refine (C18.out _ (by assumption)).mono ?_; rintro e w' ⟨rfl, k2⟩))
          all_goals
            go_wp2_with fail
            go_round
            case rel => exact ⟨k + 1, _, _, by omega, by go_num, hl2, by first | exact (And.left (by assumption)) | exact (St.kept (And.left (by assumption)) (Kp.drewN (Kp.refl [] _) _))⟩
            case measure => simp [intOf]; omega
        · have hcd : decide ((C : Int) < 2000) = false := by simpa using hcols
          go_wp2_with fail
          go_quiet (skip)
          all_goals
            go_wp2_with fail
            go_round
            case rel => exact ⟨k + 1, _, _, by omega, by go_num, hl2, by first | exact (And.left (by assumption)) | exact (St.kept (And.left (by assumption)) (Kp.drewN (Kp.refl [] _) _))⟩
            case measure => simp [intOf]; omega
      · have hd0 : ((f0 k) == 1) = false := by rw [beq_eq_false_iff_ne]; exact e1
        go_wp2_with fail
        refine (refMark W ws R C (fun k => k ≠ m ∧ k ≠ wb ∧ k ≠ w2.heap.size ∧ k ≠ xb) _ l (f1 k) (f2 k) ?_ ?_ (by omega)).mono ?_
        · exact hs1.k.below (Nat.le_refl _) (by simp)
        · exact hR1
        rintro e w4 ⟨A4, c4, rfl, r4, b4, p4⟩
        have ht4 := (p4.2 _ (ltB hs1.t) (by simp)).trans hs1.t
        have hx4 := (p4.2 _ (ltB hx) (by simp)).trans hx
        obtain ⟨wA, hwA⟩ : ∃ wA, wA = w4.alloc (Obj.cells #[Value.int IntKind.i64 R, Value.int IntKind.i64 C, .slice A4 (addP R C l (f1 k) (f2 k)).length c4] 35) := ⟨_, rfl⟩
        have ka := (Kp.refl [] w4).alloc (Obj.cells #[Value.int IntKind.i64 R, Value.int IntKind.i64 C, .slice A4 (addP R C l (f1 k) (f2 k)).length c4] 35)
        rw [← hwA] at ka
        have htA := (ka.block _ (ltB ht4) (by simp)).trans ht4
        have hxA := (ka.block _ (ltB hx4) (by simp)).trans hx4
        have t0' := cellB htA 0
        have t1' := cellB htA 1
        have t2' := cellB htA 2
        have t3' := frozB htA 0
        have t4' := frozB htA 1
        have t5' := frozB htA 2
        simp at t0' t1' t2'
        obtain ⟨wF, hwF⟩ : ∃ wF, wF = ((wA.setCell ⟨w2.heap.size, 0, none⟩ (.int .i64 R)).setCell ⟨w2.heap.size, 1, none⟩ (.int .i64 C)).setCell ⟨w2.heap.size, 2, none⟩ (.slice A4 (addP R C l (f1 k) (f2 k)).length c4) := ⟨_, rfl⟩
        have kF : Kp [w2.heap.size] w4 wF := by
          rw [hwF]
          exact (((ka.mono (by simp)).setCell (by simp) _).setCell (by simp) _).setCell (by simp) _
        have htF := setB (setB (setB htA 0 (.int .i64 R)) 1 (.int .i64 C)) 2 (.slice A4 (addP R C l (f1 k) (f2 k)).length c4)
        rw [← hwF] at htF
        simp at htF
        have hxF := (kF.block _ (ltB hx4) (by simp; omega)).trans hx4
        have z0 := cellB hxF 0
        have z1 := cellB hxF 1
        simp at z0 z1
        rw [hwF, hwA] at z0 z1
        rw [hwA] at t0' t1' t2' t3' t4' t5'
        have hiF : IsM wF m wb R C (l.map (encP C)) := by
          obtain ⟨_, _, hw, _⟩ := hs1.i.hw
          have e1 := (p4.2 m (ltB hs1.i.hm) (by simp))
          have e2 := (p4.2 wb (ltB hw) (by simp))
          have l1 := ltB (e1.trans hs1.i.hm)
          have l2 := ltB (e2.trans hw)
          exact hs1.i.move ((kF.block _ l1 (by simp; omega)).trans e1) ((kF.block _ l2 (by simp; omega)).trans e2)
        go_wp2_with fail
        rw [← hwA, ← hwF]
        refine (mark_l wF m wb R C l hiF hs1.rel (f1 k) (f2 k)).mono ?_
        rintro e w5 ⟨rfl, h5, k5⟩
        go_wp2_with fail
        have hnl := add_len R C l (f1 k) (f2 k)
        have hX := (k5.block _ (ltB hxF) (by simp; omega)).trans hxF
        have hS : St W R C m wb w2.heap.size w5 (.slice A4 (addP R C l (f1 k) (f2 k)).length c4) (addP R C l (f1 k) (f2 k)) := by
          refine ⟨?_, h5, (k5.block _ (ltB htF) (by simp; exact ne2.symm)).trans htF, ?_, Rel_add hs1.rel _ _⟩
          · exact ((Kp.mk b4.os b4.tape b4.output b4.size (fun i hi _ => b4.block i hi)).into kF (by simp; exact hTW)).into k5 (by simp; omega)
          · have r5 : Kd.R k41 41 w4 W.heap.size (fun k => k ≠ m ∧ k ≠ wb ∧ k ≠ w2.heap.size) (.slice A4 (addP R C l (f1 k) (f2 k)).length c4) (addP R C l (f1 k) (f2 k)) := by
              have := kw1
              refine Kd.R_mono r4 ?_
              rintro k (⟨q1, q2, q3, _⟩ | q)
              · exact ⟨q1, q2, q3⟩
              · omega
            refine Kd.R_step r5 ?_
            rintro k ⟨q1, q2, q3⟩ q4
            exact (k5.block k (Nat.lt_of_lt_of_le q4 kF.size) (by simpa using q2)).trans (kF.block k q4 (by simpa using q3))
        have HS : SS W R C m wb w2.heap.size xb (f1 k) (f2 k) A4 c4 (addP R C l (f1 k) (f2 k)) w5 := SS.mk' hS hX
        have C11 : Hid (∀ w', SS W R C m wb w2.heap.size xb (f1 k) (f2 k) A4 c4 (addP R C l (f1 k) (f2 k)) w' → Calls Try.prog 11 #[.pointer (some ⟨m, 0, none⟩), .int .i64 (f1 k), .int .i64 (f2 k)] w' fun e w'' => e = .returned (.bool (hasL (addP R C l (f1 k) (f2 k)) (f1 k) (f2 k))) ∧ SS W R C m wb w2.heap.size xb (f1 k) (f2 k) A4 c4 (addP R C l (f1 k) (f2 k)) w'') :=
          fun w' h => (has_l w' m wb R C _ h.1.i h.1.rel _ _).mono (by rintro e w'' ⟨rfl, rfl⟩; exact ⟨rfl, h⟩)
        have C16 : Hid (∀ w', SS W R C m wb w2.heap.size xb (f1 k) (f2 k) A4 c4 (addP R C l (f1 k) (f2 k)) w' → Calls Try.prog 16 #[.agg #[.int .i64 R, .int .i64 C, .slice A4 (addP R C l (f1 k) (f2 k)).length c4], .agg #[.int .i64 (f1 k), .int .i64 (f2 k)]] w' fun e w'' => e = .returned (.bool (hasL (addP R C l (f1 k) (f2 k)) (f1 k) (f2 k))) ∧ SS W R C m wb w2.heap.size xb (f1 k) (f2 k) A4 c4 (addP R C l (f1 k) (f2 k)) w'') :=
          fun w' h => (refHas w' R C _ _ _ _ _ _ _ h.1.r (by omega)).mono (by rintro e w'' ⟨rfl, k⟩; exact ⟨rfl, SS.kept h k⟩)
        have C12 : Hid (∀ w', SS W R C m wb w2.heap.size xb (f1 k) (f2 k) A4 c4 (addP R C l (f1 k) (f2 k)) w' → Calls Try.prog 12 #[.pointer (some ⟨m, 0, none⟩)] w' fun e w'' => e = .returned (.int .i64 (addP R C l (f1 k) (f2 k)).length) ∧ SS W R C m wb w2.heap.size xb (f1 k) (f2 k) A4 c4 (addP R C l (f1 k) (f2 k)) w'') :=
          fun w' h => (count_any w' m wb R C _ h.1.i).mono (by rintro e w'' ⟨rfl, rfl⟩; exact ⟨by simp, h⟩)
        have C17 : Hid (∀ w', SS W R C m wb w2.heap.size xb (f1 k) (f2 k) A4 c4 (addP R C l (f1 k) (f2 k)) w' → Calls Try.prog 17 #[.pointer (some ⟨m, 0, none⟩), .int .i64 (f1 k)] w' fun e w'' => e = .returned (.int .i64 (firstL (addP R C l (f1 k) (f2 k)) (f1 k))) ∧ SS W R C m wb w2.heap.size xb (f1 k) (f2 k) A4 c4 (addP R C l (f1 k) (f2 k)) w'') :=
          fun w' h => (first_l w' m wb R C _ h.1.i h.1.rel _).mono (by rintro e w'' ⟨rfl, rfl⟩; exact ⟨rfl, h⟩)
        have C18 : Hid (∀ w', SS W R C m wb w2.heap.size xb (f1 k) (f2 k) A4 c4 (addP R C l (f1 k) (f2 k)) w' → Calls Try.prog 18 #[.agg #[.int .i64 R, .int .i64 C, .slice A4 (addP R C l (f1 k) (f2 k)).length c4], .int .i64 (f1 k)] w' fun e w'' => e = .returned (.int .i64 (firstL (addP R C l (f1 k) (f2 k)) (f1 k))) ∧ SS W R C m wb w2.heap.size xb (f1 k) (f2 k) A4 c4 (addP R C l (f1 k) (f2 k)) w'') :=
          fun w' h => (refFirst w' R C _ _ _ _ _ _ h.1.r (by omega)).mono (by rintro e w'' ⟨rfl, k⟩; exact ⟨rfl, SS.kept h k⟩)
        unfold SS at HS C11 C16 C12 C17 C18
        go_region_held3 (fun w' => (St W R C m wb w2.heap.size w' (.slice A4 (addP R C l (f1 k) (f2 k)).length c4) (addP R C l (f1 k) (f2 k)) ∧ w'.heap[xb]? = some (.cells #[Value.int IntKind.i64 (f1 k), Value.int IntKind.i64 (f2 k)] 41 (0, 0)) ∧ w'.cell? ⟨w2.heap.size, 0, none⟩ = some (.int .i64 R) ∧ w'.cell? ⟨w2.heap.size, 1, none⟩ = some (.int .i64 C) ∧ w'.cell? ⟨w2.heap.size, 2, none⟩ = some (.slice A4 (addP R C l (f1 k) (f2 k)).length c4) ∧ w'.cell? ⟨xb, 0, none⟩ = some (.int .i64 (f1 k)) ∧ w'.cell? ⟨xb, 1, none⟩ = some (.int .i64 (f2 k)))) (first | assumption | exact ⟨St.kept (And.left (by assumption)) (Kp.drew (Kp.refl [] _)), And.right (by assumption)⟩)
          (first
           | (go_at_call 11; refine (C11.out _ (by assumption)).mono ?_; rintro e w' ⟨rfl, k2⟩)
           | (go_at_call 12; refine (C12.out _ (by assumption)).mono ?_; rintro e w' ⟨rfl, k2⟩)
           | (go_at_call 16; refine (C16.out _ (by assumption)).mono ?_; rintro e w' ⟨rfl, k2⟩))
        have hl2 : (addP R C l (f1 k) (f2 k)).length ≤ k + 1 := by omega
        by_cases hcols : (C : Int) < 2000
        · have hcd : decide ((C : Int) < 2000) = true := by simpa using hcols
          go_wp2_with fail
          go_region_held3 (fun w' => (St W R C m wb w2.heap.size w' (.slice A4 (addP R C l (f1 k) (f2 k)).length c4) (addP R C l (f1 k) (f2 k)) ∧ w'.heap[xb]? = some (.cells #[Value.int IntKind.i64 (f1 k), Value.int IntKind.i64 (f2 k)] 41 (0, 0)) ∧ w'.cell? ⟨w2.heap.size, 0, none⟩ = some (.int .i64 R) ∧ w'.cell? ⟨w2.heap.size, 1, none⟩ = some (.int .i64 C) ∧ w'.cell? ⟨w2.heap.size, 2, none⟩ = some (.slice A4 (addP R C l (f1 k) (f2 k)).length c4) ∧ w'.cell? ⟨xb, 0, none⟩ = some (.int .i64 (f1 k)) ∧ w'.cell? ⟨xb, 1, none⟩ = some (.int .i64 (f2 k)))) (first | assumption | exact ⟨St.kept (And.left (by assumption)) (Kp.drew (Kp.refl [] _)), And.right (by assumption)⟩)
            (first
             | (go_at_call 17; refine (C17.out _ (by assumption)).mono ?_; rintro e w' ⟨rfl, k2⟩)
             | (go_at_call 18; refine (C18.out _ (by assumption)).mono ?_; rintro e w' ⟨rfl, k2⟩))
          all_goals
            go_wp2_with fail
            go_round
            case rel => exact ⟨k + 1, _, _, by omega, by go_num, hl2, by first | exact (And.left (by assumption)) | exact (St.kept (And.left (by assumption)) (Kp.drewN (Kp.refl [] _) _))⟩
            case measure => simp [intOf]; omega
        · have hcd : decide ((C : Int) < 2000) = false := by simpa using hcols
          go_wp2_with fail
          go_quiet (skip)
          all_goals
            go_wp2_with fail
            go_round
            case rel => exact ⟨k + 1, _, _, by omega, by go_num, hl2, by first | exact (And.left (by assumption)) | exact (St.kept (And.left (by assumption)) (Kp.drewN (Kp.refl [] _) _))⟩
            case measure => simp [intOf]; omega
    · have hd1 : ¬ ((k : Int) < len ∧ (k : Int) < 100) := by omega
      by_cases h4 : k < len
      · have hd2 : (k : Int) < len := by omega
        have hd3 : ¬ (k : Int) < 100 := by omega
        go_wp2_with fail
        refine (works_any _).mono ?_
        rintro e w3 ⟨rfl, k3⟩
        go_wp2_with fail
        go_ret
        exact ⟨rfl, hst.k.trans k3⟩
      · have hd2 : ¬ (k : Int) < len := by omega
        go_wp2_with fail
        refine (works_any _).mono ?_
        rintro e w3 ⟨rfl, k3⟩
        go_wp2_with fail
        go_ret
        exact ⟨rfl, hst.k.trans k3⟩

theorem play_none (W : World) (a b code : Int) (v : Value) (hc : code ≠ 0) (wc : (Lit.int .i64 code).wf = true) 
    (HN : ∀ w, Calls Try.prog 8 #[.int .i64 a, .int .i64 b] w fun e w' => e = .returned (.tuple #[.pointer none, .int .i64 code]) ∧ w = w')
    (HR : ∀ w, Calls Try.prog 13 #[.int .i64 a, .int .i64 b] w fun e w' => ∃ v, e = .returned (.tuple #[.agg #[.int .i64 0, .int .i64 0, v], .int .i64 code]) ∧ Kd.R k41 41 w' w.heap.size (fun _ => True) v [] ∧ Below w.heap.size w w') :
    Calls Try.prog 5 #[.int .i64 a, .int .i64 b, v] W fun e w' => e = .returned (.bool true) ∧ Kp [] W w' := by
  have HN' := Lib.hid HN
  have HR' := Lib.hid HR
  clear HN HR
  have hc' : (code == 0) = false := by rw [beq_eq_false_iff_ne]; exact hc
  have hc2 : (code != 0) = true := by rw [bne_iff_ne]; exact hc
  go_enter Try.func5, Try.ntmps5
  go_wp2_with fail
  refine (HN'.out _).mono ?_
  rintro e w1 ⟨rfl, rfl⟩
  go_wp2_with fail
  refine (HR'.out _).mono ?_
  rintro e w2 ⟨u, rfl, hr, b2⟩
  obtain ⟨vA, vc, rfl⟩ := Kd.R_slice hr
  go_wp2_with fail
  go_loopw [11] (fun i wr => i = .int .i64 0 ∧ Kp [] W wr) (fun i _ => 0)
  case atStart => exact ⟨rfl, (Kp.mk b2.os b2.tape b2.output b2.size (fun i hi _ => b2.block i hi)).alloc _⟩
  case round =>
    obtain ⟨rfl, hk⟩ := hrel
    go_wp2_with fail
    refine (works_any _).mono ?_
    rintro e w3 ⟨rfl, k3⟩
    go_wp2_with fail
    go_ret
    exact ⟨rfl, hk.trans k3⟩

theorem play_any (W : World) (a b : Int) (A : Option Addr) (len cap : Nat) (f0 f1 f2 : Nat → Int) (hA : IsActs W A len f0 f1 f2) :
    Calls Try.prog 5 #[.int .i64 a, .int .i64 b, .slice A len cap] W fun e w' => e = .returned (.bool true) ∧ Below W.heap.size W w' := by
  refine Calls.mono (R := fun e w' => e = .returned (.bool true) ∧ Kp [] W w') ?_ (fun e w' h => ⟨h.1, h.2.below (Nat.le_refl _) (by simp)⟩)
  by_cases h1 : a < 1 ∨ b < 1
  · exact play_none W a b 1 _ (by omega) (by rfl) (fun w => new_range w a b h1) (fun w => refNew_range w a b h1)
  · by_cases h2 : 262144 < a * b
    · exact play_none W a b 2 _ (by omega) (by rfl) (fun w => new_long w a b (by omega) (by omega) h2) (fun w => refNew_long w a b (by omega) (by omega) h2)
    · obtain ⟨R, rfl⟩ : ∃ r : Nat, a = r := ⟨a.toNat, by omega⟩
      obtain ⟨C, rfl⟩ : ∃ r : Nat, b = r := ⟨b.toNat, by omega⟩
      have e : (R : Int) * C = ((R * C : Nat) : Int) := by simp
      exact play_main W R C A len cap f0 f1 f2 hA (by omega) (by omega) (by omega)
theorem play_walk (W : World) (a b : Int) (A : Option Addr) (len cap : Nat) (f0 f1 f2 : Nat → Int) (wa : (Lit.int .i64 a).wf = true) (wb : (Lit.int .i64 b).wf = true) (hA : IsActs W A len f0 f1 f2) :
    Calls Try.prog 5 #[.int .i64 a, .int .i64 b, .slice A len cap] W fun e w' => e = .returned (.bool true) ∧ Below W.heap.size W w' := play_any W a b A len cap f0 f1 f2 hA
end Go.Proofs.Ytmoobdljmcephaa
