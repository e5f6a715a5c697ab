/- Package mem: New: a memory of regions, for every list of at most ten regions of at most 200 bytes each. -/
import Derived.Test.YtndpmjgalmnhdaaC
import Derived.Test.YtndpmjgalmnhdaaPMemPlaysx1
import Derived.Lib.BufferWrite
import Derived.Deep.RegionHeld3
import Derived.Deep.RegionHeldLaw
import Derived.Deep.RegionLaw
namespace Go.Proofs.Ytndpmjgalmnhdaa
open Go.RowKit PMemPlays Go.Proofs.YtndpmjgalmnhdaaW.PrintWords Go.Proofs.YtndpmjgalmnhdaaW.PrintLast Go.Proofs.YtndpmjgalmnhdaaW.PrintMore
set_option linter.unusedVariables false
set_option linter.unusedSimpArgs false

def bytesB (s : ByteArray) : List Int := s.data.toList.map fun b => (b.toNat : Int)
def pieceOf (r : S39) : S59 := ⟨r.f0, bytesB r.f1, r.f2⟩
theorem bytesB_len (s : ByteArray) : (bytesB s).length = s.size := by unfold bytesB; simp
def pcell (b : Nat) (p : S59) : List Value := [.int .u64 p.f0, .slice (some ⟨b, 0, none⟩) p.f1.length p.f1.length, .int .i64 p.f2]
def pcells : List Nat → List S59 → List Value
  | b :: bs, p :: ps => pcell b p ++ pcells bs ps
  | _, _ => []
theorem pcells_snoc : ∀ (bs : List Nat) (ps : List S59) (b : Nat) (p : S59), bs.length = ps.length → pcells (bs ++ [b]) (ps ++ [p]) = pcells bs ps ++ pcell b p
  | [], [], b, p, _ => by simp [pcells]
  | c :: bs, q :: ps, b, p, h => by
    simp only [List.cons_append, pcells, List.append_assoc]
    rw [pcells_snoc bs ps b p (by simpa using h)]
  | [], _ :: _, _, _, h => by simp at h
  | _ :: _, [], _, _, h => by simp at h

/-- A memory as it lies from block B on: its own block, its row of pieces, each piece's bytes. -/
structure IsMem (w : World) (B m : Nat) (wr : Int) (bs : List Nat) (ps : List S59) : Prop where
  st : ∃ A c, w.heap[m]? = some (.cells #[.slice A ps.length c, .int .u64 wr] 55 (0, 0)) ∧ w.ownsRow B 59 3 (.slice A ps.length c) ps.length (pcells bs ps)
  mB : B ≤ m
  len : bs.length = ps.length
  nd : bs.Nodup
  by_ : ∀ (i : Nat) (h : i < ps.length) (h' : i < bs.length), B ≤ bs[i] ∧ w.heap[bs[i]]? = some (.cells (ps[i].f1.map (Value.int .u8)).toArray 5 (0, 0))

def lastP : Int := 9223372036854775807
def badR (r : S39) : Prop := r.f1.size = 0 ∨ r.f2 < 0 ∨ 7 < r.f2 ∨ lastP < r.f0 ∨ lastP - r.f0 < r.f1.size - 1
instance (r : S39) : Decidable (badR r) := by unfold badR; infer_instance
/-- What New answers: the first region that is wrong, and how; e: where the one ahead ends. -/
def chk (e : Int) : List S39 → Int
  | [] => 0
  | r :: l => if badR r then 1 else if r.f0 < e then 4 else chk (r.f0 + r.f1.size) l
def endOf (l : List S39) : Int := match l.getLast? with
  | none => 0
  | some r => r.f0 + r.f1.size
/-- The first k are right, one behind the other. -/
def okR (e : Int) : List S39 → Prop
  | [] => True
  | r :: l => ¬ badR r ∧ e ≤ r.f0 ∧ okR (r.f0 + r.f1.size) l
theorem chk_ok : ∀ (l : List S39) (e : Int), okR e l ↔ chk e l = 0
  | [], e => by simp [okR, chk]
  | r :: l, e => by
    simp only [okR, chk]
    by_cases h : badR r
    · simp [h]
    · by_cases h2 : r.f0 < e
      · simp [h, h2]
        omega
      · simp [h, h2, chk_ok l]
        omega
theorem endOf_snoc (l : List S39) (r : S39) : endOf (l ++ [r]) = r.f0 + r.f1.size := by unfold endOf; simp
theorem chk_app : ∀ (l m : List S39) (e : Int), okR e l → chk e (l ++ m) = chk (if l = [] then e else endOf l) m
  | [], m, e, _ => by simp
  | r :: l, m, e, h => by
    obtain ⟨h1, h2, h3⟩ := h
    rw [List.cons_append, chk, if_neg h1, if_neg (by omega), chk_app l m _ h3]
    by_cases hl : l = []
    · subst hl; simp [endOf]
    · rw [if_neg hl, if_neg (by simp)]
      congr 1
      unfold endOf
      rw [List.getLast?_cons]
      cases hq : l.getLast? with
      | none => exact absurd (List.getLast?_eq_none_iff.1 hq) hl
      | some q => simp
def NewPost (l : List S39) (W : World) (e : Ending) (w' : World) : Prop :=
  Kp [] W w' ∧ ((chk 0 l = 0 ∧ ∃ m bs, e = .returned (.tuple #[.pointer (some ⟨m, 0, none⟩), .int .i64 0]) ∧ IsMem w' W.heap.size m 0 bs (l.map pieceOf)) ∨
    (chk 0 l ≠ 0 ∧ e = .returned (.tuple #[.pointer none, .int .i64 (chk 0 l)])))
theorem IsMem.kept {w w' : World} {B m wr bs ps} {S : List Nat} (h : IsMem w B m wr bs ps) (k : Kp S w w') (hS : ∀ x ∈ S, x < B) : IsMem w' B m wr bs ps := by
  have mv : ∀ x, B ≤ x → x < w.heap.size → w'.heap[x]? = w.heap[x]? := fun x hx hl => k.block x hl (fun hm => by have := hS x hm; omega)
  obtain ⟨A, c, h1, h2⟩ := h.st
  refine ⟨⟨A, c, (mv m h.mB (ltB h1)).trans h1, own_move h2 (fun k hk => mv k (own_base h2 k hk) (own_lt h2 k hk))⟩, h.mB, h.len, h.nd, fun i hi hi' => ?_⟩
  obtain ⟨h3, h4⟩ := h.by_ i hi hi'
  exact ⟨h3, (mv _ h3 (ltB h4)).trans h4⟩

theorem info5 : (Try.prog.info? 5).map (fun i => (i.zero, i.size, i.bytes)) = some (some (.int .u8 0), 1, 1) := by kernel_rfl
theorem info59 : (Try.prog.info? 59).map (fun i => (i.zero, i.size, i.bytes)) = some (some (.agg #[.int .u64 0, .slice none 0 0, .int .i64 0]), 3, 40) := by kernel_rfl
/-- Behind the making of a piece: the region's own copy, the bytes (zeros yet), the piece. -/
structure Laid (wr ws : World) (yb pb : Nat) (r : S39) : Prop where
  k : Kp [] wr ws
  y : ws.heap[yb]? = some (.cells (madeCells #[.int .u8 0] r.f1.size) 5 (0, 0))
  p : ws.heap[pb]? = some (.cells #[.int .u64 r.f0, .slice (some ⟨yb, 0, none⟩) r.f1.size r.f1.size, .int .i64 r.f2] 59 (0, 0))
  r : ws.heap[wr.heap.size]? = some (.cells #[.int .u64 r.f0, .string r.f1, .int .i64 r.f2] 39 (0, 0))
  yB : wr.heap.size ≤ yb
  pB : wr.heap.size ≤ pb
theorem gen_ {Q : Exit → Act → World → Prop} {e : Exit} {a : Act} {w : World} (C : World → Prop) (hC : C w) (h : ∀ w, C w → Q e a w) : Q e a w := h w hC
theorem laid1 (wr : World) (r : S39) : Laid wr (((wr.alloc (Obj.cells #[Value.int IntKind.u64 r.f0, Value.string r.f1, Value.int IntKind.i64 r.f2] 39)).alloc
            (Obj.cells (madeCells #[Value.int IntKind.u8 0] r.f1.size) 5)).alloc
        (Obj.cells #[Value.int IntKind.u64 r.f0, Value.slice (some { block := wr.heap.size + 1, off := 0 }) r.f1.size r.f1.size, Value.int IntKind.i64 r.f2] 59)).drew (wr.heap.size + 1) (wr.heap.size + 1 + 1) r := by
  have h := heap3 wr (Obj.cells #[Value.int IntKind.u64 r.f0, Value.string r.f1, Value.int IntKind.i64 r.f2] 39) (Obj.cells (madeCells #[Value.int IntKind.u8 0] r.f1.size) 5)
    (Obj.cells #[Value.int IntKind.u64 r.f0, Value.slice (some { block := wr.heap.size + 1, off := 0 }) r.f1.size r.f1.size, Value.int IntKind.i64 r.f2] 59)
  exact ⟨((((Kp.refl _ _).alloc _).alloc _).alloc _).drew, h.2.1, h.2.2, h.1, by omega, by omega⟩
theorem laid2 (wr : World) (r : S39) : Laid wr (((wr.alloc (Obj.cells #[Value.int IntKind.u64 r.f0, Value.string r.f1, Value.int IntKind.i64 r.f2] 39)).alloc
        (Obj.cells #[Value.int IntKind.u64 r.f0, Value.slice (some { block := wr.heap.size + 1 + 1, off := 0 }) r.f1.size r.f1.size, Value.int IntKind.i64 r.f2] 59)).alloc
            (Obj.cells (madeCells #[Value.int IntKind.u8 0] r.f1.size) 5)).drew (wr.heap.size + 1 + 1) (wr.heap.size + 1) r := by
  have h := heap3 wr (Obj.cells #[Value.int IntKind.u64 r.f0, Value.string r.f1, Value.int IntKind.i64 r.f2] 39)
    (Obj.cells #[Value.int IntKind.u64 r.f0, Value.slice (some { block := wr.heap.size + 1 + 1, off := 0 }) r.f1.size r.f1.size, Value.int IntKind.i64 r.f2] 59) (Obj.cells (madeCells #[Value.int IntKind.u8 0] r.f1.size) 5)
  exact ⟨((((Kp.refl _ _).alloc _).alloc _).alloc _).drew, h.2.2, h.2.1, h.1, by omega, by omega⟩
theorem genW {P : Program} {c : Code} {Q : Exit → Act → World → Prop} {a : Act} {w : World} (C : World → Prop) (hC : C w) (h : ∀ w, C w → Code.wp P c Q a w) : Code.wp P c Q a w := h w hC
/-- .. and behind the copy. -/
structure Laid2 (wr : World) (yb pb : Nat) (r : S39) (ws : World) : Prop where
  k : Kp [] wr ws
  y : ws.heap[yb]? = some (.cells ((bytesB r.f1).map (Value.int .u8)).toArray 5 (0, 0))
  p : ws.heap[pb]? = some (.cells #[.int .u64 r.f0, .slice (some ⟨yb, 0, none⟩) r.f1.size r.f1.size, .int .i64 r.f2] 59 (0, 0))
  yB : wr.heap.size ≤ yb
  pB : wr.heap.size ≤ pb
theorem Laid.copied {wr ws : World} {yb pb : Nat} {r : S39} (h : Laid wr ws yb pb r) (hne : yb ≠ pb) :
    Laid2 wr yb pb r (ws.setRow yb (Lib.byteCells r.f1.data.toList ++ List.drop r.f1.size (madeCells #[Value.int .u8 0] r.f1.size).toList).toArray) := by
  have e : (Lib.byteCells r.f1.data.toList ++ List.drop r.f1.size (madeCells #[Value.int .u8 0] r.f1.size).toList) = (bytesB r.f1).map (Value.int .u8) := by
    rw [madeOne, List.drop_eq_nil_of_le (by simp), List.append_nil]
    simp [Lib.byteCells, bytesB]
  rw [e]
  exact ⟨⟨h.k.os, h.k.tape, h.k.output, by simpa using h.k.size, fun k hk hn => (setRow_other _ _ _ _ (by have := h.yB; omega)).trans (h.k.block k hk hn)⟩, setRow_heap _ _ _ _ _ _ h.y, (setRow_other _ _ _ _ hne.symm).trans h.p, h.yB, h.pB⟩
theorem IsMem.push {wr w3 w' : World} {B m : Nat} {x : Int} {bs : List Nat} {ps : List S59} {yb : Nat} {r : S39} {A : Option Addr} {c g cap : Nat} (hm : IsMem wr B m x bs ps)
    (hst : wr.heap[m]? = some (.cells #[.slice A ps.length c, .int .u64 x] 55 (0, 0))) (ho : wr.ownsRow B 59 3 (.slice A ps.length c) ps.length (pcells bs ps)) (k : Kp [] wr w3)
    (hy : w3.heap[yb]? = some (.cells ((bytesB r.f1).map (Value.int .u8)).toArray 5 (0, 0))) (hyB : wr.heap.size ≤ yb)
    (hown : w'.ownsRow B 59 3 (.slice (some ⟨g, 0, none⟩) (ps.length + 1) cap) (ps.length + 1) (pcells bs ps ++ [.int .u64 r.f0, .slice (some ⟨yb, 0, none⟩) r.f1.size r.f1.size, .int .i64 r.f2])) (hgrow : w3.grownBy w' (Value.slice A ps.length c).ownBlock) :
    IsMem (w'.setCell ⟨m, 0, none⟩ (.slice (some ⟨g, 0, none⟩) (ps.length + 1) cap)) B m x (bs ++ [yb]) (ps ++ [pieceOf r]) := by
  rw [show [Value.int .u64 r.f0, .slice (some ⟨yb, 0, none⟩) r.f1.size r.f1.size, .int .i64 r.f2] = pcell yb (pieceOf r) from by simp [pcell, pieceOf, bytesB_len]] at hown
  have old : ∀ k, (Value.slice A ps.length c).ownBlock = some k → ∃ cells, wr.heap[k]? = some (.cells cells 59 (0, 0)) := own_typed ho
  have mv : ∀ (b : Nat) (o : Obj), w3.heap[b]? = some o → (∀ cells, o ≠ .cells cells 59 (0, 0)) → w'.heap[b]? = some o := by
    intro b o hb hne
    refine (hgrow.block b (ltB hb) (fun e => ?_)).trans hb
    obtain ⟨cells, hc⟩ := old b e.symm
    have := (k.block b (ltB hc) (by simp)).trans hc
    rw [hb] at this
    injection this with this
    exact hne _ this
  have mvr : ∀ (b : Nat) (o : Obj), wr.heap[b]? = some o → w3.heap[b]? = some o := fun b o hb => (k.block b (ltB hb) (by simp)).trans hb
  have hm' : w'.heap[m]? = some (.cells #[.slice A ps.length c, .int .u64 x] 55 (0, 0)) := mv m _ (mvr m _ hst) (fun cells e => by injection e with _ e; exact absurd e (by decide))
  obtain ⟨cg, hg⟩ := own_typed hown g rfl
  have hgm : g ≠ m := by
    rintro rfl
    rw [hm'] at hg
    injection hg with hg
    injection hg with _ hg
    exact absurd hg (by decide)
  have byt : ∀ (b : Nat) (bytes : Array Value), w'.heap[b]? = some (.cells bytes 5 (0, 0)) → (w'.setCell ⟨m, 0, none⟩ (.slice (some ⟨g, 0, none⟩) (ps.length + 1) cap)).heap[b]? = some (.cells bytes 5 (0, 0)) := by
    intro b bytes hb
    refine (Below.heap_setCell _ _ _ _ ?_).trans hb
    rintro rfl
    have := hm'.symm.trans hb
    injection this with this
    injection this with _ this
    exact absurd this (by decide)
  have hn5 : ∀ (bytes cells : Array Value), (Obj.cells bytes 5 (0, 0)) ≠ .cells cells 59 (0, 0) := fun _ _ e => by injection e with _ e; exact absurd e (by decide)
  refine ⟨⟨some ⟨g, 0, none⟩, cap, ?_, ?_⟩, hm.mB, by simp [hm.len], ?_, ?_⟩
  · have := setB hm' 0 (.slice (some ⟨g, 0, none⟩) (ps.length + 1) cap)
    simpa using this
  · rw [pcells_snoc _ _ _ _ hm.len, List.length_append, List.length_singleton]
    exact own_move hown (fun k hk => Below.heap_setCell _ _ _ _ (by simp [Value.ownBlock] at hk; subst hk; exact hgm))
  · refine List.nodup_append.2 ⟨hm.nd, by simp, ?_⟩
    intro a ha b hb e
    simp at hb
    subst hb
    subst e
    obtain ⟨j, hj, rfl⟩ := List.getElem_of_mem ha
    have := (hm.by_ j (by have := hm.len; omega) hj).2
    have := ltB this
    omega
  · intro i hi hi'
    by_cases hlt : i < ps.length
    · have hlt' : i < bs.length := by have := hm.len; omega
      rw [List.getElem_append_left hlt', List.getElem_append_left hlt]
      obtain ⟨h1, h2⟩ := hm.by_ i hlt hlt'
      exact ⟨h1, byt _ _ (mv _ _ (mvr _ _ h2) (hn5 _))⟩
    · have e1 : i = ps.length := by simp at hi; omega
      have e2 : i = bs.length := by have := hm.len; omega
      rw [List.getElem_append_right (by omega), List.getElem_append_right (by omega)]
      simp only [show i - ps.length = 0 by omega, show i - bs.length = 0 by omega, List.getElem_singleton]
      have hB := hm.mB
      have := ltB hst
      exact ⟨by omega, byt _ _ (mv _ _ hy (hn5 _))⟩
theorem own_at {wr ws : World} {B : Nat} {v : Value} {n : Nat} {xs : List Value} (h : wr.ownsRow B 59 3 v n xs) (k : Kp [] wr ws) (o : Obj) : ((ws.alloc o).drew).ownsRow B 59 3 v n xs :=
  own_move h (fun j hj => ((k.alloc o).drew).block j (own_lt h j hj) (by simp))
theorem news_at (ws : World) (a b c : Value) : ∀ j u, [a, b, c][j]? = some u → ((ws.alloc (.cells #[a, b, c] 59)).drew).cell? ((⟨ws.heap.size, 0, none⟩ : Addr).add j) = some u :=
  World.news_of_block (w := (ws.alloc (.cells #[a, b, c] 59)).drew) (cs := #[a, b, c]) (t := 59) (fr := (0, 0)) (heap_alloc_new ws _)
theorem one3 (a b : Int) (x : Nat) (n c : Nat) : ∀ u ∈ [Value.int .u64 a, .slice (some ⟨x, 0, none⟩) n c, .int .i64 b], u.oneCell' = true := by
  intro u hu
  simp only [List.mem_cons, List.not_mem_nil, or_false] at hu
  rcases hu with rfl | rfl | rfl <;> rfl
theorem push_m {wr ws w4 : World} {B m n c : Nat} {x : Int} {A : Option Addr} {xs : List Value} (hst : wr.heap[m]? = some (.cells #[.slice A n c, .int .u64 x] 55 (0, 0))) (ho : wr.ownsRow B 59 3 (.slice A n c) n xs) (k : Kp [] wr ws) (o : Obj)
    (hgrow : ((ws.alloc o).drew).grownBy w4 (Value.slice A n c).ownBlock) : w4.heap[m]? = some (.cells #[.slice A n c, .int .u64 x] 55 (0, 0)) := by
  have h3 := (((k.alloc o).drew).block m (ltB hst) (by simp)).trans hst
  refine (hgrow.block m (ltB h3) (fun e => ?_)).trans h3
  obtain ⟨cells, hc⟩ := own_typed ho m e.symm
  have := hst.symm.trans hc
  injection this with this
  injection this with _ this
  exact absurd this (by decide)
theorem okR_snoc : ∀ (l : List S39) (e : Int) (r : S39), okR e l → ¬ badR r → (if l = [] then e else endOf l) ≤ r.f0 → okR e (l ++ [r])
  | [], e, r, _, h1, h2 => ⟨h1, by simpa using h2, trivial⟩
  | q :: l, e, r, h, h1, h2 => by
    obtain ⟨h3, h4, h5⟩ := h
    refine ⟨h3, h4, okR_snoc l _ r h5 h1 ?_⟩
    by_cases hl : l = []
    · subst hl; simpa [endOf] using h2
    · rw [if_neg hl]
      rw [if_neg (by simp)] at h2
      unfold endOf at h2 ⊢
      rw [List.getLast?_cons] at h2
      cases hq : l.getLast? with
      | none => exact absurd (List.getLast?_eq_none_iff.1 hq) hl
      | some q => rw [hq] at h2; simpa using h2
theorem push_k {W ws w4 : World} {o : Obj} {row : Option Nat} (hk : Kp [] W ws) (hgrow : ((ws.alloc o).drew).grownBy w4 row) (hr : ∀ j, row = some j → W.heap.size ≤ j) (u : Value) : Kp [] W (w4.setCell ⟨W.heap.size, 0, none⟩ u) :=
  (((hk.alloc o).drew).grown hgrow (fun j hj => .inr (hr j hj))).setNew (Nat.le_refl _) u
theorem bad_at {l : List S39} {k : Nat} {r : S39} (hlt : k < l.length) (hr : l[k] = r) (hok : okR 0 (l.take k)) (hb : badR r) : chk 0 l = 1 := by
  have h := chk_app (l.take k) (l.drop k) 0 hok
  rw [List.take_append_drop, List.drop_eq_getElem_cons hlt, hr, chk, if_pos hb] at h
  exact h
theorem low_at {l : List S39} {k : Nat} {r : S39} (hlt : k < l.length) (hr : l[k] = r) (hok : okR 0 (l.take k)) (hb : ¬ badR r) (h0 : 0 ≤ r.f0) (he : r.f0 < endOf (l.take k)) : chk 0 l = 4 := by
  have h := chk_app (l.take k) (l.drop k) 0 hok
  have hne : l.take k ≠ [] := by
    intro h1
    rw [h1] at he
    simp [endOf] at he
    omega
  rw [List.take_append_drop, List.drop_eq_getElem_cons hlt, hr, chk, if_neg hb, if_neg hne, if_pos he] at h
  exact h
theorem isMem_new (W : World) : IsMem (W.alloc (.cells #[.slice none 0 0, .int .u64 0] 55)) W.heap.size W.heap.size 0 [] [] :=
  ⟨⟨none, 0, heap_alloc_new W _, ⟨rfl, .inl ⟨rfl, rfl⟩⟩⟩, Nat.le_refl _, rfl, List.nodup_nil, fun i h => absurd h (by simp)⟩
theorem new_bad {l : List S39} {W w : World} (h : chk 0 l = 1) (k : Kp [] W w) : NewPost l W (.returned (.tuple #[.pointer none, .int .i64 1])) w := ⟨k, .inr ⟨by omega, by rw [h]⟩⟩
theorem new_low {l : List S39} {W w : World} (h : chk 0 l = 4) (k : Kp [] W w) : NewPost l W (.returned (.tuple #[.pointer none, .int .i64 4])) w := ⟨k, .inr ⟨by omega, by rw [h]⟩⟩
theorem u64_wf {x : Int} (h : (Lit.int .u64 x).wf = true) : 0 ≤ x ∧ x < 18446744073709551616 := by
  simp [Lit.wf] at h
  have a : IntKind.u64.min = 0 := rfl
  have b : IntKind.u64.max = 18446744073709551615 := rfl
  omega
theorem within_any (a b c : Int) (w : World) (r : Bool) (h : r = decide (b ≤ a ∧ a ≤ c)) :
    Calls Try.prog 19 #[.int .i64 a, .int .i64 b, .int .i64 c] w fun e w' => e = .returned (.bool r) ∧ w = w' := by
  by_cases h1 : b ≤ a
  · by_cases h2 : a ≤ c
    · have hr : r = true := by rw [h]; exact decide_eq_true ⟨h1, h2⟩
      subst hr
      clear h
      go_enter Try.func19, Try.ntmps19
      go_wp2
      go_ret
      exact ⟨rfl, rfl⟩
    · have hr : r = false := by rw [h]; exact decide_eq_false (fun q => h2 q.2)
      subst hr
      clear h
      have h3 : decide (a ≤ c) = false := decide_eq_false h2
      go_enter Try.func19, Try.ntmps19
      go_wp2
      go_ret
      exact ⟨rfl, rfl⟩
  · have hr : r = false := by rw [h]; exact decide_eq_false (fun q => h1 q.1)
    subst hr
    clear h
    have h3 : decide (b ≤ a) = false := decide_eq_false h1
    go_enter Try.func19, Try.ntmps19
    go_wp2
    go_ret
    exact ⟨rfl, rfl⟩

set_option maxRecDepth 100000 in
set_option maxHeartbeats 1600000 in
theorem new_any (W : World) (A : Option Addr) (cap : Nat) (l : List S39) (hA : IsRegs W A cap l) (hl : l.length ≤ 10) (hs : ∀ r ∈ l, r.f1.size ≤ 200) :
    Calls Try.prog 8 #[.slice A l.length cap] W (NewPost l W) := by
  obtain ⟨i59, i59a, i59b, i59c, i59d⟩ := info_parts info59
  go_enter Try.func8, Try.ntmps8
  go_wp2_with fail
  go_loopw [5, 14] (fun e i wr => ∃ (k : Nat) (bs : List Nat) (ps : List S59), k ≤ l.length ∧ e = .int .u64 (endOf (l.take k)) ∧ i = .int .i64 k ∧ Kp [] W wr ∧ okR 0 (l.take k) ∧ Hid (ps = (l.take k).map pieceOf) ∧ IsMem wr W.heap.size W.heap.size 0 bs ps) (fun _ i _ => l.length - (intOf i).toNat)
  case atStart => exact ⟨0, [], [], by omega, rfl, rfl, (Kp.refl _ _).alloc _, trivial, (rfl : ([] : List S59) = (l.take 0).map pieceOf), isMem_new W⟩
  case round =>
    obtain ⟨k, bs, ps, hk1, rfl, rfl, hk, hok, hps, hm⟩ := hrel
    have hpl : Hid (ps.length = k) := (by rw [hps.out, List.length_map, List.length_take]; omega : ps.length = k)
    have hpl1 : ps.length ≤ 10 := by have := hpl.out; omega
    by_cases hlt : k < l.length
    · obtain ⟨b, off, rfl, hb, c0, c1, c2⟩ := (hA.kept hk).at_ k hlt
      have hsz := hs l[k] (List.getElem_mem _)
      have hwf := hA.2.2.2 l[k] (List.getElem_mem _)
      have HC := Lib.hid (chk_app (l.take k) (l.drop k) 0 hok)
      generalize hr : l[k] = r at c0 c1 c2 hsz hwf
      have HR := Lib.hid hr
      clear hr
      have hw0 : 0 ≤ r.f0 := by exact (u64_wf hwf.1).1
      by_cases hn : r.f1.size = 0
      · have hb1 := Lib.hid (bad_at hlt HR.out hok (.inl hn))
        have hne : ((r.f1.size : Int) == 0) = true := by rw [hn]; rfl
        clear hn
        go_wp2
        go_ret2
        exact new_bad hb1.out (hk.alloc _)
      have hn0 : 0 < r.f1.size := by omega
      have hne : ((r.f1.size : Int) == 0) = false := by simpa using hn
      by_cases hri : 0 ≤ r.f2 ∧ r.f2 ≤ 7
      case neg =>
        have hb1 := Lib.hid (bad_at hlt HR.out hok (by unfold badR; omega))
        have hW := fun w => within_any r.f2 0 7 w false (decide_eq_false hri).symm
        have HW := Lib.hid hW
        clear hW
        go_wp2_with fail
        refine (HW.out _).mono ?_
        rintro e w' ⟨rfl, rfl⟩
        go_wp2
        go_ret2
        exact new_bad hb1.out (hk.alloc _)
      have hW := fun w => within_any r.f2 0 7 w true (decide_eq_true hri).symm
      by_cases hla : r.f0 ≤ 9223372036854775807
      case neg =>
        have hb1 := Lib.hid (bad_at hlt HR.out hok (by unfold badR lastP; omega))
        have HW := Lib.hid hW
        clear hW
        go_wp2_with fail
        refine (HW.out _).mono ?_
        rintro e w' ⟨rfl, rfl⟩
        go_wp2
        go_ret2
        exact new_bad hb1.out (hk.alloc _)
      by_cases hro : (r.f1.size : Int) - 1 ≤ 9223372036854775807 - r.f0
      case neg =>
        have hb1 := Lib.hid (bad_at hlt HR.out hok (by unfold badR lastP; omega))
        have HW := Lib.hid hW
        clear hW
        go_wp2_with fail
        refine (HW.out _).mono ?_
        rintro e w' ⟨rfl, rfl⟩
        go_wp2
        go_ret2
        exact new_bad hb1.out (hk.alloc _)
      have HW := Lib.hid hW
      clear hW
      by_cases hen : r.f0 < endOf (l.take k)
      · have hb1 := Lib.hid (low_at hlt HR.out hok (by unfold badR lastP; omega) hw0 hen)
        go_wp2_with fail
        refine (HW.out _).mono ?_
        rintro e w' ⟨rfl, rfl⟩
        go_wp2
        go_ret2
        exact new_low hb1.out (hk.alloc _)
      · have HE : Hid (endOf (l.take (k + 1)) = r.f0 + r.f1.size) := (by rw [List.take_succ_eq_append_getElem hlt, HR.out, endOf_snoc] : endOf (l.take (k + 1)) = r.f0 + r.f1.size)
        have HO : Hid (okR 0 (l.take (k + 1))) := (by
          rw [List.take_succ_eq_append_getElem hlt, HR.out]
          refine okR_snoc _ _ _ hok (by unfold badR lastP; omega) ?_
          split
          · omega
          · omega : okR 0 (l.take (k + 1)))
        have HP : Hid (ps ++ [pieceOf r] = (l.take (k + 1)).map pieceOf) := (by rw [List.take_succ_eq_append_getElem hlt, HR.out, List.map_append, hps.out]; rfl : ps ++ [pieceOf r] = (l.take (k + 1)).map pieceOf)
        go_wp2_with fail
        refine (HW.out _).mono ?_
        rintro e w' ⟨rfl, rfl⟩
        go_wp2_with fail
        have HM := fun (w : World) => run_make_row' (P := Try.prog) 57 5 (.int .u8 0) 1 Try.underlying57 info5 rfl .i64 .i64 r.f1.size (by omega) (by omega) w
        have u57 := Try.underlying57
        go_region
        all_goals
          first
            | refine gen_ (fun ws => Laid wr ws (wr.heap.size + 1) (wr.heap.size + 1 + 1) r) (laid1 wr r) ?_
            | refine gen_ (fun ws => Laid wr ws (wr.heap.size + 1 + 1) (wr.heap.size + 1) r) (laid2 wr r) ?_
          intro ws hL
          clear HM
          have p0 := cellB hL.p 0
          have p1 := cellB hL.p 1
          have p2 := cellB hL.p 2
          have q1 := cellB hL.r 1
          simp at p0 p1 p2 q1
          have HCp := Lib.run_copy_row_string (P := Try.prog) ws 57 9 3 5 _ 0 r.f1.size r.f1.size r.f1 _ 5 Try.underlying57 (by kernel_rfl) hL.y (Nat.le_refl _) (by rw [madeOne]; simp)
          go_wp2_with fail
          refine genW (Laid2 wr _ _ r) (hL.copied (by omega)) ?_
          clear p0 p1 p2 q1 HCp
          have hyB := hL.yB
          have hpB := hL.pB
          clear hL
          intro ws2 hL
          obtain ⟨mA, mc, hst, ho⟩ := hm.st
          have hst2 := (hL.k.block _ (ltB hst) (by simp)).trans hst
          have p0 := cellB hL.p 0
          have p1 := cellB hL.p 1
          have p2 := cellB hL.p 2
          have m0 := cellB hst2 0
          simp at p0 p1 p2 m0
          have hmlt := ltB hst2
          go_region_law (refine step_append_lies _ rfl (.tmp 71) (.tmp 73) 53 rfl W.heap.size 59 i59 (.agg #[.int .u64 0, .slice none 0 0, .int .i64 0]) 3 40 Try.underlying53 i59a i59b i59c i59d rfl (by decide) (.slice mA ps.length mc) ps.length (pcells bs ps) (by simp [Act.eval, Act.put]) (own_at ho hL.k _) ⟨ws2.heap.size, 0, none⟩ 1 1 [.int .u64 r.f0, .slice (some ⟨_, 0, none⟩) r.f1.size r.f1.size, .int .i64 r.f2] (by simp [Act.eval, Act.put]) rfl (news_at ws2 _ _ _) (one3 _ _ _ _ _) (by decide) (by unfold maxLen; omega) (by omega) (by have := hk.size; have := hL.k.size; simp; omega) (ws2.heap.size + 1) (by simp) ?_; intro g cap w4 hown hgrow hat hlt4; have hm4 := push_m hst ho hL.k _ hgrow; have x0 := cellB hm4 0; have x1 := frozB hm4 0; simp at x0)
        all_goals
          have KW := push_k (hk.into hL.k (by simp)) hgrow (fun j hj => own_base ho j hj) (.slice (some ⟨g, 0, none⟩) (ps.length + 1) cap)
          have IM := IsMem.push hm hst ho ((hL.k.alloc _).drew) (((((Kp.refl [] ws2).alloc _).drew).block _ (ltB hL.y) (by simp)).trans hL.y) hyB hown hgrow
          go_wp2
          go_roundw
          case rel => exact ⟨k + 1, _, _, by omega, by rw [HE.out], by go_num, KW, HO.out, HP, IM⟩
          case measure => simp [intOf]; omega
    · have e : k = l.length := by omega
      subst e
      rw [List.take_length] at hok
      have hc := Lib.hid ((chk_ok l 0).1 hok)
      have hp : Hid (ps = l.map pieceOf) := (by rw [hps.out, List.take_length] : ps = l.map pieceOf)
      have hd : decide ((l.length : Int) < l.length) = false := by simp
      clear hps hpl hok
      go_wp2
      go_ret2
      exact ⟨hk, .inl ⟨hc.out, _, bs, rfl, hp.out ▸ hm⟩⟩
end Go.Proofs.Ytndpmjgalmnhdaa
