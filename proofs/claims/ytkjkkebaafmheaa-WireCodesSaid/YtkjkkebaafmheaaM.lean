/- Package wire: the walk of Decode. -/
import Derived.Test.YtkjkkebaafmheaaK
import Derived.Test.YtkjkkebaafmheaaPWireCodesx6
import Derived.ScopeJumps
namespace Go.Proofs.Ytkjkkebaafmheaa
open Go.RowKit PWireCodes Go.Proofs.YtkjkkebaafmheaaW.PrintWords Go.Proofs.YtkjkkebaafmheaaW.PrintLast Go.Proofs.YtkjkkebaafmheaaW.PrintMore
open Go.Shelf
set_option linter.unusedVariables false
set_option linter.unusedSimpArgs false
def hdB (s : List UInt8) : Bool := decide (4 ≤ s.length) && (decide (s.take 3 = [66, 82, 49]) && decide (xorL s = 0))
theorem prefix_calls (s : List UInt8) (w : World) : Calls Try.prog 27 #[.string ⟨s.toArray⟩, .string ⟨#[66, 82, 49]⟩] w fun e w' => e = .returned (.bool (decide (3 ≤ s.length) && decide (s.take 3 = [66, 82, 49]))) ∧ Drawn0 w w' := by
  refine strings_HasPrefix.calls _ _ _ w ?_
  unfold strings_HasPrefix.f stringslite_HasPrefix.f
  by_cases h : 3 ≤ s.length
  · rw [if_pos (by simp [ByteArray.size]; omega), if_pos (by simp [ByteArray.size]), if_pos (by simp [ByteArray.size]; omega)]
    simp only [Option.bind_some, decide_eq_true h, Bool.true_and]
    refine congrArg some ?_
    have e1 : ((⟨s.toArray⟩ : ByteArray).extract 0 (((⟨#[66, 82, 49]⟩ : ByteArray).size : Int)).toNat).toList = s.take 3 := by
      rw [ByteArray.toList_eq]
      simp [ByteArray.size]
    rw [e1]
    have e2 : (⟨#[66, 82, 49]⟩ : ByteArray).toList = [66, 82, 49] := by rw [ByteArray.toList_eq]
    first
      | (rw [e2]; rfl)
      | (rw [e2]; by_cases q : s.take 3 = [66, 82, 49] <;> simp [q])
      | (by_cases q : s.take 3 = [66, 82, 49] <;> simp [q])
  · rw [if_neg (by simp [ByteArray.size]; omega)]
    simp only [Option.bind_some, decide_eq_false h, Bool.false_and]
theorem heap3' (w : World) (a b c : Obj) : (((w.alloc a).alloc b).alloc c).heap[w.heap.size]? = some a := (heap3 w a b c).1
theorem wp_scope_at {P : Program} {a : Act} {w : World} {Q : Exit → Act → World → Prop} {c rest : Code} (l : Nat) (A : Act) (J : World → Prop) (hf : findLabel c l = some rest)
    (first : c.wp P (Exit.jump l (fun a' w' => a' = A ∧ J w') Q) a w) (pass : ∀ w', J w' → rest.wp P (Exit.jump l (fun a' w' => (a' = A ∧ J w') ∧ 0 < 0) Q) A w') : (Code.scope c).wp P Q a w :=
  wp_scope_jumps l (fun a' w' => a' = A ∧ J w') (fun _ _ => 0) hf first (fun a' w' h => by obtain ⟨rfl, h⟩ := h; exact pass w' h)
theorem setB3 {w : World} {b : Nat} {t : TypeId} {fz : Nat × Nat} {x y z u v r : Value} (h : w.heap[b]? = some (.cells #[x, y, z] t fz)) : (((w.setCell ⟨b, 0, none⟩ u).setCell ⟨b, 1, none⟩ v).setCell ⟨b, 2, none⟩ r).heap[b]? = some (.cells #[u, v, r] t fz) := by
  rw [setB (setB (setB h 0 u) 1 v) 2 r]; rfl
theorem hdB_cases (s : List UInt8) (h : hdB s = false) : s.length < 4 ∨ (4 ≤ s.length ∧ s.take 3 ≠ [66, 82, 49]) ∨ (4 ≤ s.length ∧ s.take 3 = [66, 82, 49] ∧ xorL s ≠ 0) := by
  unfold hdB at h
  by_cases h1 : 4 ≤ s.length
  · by_cases h2 : s.take 3 = [66, 82, 49]
    · by_cases h3 : xorL s = 0
      · simp [h1, h2, h3] at h
      · exact Or.inr (Or.inr ⟨h1, h2, h3⟩)
    · exact Or.inr (Or.inl ⟨h1, h2⟩)
  · exact Or.inl (by omega)

theorem numP_lt : ∀ (f : Nat) (s : List UInt8) (bad : Bool) (n sh : Nat), n ≤ 16384 → sh ≤ 14 → (numP f s bad n sh).1 < 2097152 + 16384
  | 0, _, _, _, _, _, _ => by simp [numP]
  | f + 1, s, bad, n, sh, hn, hsh => by
    rw [numP]
    have h1 : (oneP s bad).1 % 128 < 128 := Nat.mod_lt _ (by decide)
    have h2 : 2 ^ sh ≤ 2 ^ 14 := Nat.pow_le_pow_right (by decide) hsh
    have h3 : (oneP s bad).1 % 128 * 2 ^ sh ≤ 127 * 2 ^ 14 := Nat.mul_le_mul (by omega) h2
    split
    · show n + _ < _; omega
    split
    · show 0 < _; omega
    · rename_i h4
      exact numP_lt f _ _ _ _ (by omega) (by omega)
/-- The memory of Decode behind the head: the result's slot, the program, the reader. -/
structure DS (w W : World) (s : List UInt8) (bad : Bool) (l : List S40) (u : Value) (a b : Int) : Prop where
  res : W.heap[w.heap.size]? = some (.cells #[.slice none 0 0, .int .i64 0, .int .i64 0] 24 (0, 0))
  prg : W.heap[w.heap.size + 1]? = some (.cells #[u, .int .i64 a, .int .i64 b] 24 (0, 0))
  rd : IsS58 w W (w.heap.size + 2) ⟨s.toArray⟩ bad
  row : Kd.R k40 40 W w.heap.size (fun _ => True) u l
  bel : Below w.heap.size w W
theorem blk_far {W : World} {b : Nat} {o : Obj} (h : W.heap[b]? = some o) {p : Addr} (hp : p.block ≠ b) (v : Value) : (W.setCell p v).heap[b]? = some o := (Below.heap_setCell _ _ _ _ (fun e => hp e.symm)).trans h
theorem DS.kp {w W W' : World} {s bad l u a b} (h : DS w W s bad l u a b) (k : Kp [] W W') : DS w W' s bad l u a b := by
  have hb : Below W.heap.size W W' := k.below (Nat.le_refl _) (by simp)
  exact ⟨kblk k h.res, kblk k h.prg, ⟨kblk k h.rd.1, h.rd.2⟩, Kd.R_below h.row hb, h.bel.trans (hb.mono h.bel.size)⟩
theorem DS.call {w W W' : World} {s bad l u a b s' bad'} (h : DS w W s bad l u a b) (i : IsS58 w W' (w.heap.size + 2) ⟨s'.toArray⟩ bad') (hb : Below w.heap.size w W') (k : KeepBut W W' (w.heap.size + 2) none) : DS w W' s' bad' l u a b := by
  refine ⟨(k.2 _ (ltB h.res) (by omega) (by simp)).trans h.res, (k.2 _ (ltB h.prg) (by omega) (by simp)).trans h.prg, i, ?_, hb⟩
  exact Kd.R_mono (Kd.R_keep (Kd.R_types h.row h.rd.1 (by intro q hq; simp [k40, Kd.iso, Kd.pair, Kd.int, Kd.scalar] at hq; omega)) k (fun _ hk => hk.2)) (fun _ _ => trivial)
theorem DS.setPrg {w W : World} {s bad l u a b} (h : DS w W s bad l u a b) (j : Nat) (v : Value) {u' : Value} {a' b' : Int} (he : (#[u, .int .i64 a, .int .i64 b] : Array Value).setIfInBounds j v = #[u', .int .i64 a', .int .i64 b'])
    (hu : u' = u) : DS w (W.setCell ⟨w.heap.size + 1, j, none⟩ v) s bad l u' a' b' := by
  subst hu
  refine ⟨blk_far h.res (by simp) v, (setB h.prg j v).trans (by rw [he]), ⟨blk_far h.rd.1 (by simp) v, h.rd.2⟩, ?_, h.bel.setCell (by simp) _⟩
  exact Kd.R_set h.row h.prg (by intro q hq; simp [k40, Kd.iso, Kd.pair, Kd.int, Kd.scalar] at hq; omega) j v
theorem mid_size (s : List UInt8) (h : 4 ≤ s.length) : (⟨s.toArray⟩ : ByteArray).extract 3 (s.length - 1) = ⟨((s.drop 3).dropLast).toArray⟩ := by
  apply ByteArray.ext
  simp [List.dropLast_eq_take, List.drop_take]
  omega
theorem DS.start (w : World) (n : Nat) (x : ByteArray) (m : List UInt8) (hx : x = ⟨m.toArray⟩) :
    DS w (((((w.alloc (.cells #[.slice none 0 0, .int .i64 0, .int .i64 0] 24)).alloc (.cells #[.slice none 0 0, .int .i64 0, .int .i64 0] 24)).alloc (.cells #[.string ⟨#[]⟩, .bool false] 58)).drewN n).setCell ⟨w.heap.size + 1 + 1, 0, none⟩ (.string x)) m false [] (.slice none 0 0) 0 0 := by
  subst hx
  obtain ⟨h1, h2, h3⟩ := heap3 w (.cells #[.slice none 0 0, .int .i64 0, .int .i64 0] 24) (.cells #[.slice none 0 0, .int .i64 0, .int .i64 0] 24) (.cells #[.string ⟨#[]⟩, .bool false] 58)
  refine ⟨blk_far h1 (by show w.heap.size + 1 + 1 ≠ _; omega) _, blk_far h2 (by show w.heap.size + 1 + 1 ≠ _; omega) _, ⟨(setB h3 0 _).trans rfl, by omega⟩, Kd.R_nil _ _ _ _ _, ?_⟩
  exact (((((Kp.refl [] w).alloc _).alloc _).alloc _).drewN n).below (Nat.le_refl _) (by simp) |>.setCell (by show w.heap.size ≤ w.heap.size + 1 + 1; omega) _
theorem ds_num {w W : World} {s s' : List UInt8} {bad bad' : Bool} {l : List S40} {u : Value} {a b : Int} {n : Nat} (h : DS w W s bad l u a b) (hn : numP 3 s bad 0 0 = (n, s', bad')) :
    Calls Try.prog 26 #[.pointer (some ⟨w.heap.size + 1 + 1, 0, none⟩)] W fun e W' => e = .returned (.int .i64 (n : Int)) ∧ DS w W' s' bad' l u a b := by
  have := number26 (w.heap.size + 1 + 1) s bad w W h.rd h.bel
  rw [hn] at this
  refine this.mono ?_
  rintro e W' ⟨rfl, h1, h2, h3⟩
  exact ⟨rfl, h.call h1 h2 h3⟩
theorem ds_one {w W : World} {s s' : List UInt8} {bad bad' : Bool} {l : List S40} {u : Value} {a b : Int} {n : Nat} (h : DS w W s bad l u a b) (hn : oneP s bad = (n, s', bad')) :
    Calls Try.prog 28 #[.pointer (some ⟨w.heap.size + 1 + 1, 0, none⟩)] W fun e W' => e = .returned (.int .i64 (n : Int)) ∧ DS w W' s' bad' l u a b := by
  have := one_calls (w.heap.size + 1 + 1) s bad w W h.rd h.bel
  rw [hn] at this
  refine this.mono ?_
  rintro e W' ⟨rfl, h1, h2, h3⟩
  exact ⟨rfl, h.call h1 h2 h3⟩
/-- With the instruction's own block. -/
structure DX (w W : World) (s : List UInt8) (bad : Bool) (l : List S40) (u : Value) (a b : Int) (x : Nat) (y : S40) : Prop where
  res : W.heap[w.heap.size]? = some (.cells #[.slice none 0 0, .int .i64 0, .int .i64 0] 24 (0, 0))
  prg : W.heap[w.heap.size + 1]? = some (.cells #[u, .int .i64 a, .int .i64 b] 24 (0, 0))
  rd : IsS58 w W (w.heap.size + 2) ⟨s.toArray⟩ bad
  row : Kd.R k40 40 W w.heap.size (fun k => k ≠ x) u l
  bel : Below w.heap.size w W
  own : W.heap[x]? = some (.cells (encI y).toArray 40 (0, 0))
  far : w.heap.size + 2 < x
theorem DX.new {w W : World} {s bad l u a b} (h : DS w W s bad l u a b) (y : S40) : DX w (W.alloc (.cells #[.int .i64 y.f0, .int .i64 y.f1, .int .i64 y.f2, .int .i64 y.f3, .int .i64 y.f4] 40)) s bad l u a b W.heap.size y := by
  have k := (Kp.refl [] W).alloc (.cells #[.int .i64 y.f0, .int .i64 y.f1, .int .i64 y.f2, .int .i64 y.f3, .int .i64 y.f4] 40)
  have h2 := h.kp k
  have hlt := ltB h.rd.1
  refine ⟨h2.res, h2.prg, h2.rd, ?_, h2.bel, heap_alloc_new W _, hlt⟩
  exact Kd.R_below (Kd.R_mono (Kd.R_bound h.row) (fun j hj => by have := hj.2.2.1; show j ≠ _; omega)) (k.below (Nat.le_refl _) (by simp))
theorem DX.kp {w W W' : World} {s bad l u a b x y} (h : DX w W s bad l u a b x y) (k : Kp [] W W') : DX w W' s bad l u a b x y :=
  ⟨kblk k h.res, kblk k h.prg, ⟨kblk k h.rd.1, h.rd.2⟩, Kd.R_below h.row (k.below (Nat.le_refl _) (by simp)), h.bel.trans ((k.below (Nat.le_refl _) (by simp)).mono h.bel.size), kblk k h.own, h.far⟩
theorem DX.call {w W W' : World} {s bad l u a b s' bad' x y} (h : DX w W s bad l u a b x y) (i : IsS58 w W' (w.heap.size + 2) ⟨s'.toArray⟩ bad') (hb : Below w.heap.size w W') (k : KeepBut W W' (w.heap.size + 2) none) : DX w W' s' bad' l u a b x y := by
  refine ⟨(k.2 _ (ltB h.res) (by omega) (by simp)).trans h.res, (k.2 _ (ltB h.prg) (by omega) (by simp)).trans h.prg, i, ?_, hb, (k.2 _ (ltB h.own) (by have := h.far; omega) (by simp)).trans h.own, h.far⟩
  exact Kd.R_mono (Kd.R_keep (Kd.R_types h.row h.rd.1 (by intro q hq; simp [k40, Kd.iso, Kd.pair, Kd.int, Kd.scalar] at hq; omega)) k (fun _ hk => hk.2)) (fun _ hk => hk.1)
theorem DX.set {w W : World} {s bad l u a b x y} (h : DX w W s bad l u a b x y) (j : Nat) (v : Value) (y' : S40) (he : (encI y).toArray.setIfInBounds j v = (encI y').toArray) : DX w (W.setCell ⟨x, j, none⟩ v) s bad l u a b x y' := by
  have hf := h.far
  exact ⟨blk_far h.res (by show x ≠ _; omega) v, blk_far h.prg (by show x ≠ _; omega) v, ⟨blk_far h.rd.1 (by show x ≠ _; omega) v, h.rd.2⟩, Kd.R_far (p := ⟨x, j, none⟩) h.row (fun k hk => hk) v, h.bel.setCell (by show w.heap.size ≤ x; omega) _, (setB h.own j v).trans (by rw [he]), h.far⟩
theorem dx_num {w W : World} {s s' : List UInt8} {bad bad' : Bool} {l : List S40} {u : Value} {a b : Int} {n : Nat} {x : Nat} {y : S40} (h : DX w W s bad l u a b x y) (hn : numP 3 s bad 0 0 = (n, s', bad')) :
    Calls Try.prog 26 #[.pointer (some ⟨w.heap.size + 1 + 1, 0, none⟩)] W fun e W' => e = .returned (.int .i64 (n : Int)) ∧ DX w W' s' bad' l u a b x y := by
  have := number26 (w.heap.size + 1 + 1) s bad w W h.rd h.bel
  rw [hn] at this
  refine this.mono ?_
  rintro e W' ⟨rfl, h1, h2, h3⟩
  exact ⟨rfl, h.call h1 h2 h3⟩
theorem ownF_cases (op : Int) : ownF op = (true, true, true, false) ∨ ownF op = (false, false, true, true) ∨ ownF op = (true, false, true, false) ∨ ownF op = (false, false, false, false) := by
  unfold ownF
  split
  · exact Or.inl rfl
  split
  · exact Or.inr (Or.inl rfl)
  split
  · exact Or.inr (Or.inr (Or.inl rfl))
  · exact Or.inr (Or.inr (Or.inr rfl))
def DecPost (s : List UInt8) (w : World) (e : Ending) (w' : World) : Prop :=
  match decP s with
  | none => e = .returned (.tuple #[.agg #[.slice none 0 0, .int .i64 0, .int .i64 0], .int .i64 140]) ∧ Kp [] w w'
  | some (l, a, b) => ∃ v, e = .returned (.tuple #[.agg #[v, .int .i64 a, .int .i64 b], .int .i64 0]) ∧ Kd.R k40 40 w' w.heap.size (fun _ => True) v l ∧ Kp [] w w'
end Go.Proofs.Ytkjkkebaafmheaa
