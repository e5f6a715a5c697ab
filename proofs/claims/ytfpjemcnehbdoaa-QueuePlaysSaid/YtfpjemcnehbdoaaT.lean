/- The document's queue as a list: what its printed pure functions compute, and the contracts of both sides said of one list of numbers. -/
import Derived.Test.YtfpjemcnehbdoaaS
namespace Go.Proofs.Ytfpjemcnehbdoaa
open Go.RowKit PQueuePlays Go.Proofs.YtfpjemcnehbdoaaW.PrintWords Go.Proofs.YtfpjemcnehbdoaaW.PrintLast Go.Proofs.YtfpjemcnehbdoaaW.PrintMore
set_option linter.unusedVariables false

def zl (l : List Nat) : List Int := l.map Int.ofNat
theorem zl_len (l : List Nat) : (zl l).length = l.length := by simp [zl]
theorem rd_at (l : List Int) (i : Nat) (h : i < l.length) : rd l (i : Int) = l[i] := by
  unfold rd
  rw [Int.toNat_natCast]
  simp [List.getD, h]
theorem wrap_succ (i : Nat) (h : i < 1000000) : wrap64 ((i : Int) + 1) = ((i + 1 : Nat) : Int) := by
  unfold wrap64; omega
def hasZ (l : List Nat) (x : Int) : Bool := decide (0 ≤ x ∧ x.toNat ∈ l)
theorem hasZ_iff (l : List Nat) (x : Int) : hasZ l x = true ↔ x ∈ zl l := by
  unfold hasZ zl
  simp only [decide_eq_true_eq, List.mem_map]
  constructor
  · rintro ⟨h0, h1⟩
    exact ⟨_, h1, by show ((x.toNat : Nat) : Int) = x; omega⟩
  · rintro ⟨a, ha, rfl⟩
    exact ⟨by show (0 : Int) ≤ (a : Int); omega, by simpa using ha⟩

theorem has_l0 (n x : Int) (l : List Int) (hl : l.length < 1000000) : ∀ (d k i : Nat), l.length - i = d → i ≤ l.length → d < k →
    burinref18_Has.l0 k x (i : Int) n l = some (decide (x ∈ l.drop i)) := by
  intro d
  induction d with
  | zero =>
    intro k i hd hi hk
    obtain ⟨k, rfl⟩ : ∃ m, k = m + 1 := ⟨k - 1, by omega⟩
    obtain rfl : i = l.length := by omega
    unfold burinref18_Has.l0
    rw [if_neg (by omega), List.drop_length]
    simp
  | succ d ih =>
    intro k i hd hi hk
    obtain ⟨k, rfl⟩ : ∃ m, k = m + 1 := ⟨k - 1, by omega⟩
    have h : i < l.length := by omega
    unfold burinref18_Has.l0
    rw [if_pos (by omega), if_pos (by omega), rd_at l i h, wrap_succ i (by omega), ih k (i + 1) (by omega) (by omega) (by omega)]
    rw [List.drop_eq_getElem_cons h]
    by_cases e : l[i] = x
    · rw [if_pos e]; simp [e]
    · rw [if_neg e]
      have : ¬ x = l[i] := fun h => e h.symm
      rw [Option.some.injEq, Bool.eq_iff_iff, decide_eq_true_iff, decide_eq_true_iff, List.mem_cons]
      exact (or_iff_right this).symm
theorem has_f (n x : Int) (l : List Nat) (hl : l.length < 1000000) : burinref18_Has.f 1000001 n (zl l) x = some (hasZ l x) := by
  have h2 : (zl l).length < 1000000 := by rw [zl_len]; exact hl
  have := has_l0 n x (zl l) h2 (zl l).length 1000001 0 (by omega) (by omega) (by omega)
  rw [List.drop_zero] at this
  refine this.trans ?_
  rw [Option.some.injEq, Bool.eq_iff_iff, hasZ_iff, decide_eq_true_iff]

theorem same_l0 (l : List Int) (hl : l.length < 1000000) : ∀ (d k i : Nat), l.length - i = d → i ≤ l.length → d < k →
    burinbook_SameInts.l0 k l l true (i : Int) = some true := by
  intro d
  induction d with
  | zero =>
    intro k i hd hi hk
    obtain ⟨k, rfl⟩ : ∃ m, k = m + 1 := ⟨k - 1, by omega⟩
    obtain rfl : i = l.length := by omega
    unfold burinbook_SameInts.l0
    rw [if_pos rfl, if_neg (by omega)]
  | succ d ih =>
    intro k i hd hi hk
    obtain ⟨k, rfl⟩ : ∃ m, k = m + 1 := ⟨k - 1, by omega⟩
    have h : i < l.length := by omega
    unfold burinbook_SameInts.l0
    rw [if_pos rfl, if_pos (by omega), if_pos (by omega), if_pos (by omega), wrap_succ i (by omega), beq_self_eq_true, ih k (i + 1) (by omega) (by omega) (by omega)]
theorem same_f (l : List Int) (hl : l.length < 1000000) : burinbook_SameInts.f 1000001 l l = some true := by
  unfold burinbook_SameInts.f
  rw [beq_self_eq_true]
  exact same_l0 l hl l.length 1000001 0 (by omega) (by omega) (by omega)

def goodZ (n : Nat) (l : List Nat) (x : Int) : Bool := decide (0 ≤ x ∧ x < (n : Int)) && !hasZ l x
def addZ (n : Nat) (l : List Nat) (x : Int) : List Nat := if goodZ n l x = true then l ++ [x.toNat] else l
theorem addZ_len (n : Nat) (l : List Nat) (x : Int) : (addZ n l x).length ≤ l.length + 1 := by
  unfold addZ
  split <;> simp
theorem add_f (n : Nat) (x : Int) (l : List Nat) (hl : l.length < 1000000) : burinref18_Add.f 1000001 n (zl l) x = some ((n : Int), zl (addZ n l x), goodZ n l x) := by
  unfold burinref18_Add.f
  rw [has_f n x l hl]
  by_cases h1 : x < 0
  · have hg : goodZ n l x = false := by unfold goodZ; rw [Bool.and_eq_false_iff]; left; simp; omega
    rw [if_pos h1]; unfold addZ; rw [hg, if_neg (by simp)]
  · by_cases h2 : x ≥ n
    · have hg : goodZ n l x = false := by unfold goodZ; rw [Bool.and_eq_false_iff]; left; simp; omega
      rw [if_neg h1, if_pos h2]; unfold addZ; rw [hg, if_neg (by simp)]
    · rw [if_neg h1, if_neg h2, Option.bind_some]
      have h3 : (zl l).length = l.length := zl_len l
      cases hh : hasZ l x with
      | true =>
        have hg : goodZ n l x = false := by unfold goodZ; rw [hh]; simp
        rw [if_pos rfl]; unfold addZ; rw [hg, if_neg (by simp)]
      | false =>
        have hg : goodZ n l x = true := by unfold goodZ; rw [hh]; simp; omega
        rw [if_neg (by simp), if_pos (by simp [h3]; omega), Option.bind_some, if_pos (by simp [h3]; omega)]
        unfold addZ
        rw [hg, if_pos rfl]
        have : x = ((x.toNat : Nat) : Int) := by omega
        simp only [List.nil_append, zl, List.map_append, List.map_cons, List.map_nil]
        rw [show Int.ofNat x.toNat = x from this.symm]
theorem cut_f (n : Nat) (x : Int) (l : List Nat) : burinref18_Cut.f n (zl l) x = some ((n : Int), zl (l.take x.toNat)) := by
  unfold burinref18_Cut.f
  have h3 : (zl l).length = l.length := zl_len l
  by_cases h1 : x < 0
  · rw [if_pos h1, show x.toNat = 0 from by omega, List.take_zero]
    by_cases h2 : 0 < l.length
    · rw [if_pos (by omega), if_pos (by omega)]; rfl
    · have : l = [] := by cases l with
        | nil => rfl
        | cons a t => simp at h2
      subst this
      rw [if_neg (by simp [zl])]
  · rw [if_neg h1]
    by_cases h2 : x < (zl l).length
    · rw [if_pos h2, if_pos (by omega), if_pos (by omega)]
      simp [zl, List.map_take]
    · rw [if_neg h2, List.take_of_length_le (by omega)]

theorem has_l (w : World) (q wb lb n l) (h : IsQ w q wb lb n l) (x : Int) :
    Calls Try.prog 10 #[.pointer (some ⟨q, 0, none⟩), .int .i64 x] w fun e w' => e = .returned (.bool (hasZ l x)) ∧ w = w' := by
  by_cases hh : 0 ≤ x ∧ x.toNat ∈ l
  · obtain ⟨y, rfl⟩ : ∃ y : Nat, x = y := ⟨x.toNat, by omega⟩
    have : hasZ l y = true := by unfold hasZ; exact decide_eq_true hh
    rw [this]
    exact has_yes w q wb lb n l h y (by simpa using hh.2)
  · have : hasZ l x = false := by unfold hasZ; exact decide_eq_false hh
    rw [this]
    exact has_no w q wb lb n l h x (fun h0 h1 => hh ⟨h0, h1⟩)
def atZ (l : List Nat) (k : Int) : Int := if 0 ≤ k ∧ k < (l.length : Int) then ((l.getD k.toNat 0 : Nat) : Int) else -1
theorem at_l (w : World) (q wb lb n l) (h : IsQ w q wb lb n l) (k : Int) :
    Calls Try.prog 11 #[.pointer (some ⟨q, 0, none⟩), .int .i64 k] w fun e w' => e = .returned (.int .i64 (atZ l k)) ∧ w = w' := by
  unfold atZ
  by_cases hh : 0 ≤ k ∧ k < (l.length : Int)
  · rw [if_pos hh]
    have : k.toNat < l.length := by omega
    exact at_yes w q wb lb n l h k _ hh.1 (by simp [this])
  · rw [if_neg hh]
    exact at_no w q wb lb n l h k (by omega)
theorem add_l (w : World) (q wb lb n l) (h : IsQ w q wb lb n l) (x : Int) :
    Calls Try.prog 8 #[.pointer (some ⟨q, 0, none⟩), .int .i64 x] w fun e w' => e = .returned (.bool (goodZ n l x)) ∧ IsQ w' q wb lb n (addZ n l x) ∧ Kp [q, wb, lb] w w' := by
  by_cases hg : goodZ n l x = true
  · unfold addZ
    rw [hg, if_pos rfl]
    unfold goodZ hasZ at hg
    simp only [Bool.and_eq_true, decide_eq_true_eq, Bool.not_eq_true', decide_eq_false_iff_not] at hg
    obtain ⟨⟨h0, h1⟩, h2⟩ := hg
    obtain ⟨y, rfl⟩ : ∃ y : Nat, x = y := ⟨x.toNat, by omega⟩
    refine add_yes w q wb lb n l h y (by omega) (fun hm => h2 ⟨by omega, by simpa using hm⟩)
  · unfold addZ
    rw [if_neg hg]
    simp only [Bool.not_eq_true] at hg
    rw [hg]
    unfold goodZ hasZ at hg
    refine (add_no w q wb lb n l h x ?_).mono (by rintro e w' ⟨rfl, rfl⟩; exact ⟨rfl, h, Kp.refl _ _⟩)
    rw [Bool.and_eq_false_iff] at hg
    simp only [decide_eq_false_iff_not, Bool.not_eq_false', decide_eq_true_eq] at hg
    rcases hg with hg | hg
    · omega
    · exact .inr (.inr hg.2)

theorem refAdd (W w : World) (n : Nat) (P : Nat → Prop) (v : Value) (l : List Nat) (x : Int) (hB : Below W.heap.size W w) (ho : Kd.R (Kd.int .i64) 3 w W.heap.size P v (zl l)) (hl : l.length < 1000000) :
    Calls Try.prog 14 #[.agg #[.int .i64 n, v], .int .i64 x] w fun e w' => ∃ A c, e = .returned (.tuple #[.agg #[.int .i64 n, .slice A (addZ n l x).length c], .bool (goodZ n l x)]) ∧
      Kd.R (Kd.int .i64) 3 w' W.heap.size (fun k => P k ∨ w.heap.size ≤ k) (.slice A (addZ n l x).length c) (zl (addZ n l x)) ∧ Below W.heap.size W w' ∧ Kept w w' P := by
  refine (burinref18_Add.calls 1000001 n P v (zl l) x n (zl (addZ n l x)) (goodZ n l x) W w hB ho (add_f n x l hl)).mono ?_
  rintro e w' ⟨v2, rfl, h1, h2, h3⟩
  obtain ⟨A, c, rfl⟩ := Kd.R_slice h1
  rw [zl_len] at h1 ⊢
  exact ⟨A, c, rfl, h1, h2, h3⟩
theorem refCut (W w : World) (n : Nat) (P : Nat → Prop) (v : Value) (l : List Nat) (x : Int) (hB : Below W.heap.size W w) (ho : Kd.R (Kd.int .i64) 3 w W.heap.size P v (zl l)) :
    Calls Try.prog 15 #[.agg #[.int .i64 n, v], .int .i64 x] w fun e w' => ∃ A c, e = .returned (.agg #[.int .i64 n, .slice A (l.take x.toNat).length c]) ∧
      Kd.R (Kd.int .i64) 3 w' W.heap.size (fun k => P k ∨ w.heap.size ≤ k) (.slice A (l.take x.toNat).length c) (zl (l.take x.toNat)) ∧ Below W.heap.size W w' ∧ Kept w w' P := by
  refine (burinref18_Cut.calls n P v (zl l) x n (zl (l.take x.toNat)) W w hB ho (cut_f n x l)).mono ?_
  rintro e w' ⟨v2, rfl, h1, h2, h3⟩
  obtain ⟨A, c, rfl⟩ := Kd.R_slice h1
  rw [zl_len] at h1 ⊢
  exact ⟨A, c, rfl, h1, h2, h3⟩
theorem refHas (w : World) (n : Int) (A : Option Addr) (c : Nat) (l : List Nat) (x : Int) (base : Nat) (P : Nat → Prop) (h : Kd.R (Kd.int .i64) 3 w base P (.slice A l.length c) (zl l)) (hl : l.length < 1000000) :
    Calls Try.prog 18 #[.agg #[.int .i64 n, .slice A l.length c], .int .i64 x] w fun e w' => e = .returned (.bool (hasZ l x)) ∧ Kp [] w w' := by
  obtain ⟨A', c', he, h1, h2⟩ := Kd.R_reads h
  injection he with e1 e2 e3
  subst e1 e3
  have := (burinref18_Has.calls 1000001 n A c (zl l) x (hasZ l x) w h2 h1 (has_f n x l hl))
  rw [zl_len] at this
  refine this.mono ?_
  rintro e w' ⟨rfl, b⟩
  exact ⟨rfl, ⟨b.os, b.tape, b.output, b.size, fun i hi _ => b.block i hi⟩⟩
theorem same_l (w : World) (B C : Nat) (A : Option Addr) (c : Nat) (l : List Nat) (base : Nat) (P : Nat → Prop) (h0 : FC w B C l) (h : Kd.R (Kd.int .i64) 3 w base P (.slice A l.length c) (zl l)) (hl : l.length < 1000000) :
    Calls Try.prog 17 #[.slice (some ⟨B, 0, none⟩) l.length C, .slice A l.length c] w fun e w' => e = .returned (.bool true) ∧ Kp [] w w' := by
  obtain ⟨A', c', he, h1, h2⟩ := Kd.R_reads h
  injection he with e1 e2 e3
  subst e1 e3
  have h3 : Kd.C (Kd.int .i64) w (some ⟨B, 0, none⟩) (zl l).length (zl l) := h0.reads
  have h4 := h0.2.1
  have := burinbook_SameInts.calls 1000001 (some ⟨B, 0, none⟩) C (zl l) A c (zl l) true w h3 (by rw [zl_len]; exact h4) h2 h1 (same_f (zl l) (by rw [zl_len]; exact hl))
  rw [zl_len] at this
  refine this.mono ?_
  rintro e w' ⟨rfl, b⟩
  have b := b.below
  exact ⟨rfl, ⟨b.os, b.tape, b.output, b.size, fun i hi _ => b.block i hi⟩⟩
end Go.Proofs.Ytfpjemcnehbdoaa
