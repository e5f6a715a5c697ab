/- Merged by wip/tools/merge.py out of the texts A, C, D, E, F, G, H, I, J, K, L, M, N, each as it stood. -/
import Derived.Test.YtojlhlepneefoaaB
import Derived.Test.YtojlhlepneefoaaPAllx0
import Derived.Test.YtojlhlepneefoaaShelfQ
import Derived.Deep.RegionHeld3
import Derived.Deep.RegionWith
import Derived.Deep.MidRow
import Derived.Shelf.SlicesE.IndexFunc
import Derived.Lib.ConvBytes
import Derived.Laws.IdiomStrings
import Derived.Test.YtojlhlepneefoaaPAllx4
import Derived.Test.YtojlhlepneefoaaPAllx5
import Derived.Shelf.SlicesQ.IndexFunc
import Derived.Laws.EntriesVeiled
import Derived.RangeFuncNested
import Derived.RangeFuncBound
import Derived.RangeFuncCalls
import Derived.RangeFuncLeaves
import Derived.RangeFuncKeeps
import Derived.RangeFuncWrites
import Derived.Shelf.Abstract
import Derived.Shelf.RegionOpen
import Derived.WalkKit
import Derived.OwnWalkIn
import Derived.TacticsInMore
import Derived.LoopNIn
import Derived.LoopIn
import Derived.RangeFuncBox
import Derived.Maps.AppendAt
import Derived.Test.YtojlhlepneefoaaPAllx3
import Derived.Maps.OwnIn
import Derived.Maps.Views
import Derived.StringKeys
import Derived.Test.YtojlhlepneefoaaPAllx7
import Derived.Test.YtojlhlepneefoaaPAllx8
import Derived.Test.YtojlhlepneefoaaPAllx17
/- A tree's node as it lies in memory; small lemmas. -/
namespace Go.Proofs.Ytojlhlepneefoaa
open Go.RowKit PAll Go.Proofs.YtojlhlepneefoaaW.PrintWords Go.Proofs.YtojlhlepneefoaaW.PrintLast Go.Proofs.YtojlhlepneefoaaW.PrintMore
open Go.Shelf
set_option linter.unusedVariables false
set_option linter.unusedSimpArgs false

instance : Inhabited S25 := ⟨z25⟩
theorem cellAlloc {w : World} {a : Addr} {v : Value} (o : Obj) (h : w.cell? a = some v) : (w.alloc o).cell? a = some v :=
  (World.cell?_of_block (Below.heap_alloc w o a.block (World.block_lt_of_cell? w _ h))).trans h
theorem kcell {w w' : World} {a : Addr} {v : Value} (k : Kp [] w w') (h : w.cell? a = some v) : w'.cell? a = some v :=
  (World.cell?_of_block (k.block a.block (World.block_lt_of_cell? w _ h) (by simp))).trans h
theorem new_at (w : World) (o : Obj) (B : Nat) (hB : B = w.heap.size) : (w.alloc o).heap[B]? = some o := by subst hB; exact heap_alloc_new w o
theorem kblk {w w' : World} {b : Nat} {o : Obj} (k : Kp [] w w') (h : w.heap[b]? = some o) : w'.heap[b]? = some o := (k.block b (ltB h) (by simp)).trans h
theorem Kp.ofBelow {w w' : World} (h : Below w.heap.size w w') : Kp [] w w' := ⟨h.os, h.tape, h.output, h.size, fun k hk _ => h.block k hk⟩
theorem Kp.drewN {S} {a w : World} (h : Kp S a w) (n : Nat) : Kp S a (w.drewN n) := ⟨h.os, h.tape, h.output, h.size, h.block⟩
theorem Kp.ofDrawn {w w' : World} (h : Drawn0 w w') : Kp [] w w' := by obtain ⟨n, rfl⟩ := h; exact (Kp.refl [] w).drewN n
theorem Kp.bel {w w' : World} (k : Kp [] w w') : Below w.heap.size w w' := k.below (Nat.le_refl _) (by simp)
theorem Kp.undrew {S} {w w' : World} (h : Kp S w.drew w') : Kp S w w' := ⟨h.os, h.tape, h.output, h.size, h.block⟩
theorem addNone (b o n : Nat) : Addr.add ⟨b, o, none⟩ n = ⟨b, o + n, none⟩ := by unfold Addr.add; by_cases h : n = 0 <;> simp [h]
/-- A node's value: the node, and where its two slices lie. -/
structure NV where
  n : S25
  A1 : Option Addr
  c1 : Nat
  A7 : Option Addr
  c7 : Nat
def NV.cells (v : NV) : List Value := [.int .i64 v.n.f0, .slice v.A1 v.n.f1.length v.c1, .int .i64 v.n.f2, .string v.n.f3, .int .i64 v.n.f4, .int .i64 v.n.f5, .bool v.n.f6, .slice v.A7 v.n.f7.length v.c7]
def NV.val (v : NV) : Value := .agg v.cells.toArray
structure NV.ok (w : World) (v : NV) : Prop where
  l1 : v.n.f1.length ≤ v.c1
  g1 : Kd.C k103 w v.A1 v.n.f1.length v.n.f1
  l7 : v.n.f7.length ≤ v.c7
  g7 : Kd.C k25 w v.A7 v.n.f7.length v.n.f7
theorem NV.ok.kp {w w' : World} {v : NV} (h : v.ok w) (k : Kp [] w w') : v.ok w' := ⟨h.l1, Kd.C_below h.g1 k.bel, h.l7, Kd.C_below h.g7 k.bel⟩
theorem NV.ok.k25 {w : World} {v : NV} (h : v.ok w) : k25.K w v.n v.cells := k25_mk w v.n h.l1 h.g1 h.l7 h.g7
/-- A row of nodes, opened: where it lies, and each node's value. -/
theorem rowOpen {w : World} {A : Option Addr} {l : List S25} (h : Kd.C k25 w A l.length l) (hn : 0 < l.length) : ∃ b o, A = some ⟨b, o, none⟩ ∧ b < w.heap.size ∧
    ∃ vs : List NV, vs.map (·.n) = l ∧ (∀ v ∈ vs, v.ok w) ∧ ∀ j (hj : j < vs.length), ∀ i u, (vs[j].cells)[i]? = some u → w.cell? ⟨b, o + j * 8 + i, none⟩ = some u := by
  obtain ⟨ad, rfl, hc⟩ := h.2.2 hn
  obtain ⟨b, o, s⟩ := ad
  have each : ∀ j (hj : j < l.length), ∃ v : NV, v.n = l[j] ∧ v.ok w ∧ ∀ i u, v.cells[i]? = some u → w.cell? (Addr.add ⟨b, o, s⟩ (j * 8 + i)) = some u := by
    intro j hj
    obtain ⟨c, hl, hK, hcell⟩ := hc j l[j] (List.getElem?_eq_getElem hj)
    obtain ⟨A1, c1, A7, c7, rfl, l1, g1, l7, g7⟩ := k25_open hK
    exact ⟨⟨l[j], A1, c1, A7, c7⟩, rfl, ⟨l1, g1, l7, g7⟩, hcell⟩
  obtain rfl : s = none := by
    obtain ⟨v, _, _, h0⟩ := each 0 hn
    have := h0 0 _ rfl
    cases s with
    | none => rfl
    | some k => simp [Addr.add, World.cell?] at this; split at this <;> simp at this
  have : Inhabited NV := ⟨⟨z25, none, 0, none, 0⟩⟩
  obtain ⟨f, hf⟩ : ∃ f : Nat → NV, ∀ j (hj : j < l.length), (f j).n = l[j] ∧ (f j).ok w ∧ ∀ i u, (f j).cells[i]? = some u → w.cell? (Addr.add ⟨b, o, none⟩ (j * 8 + i)) = some u := by
    classical
    exact ⟨fun j => if hj : j < l.length then Classical.choose (each j hj) else default, fun j hj => by simp only [dif_pos hj]; exact Classical.choose_spec (each j hj)⟩
  refine ⟨b, o, rfl, ?_, (List.range l.length).map f, ?_, ?_, ?_⟩
  · exact World.block_lt_of_cell? w _ ((hf 0 hn).2.2 0 _ rfl)
  · apply List.ext_getElem
    · simp
    · intro i h1 h2
      simp at h1
      simp [(hf i h1).1]
  · intro v hv
    obtain ⟨j, hj, rfl⟩ := List.mem_map.1 hv
    exact (hf j (by simpa using hj)).2.1
  · intro j hj i u hu
    simp at hj hu
    have := (hf j hj).2.2 i u hu
    rw [addNone] at this
    rw [Nat.add_assoc]
    exact this
end Go.Proofs.Ytojlhlepneefoaa
/- Package tree: the walk of Name. -/
namespace Go.Proofs.Ytojlhlepneefoaa
open Go.RowKit PAll Go.Proofs.YtojlhlepneefoaaW.PrintWords Go.Proofs.YtojlhlepneefoaaW.PrintLast Go.Proofs.YtojlhlepneefoaaW.PrintMore
open Go.Shelf
set_option linter.unusedVariables false
set_option linter.unusedSimpArgs false

def letB (c : UInt8) : Bool := decide (65 ≤ c.toNat) && decide (c.toNat ≤ 90) || (decide (97 ≤ c.toNat) && decide (c.toNat ≤ 122) || (decide (48 ≤ c.toNat) && decide (c.toNat ≤ 57) || decide (c.toNat = 95)))
def nameB (s : List UInt8) : Bool := decide (1 ≤ s.length) && (decide (s.length ≤ 32) && (!(decide (48 ≤ (s.headD 0).toNat) && decide ((s.headD 0).toNat ≤ 57)) && s.all letB))
theorem let_gives (c : UInt8) (w : World) : Calls Try.prog 79 #[.int .u8 (c.toNat : Int)] w fun e w' => e = .returned (.bool (!letB c)) ∧ w' = w := by
  obtain ⟨x, hx⟩ : ∃ x, c.toNat = x := ⟨_, rfl⟩
  have hlt : x < 256 := by rw [← hx]; exact UInt8.toNat_lt c
  unfold letB
  rw [hx]
  by_cases a1 : 65 ≤ x
  · by_cases a2 : x ≤ 90
    · have d1 : decide ((65 : Int) ≤ (x : Int)) = true := decide_eq_true (by omega)
      have d2 : decide ((x : Int) ≤ 90) = true := decide_eq_true (by omega)
      go_enter Try.func79, Try.ntmps79
      go_wp2
      go_ret
      exact ⟨by simp [a1, a2], rfl⟩
    · have d1 : decide ((65 : Int) ≤ (x : Int)) = true := decide_eq_true (by omega)
      have d2 : decide ((x : Int) ≤ 90) = false := decide_eq_false (by omega)
      by_cases a3 : x = 95
      · subst a3
        go_enter Try.func79, Try.ntmps79
        go_wp2
        go_ret
        exact ⟨rfl, rfl⟩
      · have d5 : decide ((48 : Int) ≤ (x : Int)) = true := decide_eq_true (by omega)
        have d6 : decide ((x : Int) ≤ 57) = false := decide_eq_false (by omega)
        have d7 : ((x : Int) == 95) = false := by rw [beq_eq_false_iff_ne]; omega
        by_cases a4 : 97 ≤ x
        · have d3 : decide ((97 : Int) ≤ (x : Int)) = true := decide_eq_true (by omega)
          by_cases a5 : x ≤ 122
          · have d4 : decide ((x : Int) ≤ 122) = true := decide_eq_true (by omega)
            go_enter Try.func79, Try.ntmps79
            go_wp2
            go_ret
            exact ⟨by simp [a4, a5], rfl⟩
          · have d4 : decide ((x : Int) ≤ 122) = false := decide_eq_false (by omega)
            go_enter Try.func79, Try.ntmps79
            go_wp2
            go_ret
            refine ⟨?_, rfl⟩
            simp [a2, a5, a3]; omega
        · have d3 : decide ((97 : Int) ≤ (x : Int)) = false := decide_eq_false (by omega)
          go_enter Try.func79, Try.ntmps79
          go_wp2
          go_ret
          refine ⟨?_, rfl⟩
          simp [a2, a4, a3]; omega
  · have d1 : decide ((65 : Int) ≤ (x : Int)) = false := decide_eq_false (by omega)
    have d3 : decide ((97 : Int) ≤ (x : Int)) = false := decide_eq_false (by omega)
    have d7 : ((x : Int) == 95) = false := by rw [beq_eq_false_iff_ne]; omega
    by_cases a4 : 48 ≤ x
    · have d5 : decide ((48 : Int) ≤ (x : Int)) = true := decide_eq_true (by omega)
      by_cases a5 : x ≤ 57
      · have d6 : decide ((x : Int) ≤ 57) = true := decide_eq_true (by omega)
        go_enter Try.func79, Try.ntmps79
        go_wp2
        go_ret
        exact ⟨by simp [a4, a5], rfl⟩
      · have d6 : decide ((x : Int) ≤ 57) = false := decide_eq_false (by omega)
        go_enter Try.func79, Try.ntmps79
        go_wp2
        go_ret
        refine ⟨?_, rfl⟩
        simp [a1, a5]; omega
    · have d5 : decide ((48 : Int) ≤ (x : Int)) = false := decide_eq_false (by omega)
      go_enter Try.func79, Try.ntmps79
      go_wp2
      go_ret
      refine ⟨?_, rfl⟩
      simp [a1, a4]; omega
theorem let_pred (w : World) : PredAt Try.prog 79 #[] (fun c : UInt8 => .int .u8 (c.toNat : Int)) (fun c => !letB c) w := by
  intro W x hW
  refine (let_gives x W).mono ?_
  rintro e w' ⟨rfl, rfl⟩
  first
    | exact ⟨rfl, 0, rfl⟩
    | exact ⟨0, rfl, rfl⟩
theorem bytesWorld_kp (w : World) (s : ByteArray) : Kp [] w (Lib.bytesWorld w 5 s) :=
  ⟨rfl, rfl, rfl, by rw [Lib.bytesWorld_size]; omega, fun k hk _ => Lib.bytesWorld_at_old w 5 s k hk⟩
theorem all_not (l : List UInt8) : (l.any fun c => !letB c) = !(l.all letB) := by
  induction l with
  | nil => rfl
  | cons c l ih => rw [List.any_cons, List.all_cons, ih]; cases letB c <;> simp
set_option maxRecDepth 100000 in
set_option maxHeartbeats 2000000 in
theorem name_calls (s : List UInt8) (w : World) : Calls Try.prog 34 #[.string ⟨s.toArray⟩] w fun e w' => e = .returned (.bool (nameB s)) ∧ Kp [] w w' := by
  have hsz : (⟨s.toArray⟩ : ByteArray).size = s.length := by simp [ByteArray.size]
  cases s with
  | nil =>
    go_enter Try.func34, Try.ntmps34
    go_wp2
    go_ret
    exact ⟨rfl, Kp.refl _ _⟩
  | cons c t =>
    have he : (⟨(c :: t).toArray⟩ : ByteArray).toList.isEmpty = false := by simp [ByteArray.toList_eq]
    have hpos : 0 < (c :: t).length := by simp
    obtain ⟨s, hs'⟩ : ∃ s, s = c :: t := ⟨_, rfl⟩
    have hh : s.headD 0 = c := by rw [hs']; rfl
    have he2 : s.isEmpty = false := by rw [hs']; rfl
    rw [← hs'] at he hpos hsz ⊢
    have hix : ((⟨s.toArray⟩ : ByteArray)[0]'(by rw [hsz]; exact hpos)).toNat = c.toNat := by subst hs'; rfl
    replace hs' := Lib.hid hs'
    by_cases h32 : s.length ≤ 32
    rotate_left
    · have hv : nameB s = false := by simp [nameB, h32]
      have d1 : decide ((32 : Int) < (s.length : Int)) = true := decide_eq_true (by omega)
      rw [hv]
      replace hv := Lib.hid hv
      replace hh := Lib.hid hh
      go_enter Try.func34, Try.ntmps34
      go_wp2
      go_ret
      exact ⟨rfl, Kp.refl _ _⟩
    have d1 : decide ((32 : Int) < (s.length : Int)) = false := decide_eq_false (by omega)
    obtain ⟨x, hx⟩ : ∃ x, c.toNat = x := ⟨_, rfl⟩
    have hlt : x < 256 := by rw [← hx]; exact UInt8.toNat_lt c
    rw [hx] at hix
    by_cases hd : 48 ≤ x ∧ x ≤ 57
    · have hv : nameB s = false := by simp only [nameB, hh, hx, decide_eq_true hd.1, decide_eq_true hd.2]; simp
      have d2 : decide ((48 : Int) ≤ (x : Int)) = true := decide_eq_true (by omega)
      have d3 : decide ((x : Int) ≤ 57) = true := decide_eq_true (by omega)
      rw [hv]
      replace hv := Lib.hid hv
      replace hh := Lib.hid hh
      replace hx := Lib.hid hx
      go_enter Try.func34, Try.ntmps34
      go_wp2
      go_ret
      exact ⟨rfl, Kp.refl _ _⟩
    · have hv : nameB s = s.all letB := by
        have : (!(decide (48 ≤ x) && decide (x ≤ 57))) = true := by
          rcases Nat.lt_or_ge x 48 with h | h
          · simp [show ¬ 48 ≤ x by omega]
          · simp [show ¬ x ≤ 57 by omega]
        simp only [nameB, hh, hx, this]
        rw [decide_eq_true (show 1 ≤ s.length by omega), decide_eq_true h32]
        simp
      have CF : Hid (∀ W : World, Calls Try.prog 78 #[.slice (some ⟨w.heap.size, 0, none⟩) s.length (grownCap w s.length 0 5), .func (.func 79) #[] #[]] (Lib.bytesWorld w 5 ⟨s.toArray⟩) fun e w' => e = .returned (.bool (!(s.all letB))) ∧ Kp [] w w') := by
        intro _
        have := AnyE.slices_ContainsFunc Try.cfByte (fun c : UInt8 => .int .u8 (c.toNat : Int)) (fun c => !letB c) 79 #[] (fun args w => by go_simp) w.heap.size 0 s.length (grownCap w s.length 0 5) s (Lib.bytesWorld w 5 ⟨s.toArray⟩) (let_pred _) (Nat.le_refl _) (by omega) (fun j hj => by
          rw [Nat.zero_add, Lib.bytesWorld_cell w 5 ⟨s.toArray⟩ j (by rw [hsz]; exact hj)]
          simp [List.getD, hj])
        refine this.mono ?_
        rintro e w' ⟨rfl, q, rfl⟩
        rw [List.take_length, all_not]
        exact ⟨rfl, (bytesWorld_kp w _).drewN q⟩
      have HCV := Lib.run_convert_string_bytes (P := Try.prog) w 9 100 5 ⟨s.toArray⟩ Try.underlying9 Try.underlying100 Try.underlying5
      rw [hv]
      replace hv := Lib.hid hv
      replace hh := Lib.hid hh
      replace hx := Lib.hid hx
      by_cases h48 : 48 ≤ x
      · have d2 : decide ((48 : Int) ≤ (x : Int)) = true := decide_eq_true (by omega)
        have d3 : decide ((x : Int) ≤ 57) = false := decide_eq_false (by omega)
        go_enter Try.func34, Try.ntmps34
        go_wp2_with (go_at_call 78; refine (CF.out w).mono ?_; rintro e w1 ⟨rfl, k1⟩)
        go_ret
        exact ⟨by simp, k1⟩
      · have d2 : decide ((48 : Int) ≤ (x : Int)) = false := decide_eq_false (by omega)
        go_enter Try.func34, Try.ntmps34
        go_wp2_with (go_at_call 78; refine (CF.out w).mono ?_; rintro e w1 ⟨rfl, k1⟩)
        go_ret
        exact ⟨by simp, k1⟩
end Go.Proofs.Ytojlhlepneefoaa
/- Package tree: what fits; the walk of fits. -/
namespace Go.Proofs.Ytojlhlepneefoaa
open Go.RowKit PAll Go.Proofs.YtojlhlepneefoaaW.PrintWords Go.Proofs.YtojlhlepneefoaaW.PrintLast Go.Proofs.YtojlhlepneefoaaW.PrintMore
open Go.Shelf
set_option linter.unusedVariables false
set_option linter.unusedSimpArgs false

def chkR : Int → List S103 → Int
  | _, [] => 0
  | last, x :: l => if x.f0 < 0 ∨ x.f0 > 1114111 ∨ x.f1 < 0 ∨ x.f1 > 1114111 then 1 else if x.f0 > x.f1 ∨ x.f0 ≤ last + 1 then 4 else chkR x.f1 l
theorem chkR_cases (last : Int) (l : List S103) : chkR last l = 0 ∨ chkR last l = 1 ∨ chkR last l = 4 := by
  induction l generalizing last with
  | nil => exact Or.inl rfl
  | cons x l ih =>
    rw [chkR]
    split
    · exact Or.inr (Or.inl rfl)
    split
    · exact Or.inr (Or.inr rfl)
    · exact ih _
theorem rd103 (l : List S103) (i : Nat) (h : i < l.length) : rd_T103 l (i : Int) = l[i] := by simp [rd_T103, List.getD, List.getElem?_eq_getElem h]
theorem chk_loop (l : List S103) (hl : l.length ≤ 9223372036854775807) : ∀ (n i k : Nat) (last : Int), -2 ≤ last → last ≤ 1114111 → l.length - i ≤ n → i ≤ l.length → ranges_Check.l0 (2 * n + k + 1) last l (l.length : Int) (i : Int) = some (chkR last (l.drop i))
  | 0, i, k, last, h0, h1, hn, hi => by
    rw [show 2 * 0 + k + 1 = k + 1 by omega, ranges_Check.l0, if_neg (by omega), List.drop_eq_nil_of_le (by omega)]
    rfl
  | n + 1, i, k, last, h0, h1, hn, hi => by
    by_cases h : i < l.length
    · rw [show 2 * (n + 1) + k + 1 = (2 * n + k + 1) + 1 + 1 by omega, ranges_Check.l0, if_pos (by omega), if_pos (by omega), if_pos (by omega), rd103 l i h, List.drop_eq_getElem_cons h, chkR]
      have key : ∀ t : Bool, ranges_Check.j1 (2 * n + k + 1 + 1) last l (l.length : Int) (i : Int) t l[i].f0 l[i].f1 = if t = true then some 1 else if l[i].f0 > l[i].f1 then some 4 else if l[i].f0 ≤ wrap64 (last + 1) then some 4 else ranges_Check.l0 (2 * n + k + 1) l[i].f1 l (l.length : Int) (wrap64 ((i : Int) + 1)) := by
        intro t; rw [ranges_Check.j1]
      simp only [key]
      have hw : wrap64 (last + 1) = last + 1 := by unfold wrap64; omega
      rw [hw, show wrap64 ((i : Int) + 1) = ((i + 1 : Nat) : Int) by unfold wrap64; omega]
      generalize l[i].f0 = x at *
      generalize l[i].f1 = y at *
      by_cases c1 : x < 0
      · simp [c1]
      by_cases c2 : x > 1114111
      · simp [c1, c2]
      by_cases c3 : y < 0
      · simp [c1, c2, c3]
      by_cases c4 : y > 1114111
      · simp [c1, c2, c3, c4]
      by_cases c5 : x > y
      · simp [c1, c2, c3, c4, c5]
      by_cases c6 : x ≤ last + 1
      · simp [c1, c2, c3, c4, c5, c6]
      · rw [if_neg c1, if_neg c2, if_neg c3, if_neg (by simpa using c4), if_neg c5, if_neg c6, if_neg (by omega), if_neg (by omega)]
        exact chk_loop l hl n (i + 1) k y (by omega) (by omega) (by omega) (by omega)
    · rw [show 2 * (n + 1) + k + 1 = (2 * n + k + 2) + 1 by omega, ranges_Check.l0, if_neg (by omega), List.drop_eq_nil_of_le (by omega)]
      rfl
theorem ranges_calls (A : Option Addr) (c : Nat) (l : List S103) (w : World) (h : Kd.C k103 w A l.length l) (hc : l.length ≤ c) (hl : l.length ≤ 9223372036854775807) : Calls Try.prog 95 #[.slice A l.length c] w fun e w' => e = .returned (.int .i64 (chkR (-2) l)) ∧ Kp [] w w' := by
  refine (ranges_Check.calls (2 * l.length + 0 + 1) A c l _ w h hc ?_).mono fun e w' ⟨he, hb⟩ => ⟨he, Kp.ofBelow hb⟩
  have := chk_loop l hl l.length 0 0 (-2) (by omega) (by omega) (by omega) (by omega)
  rw [show ((0 : Nat) : Int) = 0 from rfl] at this
  exact this
def emptyS (s : ByteArray) : Bool := s.toList.isEmpty
def bareB (set : List S103) (num : Int) (nm : ByteArray) (mn mx : Int) (lz : Bool) (subs : List S25) : Bool :=
  decide (set.length = 0) && (decide (num = 0) && (emptyS nm && (decide (mn = 0) && (decide (mx = 0) && (!lz && decide (subs.length = 0))))))
theorem bare_ok (kd : Int) (set : List S103) (num : Int) (nm : ByteArray) (mn mx : Int) (lz : Bool) (subs : List S25) : tree_bare.f kd set num nm mn mx lz subs = some (bareB set num nm mn mx lz subs) := by
  unfold tree_bare.f bareB emptyS
  have e : (nm.toList = []) ↔ nm.toList.isEmpty = true := by simp
  by_cases c1 : set.length = 0
  · rw [if_pos (by omega)]
    by_cases c2 : num = 0
    · rw [if_pos c2]
      by_cases c3 : nm.toList = []
      · rw [if_pos c3]
        by_cases c4 : mn = 0
        · rw [if_pos c4]
          by_cases c5 : mx = 0
          · rw [if_pos c5]
            cases lz with
            | true => simp
            | false =>
              rw [if_neg (by decide)]
              simp only [c1, c2, c3, c4, c5, decide_true, Bool.true_and, List.isEmpty_nil, Bool.not_false]
              refine congrArg some ?_
              rw [Bool.eq_iff_iff, beq_iff_eq, decide_eq_true_eq]
              omega
          · rw [if_neg c5]; simp [c5]
        · rw [if_neg c4]; simp [c4]
      · rw [if_neg c3]; simp [c3]
    · rw [if_neg c2]; simp [c2]
  · rw [if_neg (by omega)]; simp [c1]
theorem bare_calls (kd : Int) (A1 : Option Addr) (c1 : Nat) (set : List S103) (num : Int) (nm : ByteArray) (mn mx : Int) (lz : Bool) (A7 : Option Addr) (c7 : Nat) (subs : List S25) (w : World) (h1 : Kd.C k103 w A1 set.length set) (l1 : set.length ≤ c1) (h7 : Kd.C k25 w A7 subs.length subs) (l7 : subs.length ≤ c7) :
    Calls Try.prog 96 #[.agg #[.int .i64 kd, .slice A1 set.length c1, .int .i64 num, .string nm, .int .i64 mn, .int .i64 mx, .bool lz, .slice A7 subs.length c7]] w fun e w' => e = .returned (.bool (bareB set num nm mn mx lz subs)) ∧ Kp [] w w' :=
  (tree_bare.calls kd A1 c1 set num nm mn mx lz A7 c7 subs _ w h1 l1 h7 l7 (bare_ok kd set num nm mn mx lz subs)).mono fun e w' ⟨he, hb⟩ => ⟨he, Kp.ofBelow hb⟩
def fitsN (kd : Int) (set : List S103) (num : Int) (nm : ByteArray) (mn mx : Int) (lz : Bool) (subs : List S25) : Bool :=
  if kd = 1 ∨ kd = 2 ∨ kd = 4 then bareB set num nm mn mx lz subs
  else if kd = 3 then !(decide (set.length = 0)) && (decide (chkR (-2) set = 0) && bareB [] num nm mn mx lz subs)
  else if kd = 5 then decide (1 ≤ num) && (decide (num ≤ 6) && bareB set 0 nm mn mx lz subs)
  else if kd = 6 then decide (1 ≤ num) && ((emptyS nm || nameB nm.data.toList) && (decide (subs.length = 1) && bareB set 0 ⟨#[]⟩ mn mx lz []))
  else if kd = 7 ∨ kd = 8 then decide (2 ≤ subs.length) && bareB set num nm mn mx lz []
  else if kd = 9 then decide (0 ≤ mn) && (decide (mn ≤ 1000) && ((decide (mx = -1) || decide (mn ≤ mx) && decide (mx ≤ 1000)) && (decide (subs.length = 1) && bareB set num nm 0 0 false [])))
  else false
end Go.Proofs.Ytojlhlepneefoaa
/- Package tree: the walk of fits. -/
namespace Go.Proofs.Ytojlhlepneefoaa
open Go.RowKit PAll Go.Proofs.YtojlhlepneefoaaW.PrintWords Go.Proofs.YtojlhlepneefoaaW.PrintLast Go.Proofs.YtojlhlepneefoaaW.PrintMore
open Go.Shelf
set_option linter.unusedVariables false
set_option linter.unusedSimpArgs false

theorem ltC {w : World} {A : Option Addr} {l : List S103} (h : Kd.C k103 w A l.length l) : l.length ≤ 9223372036854775807 := h.2.1
set_option maxRecDepth 100000 in
set_option maxHeartbeats 8000000 in
theorem fits_a (kd : Int) (A1 : Option Addr) (c1 : Nat) (set : List S103) (num : Int) (nm : ByteArray) (mn mx : Int) (lz : Bool) (A7 : Option Addr) (c7 : Nat) (subs : List S25) (w : World) (h1 : Kd.C k103 w A1 set.length set) (l1 : set.length ≤ c1) (h7 : Kd.C k25 w A7 subs.length subs) (l7 : subs.length ≤ c7)
    (hk : kd = 1 ∨ kd = 2 ∨ kd = 4) :
    Calls Try.prog 68 #[.agg #[.int .i64 kd, .slice A1 set.length c1, .int .i64 num, .string nm, .int .i64 mn, .int .i64 mx, .bool lz, .slice A7 subs.length c7]] w fun e w' => e = .returned (.bool (fitsN kd set num nm mn mx lz subs)) ∧ Kp [] w w' := by
  have hv : fitsN kd set num nm mn mx lz subs = bareB set num nm mn mx lz subs := by rw [fitsN, if_pos hk]
  have CB := Lib.hid (fun W g1 g7 => bare_calls kd A1 c1 set num nm mn mx lz A7 c7 subs W g1 l1 g7 l7)
  have kk := ((Kp.refl [] w).alloc (.cells #[.int .i64 kd, .slice A1 set.length c1, .int .i64 num, .string nm, .int .i64 mn, .int .i64 mx, .bool lz, .slice A7 subs.length c7] 25)).alloc (.cells #[.int .i64 kd, .slice A1 set.length c1, .int .i64 num, .string nm, .int .i64 mn, .int .i64 mx, .bool lz, .slice A7 subs.length c7] 25)
  have H1 := Lib.hid (Kd.C_below h1 kk.bel)
  have H7 := Lib.hid (Kd.C_below h7 kk.bel)
  rw [hv]
  replace hv := Lib.hid hv
  rcases hk with rfl | rfl | rfl
  all_goals
    go_enter Try.func68, Try.ntmps68
    go_wp2_with (go_at_call 96; refine (CB.out _ H1.out H7.out).mono ?_; rintro e w1 ⟨rfl, k1⟩; replace kk := kk.trans k1)
    go_ret
    exact ⟨rfl, kk⟩
theorem nil103 (w : World) : Kd.C k103 w none 0 [] := ⟨rfl, by omega, fun h => absurd h (by omega)⟩
theorem nil25 (w : World) : Kd.C k25 w none 0 [] := ⟨rfl, by omega, fun h => absurd h (by omega)⟩
set_option maxRecDepth 100000 in
set_option maxHeartbeats 8000000 in
theorem fits_3 (A1 : Option Addr) (c1 : Nat) (set : List S103) (num : Int) (nm : ByteArray) (mn mx : Int) (lz : Bool) (A7 : Option Addr) (c7 : Nat) (subs : List S25) (w : World) (h1 : Kd.C k103 w A1 set.length set) (l1 : set.length ≤ c1) (h7 : Kd.C k25 w A7 subs.length subs) (l7 : subs.length ≤ c7) (hl : set.length ≤ 9223372036854775807) :
    Calls Try.prog 68 #[.agg #[.int .i64 3, .slice A1 set.length c1, .int .i64 num, .string nm, .int .i64 mn, .int .i64 mx, .bool lz, .slice A7 subs.length c7]] w fun e w' => e = .returned (.bool (fitsN 3 set num nm mn mx lz subs)) ∧ Kp [] w w' := by
  have CB : Hid (∀ W, Kp [] w W → Calls Try.prog 96 #[.agg #[.int .i64 3, .slice none 0 0, .int .i64 num, .string nm, .int .i64 mn, .int .i64 mx, .bool lz, .slice A7 subs.length c7]] W fun e w' => e = .returned (.bool (bareB [] num nm mn mx lz subs)) ∧ Kp [] w w') := fun W k => (bare_calls 3 none 0 [] num nm mn mx lz A7 c7 subs W (nil103 W) (Nat.le_refl _) (Kd.C_below h7 k.bel) l7).mono fun e w' ⟨he, hk⟩ => ⟨he, k.trans hk⟩
  have RC : Hid (∀ W, Kp [] w W → Calls Try.prog 95 #[.slice A1 set.length c1] W fun e w' => e = .returned (.int .i64 (chkR (-2) set)) ∧ Kp [] W w' ∧ Kp [] w w') := fun W k => (ranges_calls A1 c1 set W (Kd.C_below h1 k.bel) l1 hl).mono fun e w' ⟨he, hk⟩ => ⟨he, hk, k.trans hk⟩
  have hv : fitsN 3 set num nm mn mx lz subs = (!(decide (set.length = 0)) && (decide (chkR (-2) set = 0) && bareB [] num nm mn mx lz subs)) := rfl
  rw [hv]
  by_cases hz : set.length = 0
  · have dz : ((set.length : Int) == 0) = true := by rw [beq_iff_eq]; omega
    rw [decide_eq_true hz]
    replace hz := Lib.hid hz
    go_enter Try.func68, Try.ntmps68
    go_wp2
    go_ret
    exact ⟨rfl, by first | exact kk | exact ((Kp.refl [] w).alloc _).alloc _ | exact (((Kp.refl [] w).alloc _).alloc _).setNew (by simp) _⟩
  · have dz : ((set.length : Int) == 0) = false := by rw [beq_eq_false_iff_ne]; omega
    rw [decide_eq_false hz]
    rcases chkR_cases (-2) set with hc | hc | hc
    all_goals
      rw [hc] at RC ⊢
      replace hc := Lib.hid hc
      go_enter Try.func68, Try.ntmps68
      go_wp2_with (first | (go_at_call 95; refine (RC.out _ (by first | exact ((Kp.refl [] w).alloc _).alloc _ | exact (((Kp.refl [] w).alloc _).alloc _).setNew (by simp) _ | exact ((((Kp.refl [] w).alloc _).alloc _).setNew (by simp) _).setNew (by simp) _ | exact (((((Kp.refl [] w).alloc _).alloc _).setNew (by simp) _).setNew (by simp) _).setNew (by simp) _)).mono ?_; rintro e w1 ⟨rfl, k1, kk⟩; have hb := kblk k1 (new_at _ _ (w.heap.size + 1) (by simp)); have y0 := cellB hb 0; have y1 := cellB hb 1; have y2 := cellB hb 2; have y3 := cellB hb 3; have y4 := cellB hb 4; have y5 := cellB hb 5; have y6 := cellB hb 6; have y7 := cellB hb 7; simp at y0 y1 y2 y3 y4 y5 y6 y7) | (go_at_call 96; refine (CB.out _ kk).mono ?_; rintro e w2 ⟨rfl, kk2⟩))
      go_ret
      first
        | exact ⟨by simp, kk2⟩
        | exact ⟨by simp, kk⟩
set_option maxRecDepth 100000 in
set_option maxHeartbeats 8000000 in
theorem fits_5 (A1 : Option Addr) (c1 : Nat) (set : List S103) (num : Int) (nm : ByteArray) (mn mx : Int) (lz : Bool) (A7 : Option Addr) (c7 : Nat) (subs : List S25) (w : World) (h1 : Kd.C k103 w A1 set.length set) (l1 : set.length ≤ c1) (h7 : Kd.C k25 w A7 subs.length subs) (l7 : subs.length ≤ c7) :
    Calls Try.prog 68 #[.agg #[.int .i64 5, .slice A1 set.length c1, .int .i64 num, .string nm, .int .i64 mn, .int .i64 mx, .bool lz, .slice A7 subs.length c7]] w fun e w' => e = .returned (.bool (fitsN 5 set num nm mn mx lz subs)) ∧ Kp [] w w' := by
  have CB : Hid (∀ W, Kp [] w W → Calls Try.prog 96 #[.agg #[.int .i64 5, .slice A1 set.length c1, .int .i64 0, .string nm, .int .i64 mn, .int .i64 mx, .bool lz, .slice A7 subs.length c7]] W fun e w' => e = .returned (.bool (bareB set 0 nm mn mx lz subs)) ∧ Kp [] w w') := fun W k => (bare_calls 5 A1 c1 set 0 nm mn mx lz A7 c7 subs W (Kd.C_below h1 k.bel) l1 (Kd.C_below h7 k.bel) l7).mono fun e w' ⟨he, hk⟩ => ⟨he, k.trans hk⟩
  have hv : fitsN 5 set num nm mn mx lz subs = (decide (1 ≤ num) && (decide (num ≤ 6) && bareB set 0 nm mn mx lz subs)) := rfl
  rw [hv]
  by_cases a1 : 1 ≤ num
  · have d1 : decide (num < 1) = false := decide_eq_false (by omega)
    rw [decide_eq_true a1]
    by_cases a2 : num ≤ 6
    · have d2 : decide (6 < num) = false := decide_eq_false (by omega)
      rw [decide_eq_true a2]
      go_enter Try.func68, Try.ntmps68
      go_wp2_with (go_at_call 96; refine (CB.out _ (by first | exact ((Kp.refl [] w).alloc _).alloc _ | exact (((Kp.refl [] w).alloc _).alloc _).setNew (by simp) _ | exact ((((Kp.refl [] w).alloc _).alloc _).setNew (by simp) _).setNew (by simp) _ | exact (((((Kp.refl [] w).alloc _).alloc _).setNew (by simp) _).setNew (by simp) _).setNew (by simp) _)).mono ?_; rintro e w2 ⟨rfl, kk⟩)
      go_ret
      exact ⟨by simp, kk⟩
    · have d2 : decide (6 < num) = true := decide_eq_true (by omega)
      rw [decide_eq_false a2]
      go_enter Try.func68, Try.ntmps68
      go_wp2
      go_ret
      exact ⟨by simp, by first | exact ((Kp.refl [] w).alloc _).alloc _ | exact (((Kp.refl [] w).alloc _).alloc _).setNew (by simp) _ | exact ((((Kp.refl [] w).alloc _).alloc _).setNew (by simp) _).setNew (by simp) _ | exact (((((Kp.refl [] w).alloc _).alloc _).setNew (by simp) _).setNew (by simp) _).setNew (by simp) _⟩
  · have d1 : decide (num < 1) = true := decide_eq_true (by omega)
    rw [decide_eq_false a1]
    go_enter Try.func68, Try.ntmps68
    go_wp2
    go_ret
    exact ⟨by simp, by first | exact ((Kp.refl [] w).alloc _).alloc _ | exact (((Kp.refl [] w).alloc _).alloc _).setNew (by simp) _ | exact ((((Kp.refl [] w).alloc _).alloc _).setNew (by simp) _).setNew (by simp) _ | exact (((((Kp.refl [] w).alloc _).alloc _).setNew (by simp) _).setNew (by simp) _).setNew (by simp) _⟩
set_option maxRecDepth 100000 in
set_option maxHeartbeats 8000000 in
theorem fits_78 (kd : Int) (hk : kd = 7 ∨ kd = 8) (A1 : Option Addr) (c1 : Nat) (set : List S103) (num : Int) (nm : ByteArray) (mn mx : Int) (lz : Bool) (A7 : Option Addr) (c7 : Nat) (subs : List S25) (w : World) (h1 : Kd.C k103 w A1 set.length set) (l1 : set.length ≤ c1) (h7 : Kd.C k25 w A7 subs.length subs) (l7 : subs.length ≤ c7) :
    Calls Try.prog 68 #[.agg #[.int .i64 kd, .slice A1 set.length c1, .int .i64 num, .string nm, .int .i64 mn, .int .i64 mx, .bool lz, .slice A7 subs.length c7]] w fun e w' => e = .returned (.bool (fitsN kd set num nm mn mx lz subs)) ∧ Kp [] w w' := by
  have CB : Hid (∀ W, Kp [] w W → Calls Try.prog 96 #[.agg #[.int .i64 kd, .slice A1 set.length c1, .int .i64 num, .string nm, .int .i64 mn, .int .i64 mx, .bool lz, .slice none 0 0]] W fun e w' => e = .returned (.bool (bareB set num nm mn mx lz [])) ∧ Kp [] w w') := fun W k => (bare_calls kd A1 c1 set num nm mn mx lz none 0 [] W (Kd.C_below h1 k.bel) l1 (nil25 W) (Nat.le_refl _)).mono fun e w' ⟨he, hk⟩ => ⟨he, k.trans hk⟩
  have hv : fitsN kd set num nm mn mx lz subs = (decide (2 ≤ subs.length) && bareB set num nm mn mx lz []) := by rcases hk with rfl | rfl <;> rfl
  rw [hv]
  replace hv := Lib.hid hv
  by_cases a1 : 2 ≤ subs.length
  · have d1 : decide ((subs.length : Int) < 2) = false := decide_eq_false (by omega)
    rw [decide_eq_true a1]
    rcases hk with rfl | rfl
    all_goals
      go_enter Try.func68, Try.ntmps68
      go_wp2_with (go_at_call 96; refine (CB.out _ (by first | exact ((Kp.refl [] w).alloc _).alloc _ | exact (((Kp.refl [] w).alloc _).alloc _).setNew (by simp) _ | exact ((((Kp.refl [] w).alloc _).alloc _).setNew (by simp) _).setNew (by simp) _ | exact (((((Kp.refl [] w).alloc _).alloc _).setNew (by simp) _).setNew (by simp) _).setNew (by simp) _)).mono ?_; rintro e w2 ⟨rfl, kk⟩)
      go_ret
      exact ⟨by simp, kk⟩
  · have d1 : decide ((subs.length : Int) < 2) = true := decide_eq_true (by omega)
    rw [decide_eq_false a1]
    rcases hk with rfl | rfl
    all_goals
      go_enter Try.func68, Try.ntmps68
      go_wp2
      go_ret
      exact ⟨by simp, by first | exact ((Kp.refl [] w).alloc _).alloc _ | exact (((Kp.refl [] w).alloc _).alloc _).setNew (by simp) _ | exact ((((Kp.refl [] w).alloc _).alloc _).setNew (by simp) _).setNew (by simp) _ | exact (((((Kp.refl [] w).alloc _).alloc _).setNew (by simp) _).setNew (by simp) _).setNew (by simp) _⟩
set_option maxRecDepth 100000 in
set_option maxHeartbeats 8000000 in
theorem fits_no (kd : Int) (hk : kd < 1 ∨ 9 < kd) (A1 : Option Addr) (c1 : Nat) (set : List S103) (num : Int) (nm : ByteArray) (mn mx : Int) (lz : Bool) (A7 : Option Addr) (c7 : Nat) (subs : List S25) (w : World) (h1 : Kd.C k103 w A1 set.length set) (l1 : set.length ≤ c1) (h7 : Kd.C k25 w A7 subs.length subs) (l7 : subs.length ≤ c7) :
    Calls Try.prog 68 #[.agg #[.int .i64 kd, .slice A1 set.length c1, .int .i64 num, .string nm, .int .i64 mn, .int .i64 mx, .bool lz, .slice A7 subs.length c7]] w fun e w' => e = .returned (.bool (fitsN kd set num nm mn mx lz subs)) ∧ Kp [] w w' := by
  have hv : fitsN kd set num nm mn mx lz subs = false := by
    unfold fitsN
    rw [if_neg (by omega), if_neg (by omega), if_neg (by omega), if_neg (by omega), if_neg (by omega), if_neg (by omega)]
  rw [hv]
  replace hv := Lib.hid hv
  have e1 : (kd == 1) = false := by rw [beq_eq_false_iff_ne]; omega
  have e2 : (kd == 2) = false := by rw [beq_eq_false_iff_ne]; omega
  have e3 : (kd == 3) = false := by rw [beq_eq_false_iff_ne]; omega
  have e4 : (kd == 4) = false := by rw [beq_eq_false_iff_ne]; omega
  have e5 : (kd == 5) = false := by rw [beq_eq_false_iff_ne]; omega
  have e6 : (kd == 6) = false := by rw [beq_eq_false_iff_ne]; omega
  have e7 : (kd == 7) = false := by rw [beq_eq_false_iff_ne]; omega
  have e8 : (kd == 8) = false := by rw [beq_eq_false_iff_ne]; omega
  have e9 : (kd == 9) = false := by rw [beq_eq_false_iff_ne]; omega
  clear hk
  go_enter Try.func68, Try.ntmps68
  go_wp2
  go_ret
  exact ⟨rfl, by first | exact ((Kp.refl [] w).alloc _).alloc _ | exact (((Kp.refl [] w).alloc _).alloc _).setNew (by simp) _ | exact ((((Kp.refl [] w).alloc _).alloc _).setNew (by simp) _).setNew (by simp) _ | exact (((((Kp.refl [] w).alloc _).alloc _).setNew (by simp) _).setNew (by simp) _).setNew (by simp) _⟩
set_option maxRecDepth 100000 in
set_option maxHeartbeats 8000000 in
theorem fits_6 (A1 : Option Addr) (c1 : Nat) (set : List S103) (num : Int) (nm : ByteArray) (mn mx : Int) (lz : Bool) (A7 : Option Addr) (c7 : Nat) (subs : List S25) (w : World) (h1 : Kd.C k103 w A1 set.length set) (l1 : set.length ≤ c1) (h7 : Kd.C k25 w A7 subs.length subs) (l7 : subs.length ≤ c7) :
    Calls Try.prog 68 #[.agg #[.int .i64 6, .slice A1 set.length c1, .int .i64 num, .string nm, .int .i64 mn, .int .i64 mx, .bool lz, .slice A7 subs.length c7]] w fun e w' => e = .returned (.bool (fitsN 6 set num nm mn mx lz subs)) ∧ Kp [] w w' := by
  have CB : Hid (∀ W, Kp [] w W → Calls Try.prog 96 #[.agg #[.int .i64 6, .slice A1 set.length c1, .int .i64 0, .string ⟨#[]⟩, .int .i64 mn, .int .i64 mx, .bool lz, .slice none 0 0]] W fun e w' => e = .returned (.bool (bareB set 0 ⟨#[]⟩ mn mx lz [])) ∧ Kp [] w w') := fun W k => (bare_calls 6 A1 c1 set 0 ⟨#[]⟩ mn mx lz none 0 [] W (Kd.C_below h1 k.bel) l1 (nil25 W) (Nat.le_refl _)).mono fun e w' ⟨he, hk⟩ => ⟨he, k.trans hk⟩
  have CN : Hid (∀ W, Kp [] w W → Calls Try.prog 34 #[.string nm] W fun e w' => e = .returned (.bool (nameB nm.data.toList)) ∧ Kp [] W w' ∧ Kp [] w w') := fun W k => (name_calls nm.data.toList W).mono fun e w' ⟨he, hk⟩ => ⟨he, hk, k.trans hk⟩
  have hv : fitsN 6 set num nm mn mx lz subs = (decide (1 ≤ num) && ((emptyS nm || nameB nm.data.toList) && (decide (subs.length = 1) && bareB set 0 ⟨#[]⟩ mn mx lz []))) := rfl
  rw [hv]
  by_cases a1 : 1 ≤ num
  rotate_left
  · have d1 : decide (num < 1) = true := decide_eq_true (by omega)
    rw [decide_eq_false a1]
    go_enter Try.func68, Try.ntmps68
    go_wp2
    go_ret
    exact ⟨by simp, by first | exact ((Kp.refl [] w).alloc _).alloc _ | exact (((Kp.refl [] w).alloc _).alloc _).setNew (by simp) _ | exact ((((Kp.refl [] w).alloc _).alloc _).setNew (by simp) _).setNew (by simp) _ | exact (((((Kp.refl [] w).alloc _).alloc _).setNew (by simp) _).setNew (by simp) _).setNew (by simp) _ | exact ((((((Kp.refl [] w).alloc _).alloc _).setNew (by simp) _).setNew (by simp) _).setNew (by simp) _).setNew (by simp) _⟩
  have d1 : decide (num < 1) = false := decide_eq_false (by omega)
  rw [decide_eq_true a1]
  have hsub : ((subs.length : Int) != 1) = !(decide (subs.length = 1)) := by
    by_cases q : subs.length = 1 <;> simp [q]
    omega
  by_cases hne : nm.toList = []
  · have hne2 : nm.toList.isEmpty = true := by rw [hne]; rfl
    have hem : emptyS nm = true := hne2
    rw [hem]
    by_cases q : subs.length = 1
    · have dq : ((subs.length : Int) != 1) = false := by rw [hsub]; simp [q]
      rw [decide_eq_true q]
      replace q := Lib.hid q
      replace hsub := Lib.hid hsub
      go_enter Try.func68, Try.ntmps68
      go_wp2_with (go_at_call 96; refine (CB.out _ (by first | exact ((Kp.refl [] w).alloc _).alloc _ | exact (((Kp.refl [] w).alloc _).alloc _).setNew (by simp) _ | exact ((((Kp.refl [] w).alloc _).alloc _).setNew (by simp) _).setNew (by simp) _ | exact (((((Kp.refl [] w).alloc _).alloc _).setNew (by simp) _).setNew (by simp) _).setNew (by simp) _ | exact ((((((Kp.refl [] w).alloc _).alloc _).setNew (by simp) _).setNew (by simp) _).setNew (by simp) _).setNew (by simp) _)).mono ?_; rintro e w2 ⟨rfl, kk⟩)
      go_ret
      exact ⟨by simp, kk⟩
    · have dq : ((subs.length : Int) != 1) = true := by rw [hsub]; simp [q]
      rw [decide_eq_false q]
      replace hsub := Lib.hid hsub
      go_enter Try.func68, Try.ntmps68
      go_wp2
      go_ret
      exact ⟨by simp, by first | exact ((Kp.refl [] w).alloc _).alloc _ | exact (((Kp.refl [] w).alloc _).alloc _).setNew (by simp) _ | exact ((((Kp.refl [] w).alloc _).alloc _).setNew (by simp) _).setNew (by simp) _ | exact (((((Kp.refl [] w).alloc _).alloc _).setNew (by simp) _).setNew (by simp) _).setNew (by simp) _ | exact ((((((Kp.refl [] w).alloc _).alloc _).setNew (by simp) _).setNew (by simp) _).setNew (by simp) _).setNew (by simp) _⟩
  · have hne2 : nm.toList.isEmpty = false := by
      cases h : nm.toList with
      | nil => exact absurd h hne
      | cons _ _ => rfl
    have hem : emptyS nm = false := hne2
    rw [hem]
    cases hn : nameB nm.data.toList with
    | false =>
      rw [hn] at CN
      replace hn := Lib.hid hn
      replace hsub := Lib.hid hsub
      go_enter Try.func68, Try.ntmps68
      go_wp2_with (go_at_call 34; refine (CN.out _ (by first | exact ((Kp.refl [] w).alloc _).alloc _ | exact (((Kp.refl [] w).alloc _).alloc _).setNew (by simp) _ | exact ((((Kp.refl [] w).alloc _).alloc _).setNew (by simp) _).setNew (by simp) _ | exact (((((Kp.refl [] w).alloc _).alloc _).setNew (by simp) _).setNew (by simp) _).setNew (by simp) _ | exact ((((((Kp.refl [] w).alloc _).alloc _).setNew (by simp) _).setNew (by simp) _).setNew (by simp) _).setNew (by simp) _)).mono ?_; rintro e w1 ⟨rfl, k1, kk⟩)
      go_ret
      exact ⟨by simp, kk⟩
    | true =>
      rw [hn] at CN
      replace hn := Lib.hid hn
      by_cases q : subs.length = 1
      · have dq : ((subs.length : Int) != 1) = false := by rw [hsub]; simp [q]
        rw [decide_eq_true q]
        replace q := Lib.hid q
        replace hsub := Lib.hid hsub
        go_enter Try.func68, Try.ntmps68
        go_wp2_with (first | (go_at_call 34; refine (CN.out _ (by first | exact ((Kp.refl [] w).alloc _).alloc _ | exact (((Kp.refl [] w).alloc _).alloc _).setNew (by simp) _ | exact ((((Kp.refl [] w).alloc _).alloc _).setNew (by simp) _).setNew (by simp) _ | exact (((((Kp.refl [] w).alloc _).alloc _).setNew (by simp) _).setNew (by simp) _).setNew (by simp) _ | exact ((((((Kp.refl [] w).alloc _).alloc _).setNew (by simp) _).setNew (by simp) _).setNew (by simp) _).setNew (by simp) _)).mono ?_; rintro e w1 ⟨rfl, k1, kk⟩; have hb := kblk k1 (new_at _ _ (w.heap.size + 1) (by simp)); have y0 := cellB hb 0; have y1 := cellB hb 1; have y2 := cellB hb 2; have y3 := cellB hb 3; have y4 := cellB hb 4; have y5 := cellB hb 5; have y6 := cellB hb 6; have y7 := cellB hb 7; simp at y0 y1 y2 y3 y4 y5 y6 y7; have hb2 := kblk k1 ((Below.heap_alloc _ _ _ (by simp)).trans (heap_alloc_new w _)); have x7 := cellB hb2 7; simp at x7) | (go_at_call 96; refine (CB.out _ kk).mono ?_; rintro e w2 ⟨rfl, kk2⟩))
        go_ret
        exact ⟨by simp, kk2⟩
      · have dq : ((subs.length : Int) != 1) = true := by rw [hsub]; simp [q]
        rw [decide_eq_false q]
        replace hsub := Lib.hid hsub
        go_enter Try.func68, Try.ntmps68
        go_wp2_with (first | (go_at_call 34; refine (CN.out _ (by first | exact ((Kp.refl [] w).alloc _).alloc _ | exact (((Kp.refl [] w).alloc _).alloc _).setNew (by simp) _ | exact ((((Kp.refl [] w).alloc _).alloc _).setNew (by simp) _).setNew (by simp) _ | exact (((((Kp.refl [] w).alloc _).alloc _).setNew (by simp) _).setNew (by simp) _).setNew (by simp) _ | exact ((((((Kp.refl [] w).alloc _).alloc _).setNew (by simp) _).setNew (by simp) _).setNew (by simp) _).setNew (by simp) _)).mono ?_; rintro e w1 ⟨rfl, k1, kk⟩; have hb := kblk k1 (new_at _ _ (w.heap.size + 1) (by simp)); have y0 := cellB hb 0; have y1 := cellB hb 1; have y2 := cellB hb 2; have y3 := cellB hb 3; have y4 := cellB hb 4; have y5 := cellB hb 5; have y6 := cellB hb 6; have y7 := cellB hb 7; simp at y0 y1 y2 y3 y4 y5 y6 y7; have hb2 := kblk k1 ((Below.heap_alloc _ _ _ (by simp)).trans (heap_alloc_new w _)); have x7 := cellB hb2 7; simp at x7))
        go_ret
        exact ⟨by simp, kk⟩
set_option maxRecDepth 100000 in
set_option maxHeartbeats 8000000 in
theorem fits_9 (A1 : Option Addr) (c1 : Nat) (set : List S103) (num : Int) (nm : ByteArray) (mn mx : Int) (lz : Bool) (A7 : Option Addr) (c7 : Nat) (subs : List S25) (w : World) (h1 : Kd.C k103 w A1 set.length set) (l1 : set.length ≤ c1) (h7 : Kd.C k25 w A7 subs.length subs) (l7 : subs.length ≤ c7) :
    Calls Try.prog 68 #[.agg #[.int .i64 9, .slice A1 set.length c1, .int .i64 num, .string nm, .int .i64 mn, .int .i64 mx, .bool lz, .slice A7 subs.length c7]] w fun e w' => e = .returned (.bool (fitsN 9 set num nm mn mx lz subs)) ∧ Kp [] w w' := by
  have CB : Hid (∀ W, Kp [] w W → Calls Try.prog 96 #[.agg #[.int .i64 9, .slice A1 set.length c1, .int .i64 num, .string nm, .int .i64 0, .int .i64 0, .bool false, .slice none 0 0]] W fun e w' => e = .returned (.bool (bareB set num nm 0 0 false [])) ∧ Kp [] w w') := fun W k => (bare_calls 9 A1 c1 set num nm 0 0 false none 0 [] W (Kd.C_below h1 k.bel) l1 (nil25 W) (Nat.le_refl _)).mono fun e w' ⟨he, hk⟩ => ⟨he, k.trans hk⟩
  have hv : fitsN 9 set num nm mn mx lz subs = (decide (0 ≤ mn) && (decide (mn ≤ 1000) && ((decide (mx = -1) || decide (mn ≤ mx) && decide (mx ≤ 1000)) && (decide (subs.length = 1) && bareB set num nm 0 0 false [])))) := rfl
  rw [hv]
  have hsub : ((subs.length : Int) != 1) = !(decide (subs.length = 1)) := by
    by_cases q : subs.length = 1 <;> simp [q]
    omega
  by_cases a1 : 0 ≤ mn
  rotate_left
  · have d1 : decide (mn < 0) = true := decide_eq_true (by omega)
    rw [decide_eq_false a1]
    replace hsub := Lib.hid hsub
    go_enter Try.func68, Try.ntmps68
    go_wp2
    go_ret
    exact ⟨by simp, by first | exact ((Kp.refl [] w).alloc _).alloc _ | exact (((Kp.refl [] w).alloc _).alloc _).setNew (by simp) _ | exact ((((Kp.refl [] w).alloc _).alloc _).setNew (by simp) _).setNew (by simp) _ | exact (((((Kp.refl [] w).alloc _).alloc _).setNew (by simp) _).setNew (by simp) _).setNew (by simp) _ | exact ((((((Kp.refl [] w).alloc _).alloc _).setNew (by simp) _).setNew (by simp) _).setNew (by simp) _).setNew (by simp) _⟩
  have d1 : decide (mn < 0) = false := decide_eq_false (by omega)
  rw [decide_eq_true a1]
  by_cases a2 : mn ≤ 1000
  rotate_left
  · have d2 : decide (1000 < mn) = true := decide_eq_true (by omega)
    rw [decide_eq_false a2]
    replace hsub := Lib.hid hsub
    go_enter Try.func68, Try.ntmps68
    go_wp2
    go_ret
    exact ⟨by simp, by first | exact ((Kp.refl [] w).alloc _).alloc _ | exact (((Kp.refl [] w).alloc _).alloc _).setNew (by simp) _ | exact ((((Kp.refl [] w).alloc _).alloc _).setNew (by simp) _).setNew (by simp) _ | exact (((((Kp.refl [] w).alloc _).alloc _).setNew (by simp) _).setNew (by simp) _).setNew (by simp) _ | exact ((((((Kp.refl [] w).alloc _).alloc _).setNew (by simp) _).setNew (by simp) _).setNew (by simp) _).setNew (by simp) _⟩
  have d2 : decide (1000 < mn) = false := decide_eq_false (by omega)
  rw [decide_eq_true a2]
  by_cases a3 : mx = -1
  · subst a3
    rw [decide_eq_true rfl]
    by_cases q : subs.length = 1
    · have dq : ((subs.length : Int) != 1) = false := by rw [hsub]; simp [q]
      rw [decide_eq_true q]
      replace q := Lib.hid q
      replace hsub := Lib.hid hsub
      go_enter Try.func68, Try.ntmps68
      go_wp2_with (go_at_call 96; refine (CB.out _ (by first | exact ((Kp.refl [] w).alloc _).alloc _ | exact (((Kp.refl [] w).alloc _).alloc _).setNew (by simp) _ | exact ((((Kp.refl [] w).alloc _).alloc _).setNew (by simp) _).setNew (by simp) _ | exact (((((Kp.refl [] w).alloc _).alloc _).setNew (by simp) _).setNew (by simp) _).setNew (by simp) _ | exact ((((((Kp.refl [] w).alloc _).alloc _).setNew (by simp) _).setNew (by simp) _).setNew (by simp) _).setNew (by simp) _)).mono ?_; rintro e w2 ⟨rfl, kk⟩)
      go_ret
      exact ⟨by simp, kk⟩
    · have dq : ((subs.length : Int) != 1) = true := by rw [hsub]; simp [q]
      rw [decide_eq_false q]
      replace hsub := Lib.hid hsub
      go_enter Try.func68, Try.ntmps68
      go_wp2
      go_ret
      exact ⟨by simp, by first | exact ((Kp.refl [] w).alloc _).alloc _ | exact (((Kp.refl [] w).alloc _).alloc _).setNew (by simp) _ | exact ((((Kp.refl [] w).alloc _).alloc _).setNew (by simp) _).setNew (by simp) _ | exact (((((Kp.refl [] w).alloc _).alloc _).setNew (by simp) _).setNew (by simp) _).setNew (by simp) _ | exact ((((((Kp.refl [] w).alloc _).alloc _).setNew (by simp) _).setNew (by simp) _).setNew (by simp) _).setNew (by simp) _⟩
  have d3 : (mx != -1) = true := by rw [bne_iff_ne]; exact a3
  rw [decide_eq_false a3]
  by_cases a4 : mn ≤ mx
  rotate_left
  · have d4 : decide (mx < mn) = true := decide_eq_true (by omega)
    rw [decide_eq_false a4]
    replace hsub := Lib.hid hsub
    go_enter Try.func68, Try.ntmps68
    go_wp2
    go_ret
    exact ⟨by simp, by first | exact ((Kp.refl [] w).alloc _).alloc _ | exact (((Kp.refl [] w).alloc _).alloc _).setNew (by simp) _ | exact ((((Kp.refl [] w).alloc _).alloc _).setNew (by simp) _).setNew (by simp) _ | exact (((((Kp.refl [] w).alloc _).alloc _).setNew (by simp) _).setNew (by simp) _).setNew (by simp) _ | exact ((((((Kp.refl [] w).alloc _).alloc _).setNew (by simp) _).setNew (by simp) _).setNew (by simp) _).setNew (by simp) _⟩
  have d4 : decide (mx < mn) = false := decide_eq_false (by omega)
  rw [decide_eq_true a4]
  by_cases a5 : mx ≤ 1000
  rotate_left
  · have d5 : decide (1000 < mx) = true := decide_eq_true (by omega)
    rw [decide_eq_false a5]
    replace hsub := Lib.hid hsub
    go_enter Try.func68, Try.ntmps68
    go_wp2
    go_ret
    exact ⟨by simp, by first | exact ((Kp.refl [] w).alloc _).alloc _ | exact (((Kp.refl [] w).alloc _).alloc _).setNew (by simp) _ | exact ((((Kp.refl [] w).alloc _).alloc _).setNew (by simp) _).setNew (by simp) _ | exact (((((Kp.refl [] w).alloc _).alloc _).setNew (by simp) _).setNew (by simp) _).setNew (by simp) _ | exact ((((((Kp.refl [] w).alloc _).alloc _).setNew (by simp) _).setNew (by simp) _).setNew (by simp) _).setNew (by simp) _⟩
  have d5 : decide (1000 < mx) = false := decide_eq_false (by omega)
  rw [decide_eq_true a5]
  by_cases q : subs.length = 1
  · have dq : ((subs.length : Int) != 1) = false := by rw [hsub]; simp [q]
    rw [decide_eq_true q]
    replace q := Lib.hid q
    replace hsub := Lib.hid hsub
    go_enter Try.func68, Try.ntmps68
    go_wp2_with (go_at_call 96; refine (CB.out _ (by first | exact ((Kp.refl [] w).alloc _).alloc _ | exact (((Kp.refl [] w).alloc _).alloc _).setNew (by simp) _ | exact ((((Kp.refl [] w).alloc _).alloc _).setNew (by simp) _).setNew (by simp) _ | exact (((((Kp.refl [] w).alloc _).alloc _).setNew (by simp) _).setNew (by simp) _).setNew (by simp) _ | exact ((((((Kp.refl [] w).alloc _).alloc _).setNew (by simp) _).setNew (by simp) _).setNew (by simp) _).setNew (by simp) _)).mono ?_; rintro e w2 ⟨rfl, kk⟩)
    go_ret
    exact ⟨by simp, kk⟩
  · have dq : ((subs.length : Int) != 1) = true := by rw [hsub]; simp [q]
    rw [decide_eq_false q]
    replace hsub := Lib.hid hsub
    go_enter Try.func68, Try.ntmps68
    go_wp2
    go_ret
    exact ⟨by simp, by first | exact ((Kp.refl [] w).alloc _).alloc _ | exact (((Kp.refl [] w).alloc _).alloc _).setNew (by simp) _ | exact ((((Kp.refl [] w).alloc _).alloc _).setNew (by simp) _).setNew (by simp) _ | exact (((((Kp.refl [] w).alloc _).alloc _).setNew (by simp) _).setNew (by simp) _).setNew (by simp) _ | exact ((((((Kp.refl [] w).alloc _).alloc _).setNew (by simp) _).setNew (by simp) _).setNew (by simp) _).setNew (by simp) _⟩
def fitsV (n : S25) : Bool := fitsN n.f0 n.f1 n.f2 n.f3 n.f4 n.f5 n.f6 n.f7
theorem fits_calls (v : NV) (w : World) (h : v.ok w) (hl : v.n.f1.length ≤ 9223372036854775807) : Calls Try.prog 68 #[v.val] w fun e w' => e = .returned (.bool (fitsV v.n)) ∧ Kp [] w w' := by
  obtain ⟨⟨kd, set, num, nm, mn, mx, lz, subs⟩, A1, c1, A7, c7⟩ := v
  obtain ⟨l1, h1, l7, h7⟩ := h
  show Calls Try.prog 68 #[.agg #[.int .i64 kd, .slice A1 set.length c1, .int .i64 num, .string nm, .int .i64 mn, .int .i64 mx, .bool lz, .slice A7 subs.length c7]] w fun e w' => e = .returned (.bool (fitsN kd set num nm mn mx lz subs)) ∧ Kp [] w w'
  by_cases a : kd < 1 ∨ 9 < kd
  · exact fits_no kd a A1 c1 set num nm mn mx lz A7 c7 subs w h1 l1 h7 l7
  by_cases b : kd = 1 ∨ kd = 2 ∨ kd = 4
  · exact fits_a kd A1 c1 set num nm mn mx lz A7 c7 subs w h1 l1 h7 l7 b
  by_cases c : kd = 7 ∨ kd = 8
  · exact fits_78 kd c A1 c1 set num nm mn mx lz A7 c7 subs w h1 l1 h7 l7
  obtain rfl | rfl | rfl | rfl : kd = 3 ∨ kd = 5 ∨ kd = 6 ∨ kd = 9 := by omega
  · exact fits_3 A1 c1 set num nm mn mx lz A7 c7 subs w h1 l1 h7 l7 hl
  · exact fits_5 A1 c1 set num nm mn mx lz A7 c7 subs w h1 l1 h7 l7
  · exact fits_6 A1 c1 set num nm mn mx lz A7 c7 subs w h1 l1 h7 l7
  · exact fits_9 A1 c1 set num nm mn mx lz A7 c7 subs w h1 l1 h7 l7
end Go.Proofs.Ytojlhlepneefoaa
/- Package tree: slices.ContainsFunc over nodes; the walk of nullable. -/
namespace Go.Proofs.Ytojlhlepneefoaa
open Go.RowKit PAll Go.Proofs.YtojlhlepneefoaaW.PrintWords Go.Proofs.YtojlhlepneefoaaW.PrintLast Go.Proofs.YtojlhlepneefoaaW.PrintMore
open Go.Shelf
set_option linter.unusedVariables false
set_option linter.unusedSimpArgs false

abbrev NVokF (w : World) := { v : NV // v.ok w }
theorem zero_ok (w : World) : (⟨z25, none, 0, none, 0⟩ : NV).ok w := ⟨Nat.le_refl _, ⟨rfl, by decide, fun h => absurd h (by decide)⟩, Nat.le_refl _, ⟨rfl, by decide, fun h => absurd h (by decide)⟩⟩
theorem index_nil (A : Option Addr) (c : Nat) (fv : Value) (w : World) : Calls Try.prog 132 #[.slice A 0 c, fv] w fun e w' => e = .returned (.int .i64 (-1)) ∧ Kp [] w w' := by
  go_enter Try.func132, Try.ntmps132
  go_wp2
  go_loopg [8] 1 (fun gk v8 wr => v8 = .int .i64 0 ∧ Kp [] w wr)
  case atStart => exact ⟨rfl, Kp.refl _ _⟩
  case round =>
    obtain ⟨rfl, hk⟩ := hrel
    go_wp2
    go_ret
    exact ⟨rfl, hk⟩
theorem contains_nil (A : Option Addr) (c : Nat) (fv : Value) (w : World) : Calls Try.prog 111 #[.slice A 0 c, fv] w fun e w' => e = .returned (.bool false) ∧ Kp [] w w' := by
  go_enter Try.func111, Try.ntmps111
  go_wp2_with (go_at_call 132; refine (index_nil A c fv _).mono ?_; rintro e w1 ⟨rfl, k1⟩)
  go_ret
  exact ⟨rfl, k1⟩
theorem contains_calls (A : Option Addr) (c : Nat) (l : List S25) (w : World) (h : Kd.C k25 w A l.length l) (g : Nat) (lb : Array Value) (p : S25 → Bool) (eg : ∀ args w, (callFunc g args).run Try.prog w = .ok (.enter g args) w)
    (hp : ∀ (v : NV) (W : World), v.ok w → Kp [] w W → Calls Try.prog g (#[v.val] ++ lb) W fun e w' => e = .returned (.bool (p v.n)) ∧ Kp [] W w') :
    Calls Try.prog 111 #[.slice A l.length c, .func (.func g) #[] lb] w fun e w' => e = .returned (.bool (l.any p)) ∧ Kp [] w w' := by
  by_cases hn : 0 < l.length
  · obtain ⟨b, o, rfl, hlt, vs, hvs, hok, hc⟩ := rowOpen h hn
    have hlen : vs.length = l.length := by rw [← hvs]; simp
    have inh : Inhabited (NVokF w) := ⟨⟨_, zero_ok w⟩⟩
    have hml : l.length ≤ 9223372036854775807 := h.2.1
    refine (AnyQ.slices_ContainsFunc (α := NVokF w) Try.cfNode 8 (by intro w; kernel_rfl) (by intro w; kernel_rfl) (fun x => x.1.cells) (fun _ => rfl) (fun x => p x.1.n) g lb eg b o l.length c (vs.attach.map (fun x => ⟨x.1, hok x.1 x.2⟩)) w ?_ (by simp [hlen]) hml hlt ?_).mono ?_
    · intro W x hW
      refine (hp x.1 W x.2 (Kp.ofBelow hW)).mono ?_
      rintro e w' ⟨rfl, k⟩
      exact ⟨rfl, hW.trans (k.below hW.size (by simp))⟩
    · intro j hj i u hu
      have hj' : j < vs.length := by simpa using hj
      have he : ((vs.attach.map (fun x => (⟨x.1, hok x.1 x.2⟩ : NVokF w)))[j]!).1 = vs[j] := by
        rw [getElem!_pos _ j hj]
        simp
      rw [he] at hu
      exact hc j hj' i u hu
    · rintro e w' ⟨rfl, hb⟩
      refine ⟨?_, Kp.ofBelow hb⟩
      have : ((vs.attach.map (fun x => (⟨x.1, hok x.1 x.2⟩ : NVokF w))).take l.length).any (fun x => p x.1.n) = l.any p := by
        rw [List.take_of_length_le (by simp [hlen]), ← hvs, List.any_map, List.any_map]
        conv => rhs; rw [← List.attach_map_subtype_val vs, List.any_map]
        rfl
      rw [this]
  · obtain rfl : l = [] := List.eq_nil_of_length_eq_zero (by omega)
    exact contains_nil A c _ w
def nullP : Nat → S25 → Bool
  | 0, _ => false
  | m + 1, n => if n.f0 = 1 ∨ n.f0 = 5 then true else if n.f0 = 6 ∨ n.f0 = 7 then n.f7.all (nullP m) else if n.f0 = 8 then n.f7.any (nullP m) else if n.f0 = 9 then (decide (n.f4 = 0) || n.f7.all (nullP m)) else false
theorem any_not (p : S25 → Bool) (l : List S25) : (l.any fun x => !p x) = !(l.all p) := by
  induction l with
  | nil => rfl
  | cons c l ih => rw [List.any_cons, List.all_cons, ih]; cases p c <;> simp
/-- The closure 'may'. -/
theorem may_calls (m : Nat) (ih : ∀ (v : NV) (w : World), v.ok w → Calls Try.prog 82 #[v.val, .int .i64 (m : Int)] w fun e w' => e = .returned (.bool (nullP m v.n)) ∧ Kp [] w w') (hm : m < 1000000) (B : Nat) (v : NV) (W : World) (hv : v.ok W) (hB : W.heap[B]? = some (.cells #[.int .i64 ((m + 1 : Nat) : Int)] 3 (0, 0))) :
    Calls Try.prog 110 #[v.val, .pointer (some ⟨B, 0, none⟩)] W fun e w' => e = .returned (.bool (nullP m v.n)) ∧ Kp [] W w' := by
  have kk := (Kp.refl [] W).alloc (.cells v.cells.toArray 25)
  have C := ih v _ (hv.kp kk)
  have hlt := ltB hB
  have y0 : W.cell? ⟨B, 0, none⟩ = some (.int .i64 ((m : Int) + 1)) := (cellB hB 0).trans rfl
  obtain ⟨⟨kd, set, num, nm, mn, mx, lz, subs⟩, A1, c1, A7, c7⟩ := v
  dsimp only [NV.val, NV.cells] at C kk ⊢
  replace C := Lib.hid C
  go_enter Try.func110, Try.ntmps110
  go_wp2_with (go_at_call 82; refine C.out.mono ?_; rintro e w1 ⟨rfl, k1⟩)
  go_ret
  exact ⟨rfl, kk.trans k1⟩
/-- 'not may'. -/
theorem not_calls (m : Nat) (ih : ∀ (v : NV) (w : World), v.ok w → Calls Try.prog 82 #[v.val, .int .i64 (m : Int)] w fun e w' => e = .returned (.bool (nullP m v.n)) ∧ Kp [] w w') (hm : m < 1000000) (g : Nat) (hg : g = 112 ∨ g = 113) (B D : Nat) (v : NV) (W : World) (hv : v.ok W) (hB : W.heap[B]? = some (.cells #[.int .i64 ((m + 1 : Nat) : Int)] 3 (0, 0))) (hD : W.heap[D]? = some (.cells #[.func (.func 110) #[] #[.pointer (some ⟨B, 0, none⟩)]] 36 (0, 0))) :
    Calls Try.prog g #[v.val, .pointer (some ⟨D, 0, none⟩)] W fun e w' => e = .returned (.bool (!nullP m v.n)) ∧ Kp [] W w' := by
  have kk := (Kp.refl [] W).alloc (.cells v.cells.toArray 25)
  have C := may_calls m ih hm B v _ (hv.kp kk) (kblk kk hB)
  have hlt := ltB hD
  have y0 : W.cell? ⟨D, 0, none⟩ = some (.func (.func 110) #[] #[.pointer (some ⟨B, 0, none⟩)]) := (cellB hD 0).trans rfl
  obtain ⟨⟨kd, set, num, nm, mn, mx, lz, subs⟩, A1, c1, A7, c7⟩ := v
  dsimp only [NV.val, NV.cells] at C kk ⊢
  replace C := Lib.hid C
  rcases hg with rfl | rfl
  · go_enter Try.func112, Try.ntmps112
    go_wp2_with (go_at_call 110; refine C.out.mono ?_; rintro e w1 ⟨rfl, k1⟩)
    go_ret
    exact ⟨rfl, kk.trans k1⟩
  · go_enter Try.func113, Try.ntmps113
    go_wp2_with (go_at_call 110; refine C.out.mono ?_; rintro e w1 ⟨rfl, k1⟩)
    go_ret
    exact ⟨rfl, kk.trans k1⟩
set_option maxRecDepth 100000 in
set_option maxHeartbeats 8000000 in
theorem null_calls : ∀ (m : Nat), m ≤ 1000 → ∀ (v : NV) (w : World), v.ok w → Calls Try.prog 82 #[v.val, .int .i64 (m : Int)] w fun e w' => e = .returned (.bool (nullP m v.n)) ∧ Kp [] w w'
  | 0, _, v, w, hv => by
    obtain ⟨⟨kd, set, num, nm, mn, mx, lz, subs⟩, A1, c1, A7, c7⟩ := v
    dsimp only [NV.val, NV.cells]
    go_enter Try.func82, Try.ntmps82
    go_wp2
    go_ret
    exact ⟨rfl, ((Kp.refl [] w).alloc _).alloc _⟩
  | m + 1, hm, v, w, hv => by
    have ih := null_calls m (by omega)
    obtain ⟨⟨kd, set, num, nm, mn, mx, lz, subs⟩, A1, c1, A7, c7⟩ := v
    obtain ⟨l1, h1, l7, h7⟩ := hv
    dsimp only [NV.val, NV.cells] at h7 l7 ⊢
    obtain ⟨W0, hW0⟩ : ∃ W0, W0 = ((w.alloc (.cells #[.int .i64 kd, .slice A1 set.length c1, .int .i64 num, .string nm, .int .i64 mn, .int .i64 mx, .bool lz, .slice A7 subs.length c7] 25)).alloc (.cells #[.int .i64 ((m + 1 : Nat) : Int)] 3)).alloc (.cells #[.func (.func 110) #[] #[.pointer (some ⟨w.heap.size + 1, 0, none⟩)]] 36) := ⟨_, rfl⟩
    have kk : Kp [] w W0 := by rw [hW0]; exact (((Kp.refl [] w).alloc _).alloc _).alloc _
    have hB : W0.heap[w.heap.size + 1]? = some (.cells #[.int .i64 ((m + 1 : Nat) : Int)] 3 (0, 0)) := by
      rw [hW0]; exact (Below.heap_alloc _ _ _ (by simp)).trans (new_at _ _ _ (by simp))
    have hD : W0.heap[w.heap.size + 1 + 1]? = some (.cells #[.func (.func 110) #[] #[.pointer (some ⟨w.heap.size + 1, 0, none⟩)]] 36 (0, 0)) := by
      rw [hW0]; exact new_at _ _ _ (by simp)
    have CA : Calls Try.prog 111 #[.slice A7 subs.length c7, .func (.func 112) #[] #[.pointer (some ⟨w.heap.size + 1 + 1, 0, none⟩)]] W0 fun e w' => e = .returned (.bool (!(subs.all (nullP m)))) ∧ Kp [] W0 w' := by
      have := contains_calls A7 c7 subs W0 (Kd.C_below h7 kk.bel) 112 #[.pointer (some ⟨w.heap.size + 1 + 1, 0, none⟩)] (fun x => !nullP m x) (fun args w => by go_simp) (fun v W hv k => not_calls m ih (by omega) 112 (Or.inl rfl) _ _ v W (hv.kp k) (kblk k hB) (kblk k hD))
      rw [any_not] at this
      exact this
    have CA2 : Calls Try.prog 111 #[.slice A7 subs.length c7, .func (.func 113) #[] #[.pointer (some ⟨w.heap.size + 1 + 1, 0, none⟩)]] W0 fun e w' => e = .returned (.bool (!(subs.all (nullP m)))) ∧ Kp [] W0 w' := by
      have := contains_calls A7 c7 subs W0 (Kd.C_below h7 kk.bel) 113 #[.pointer (some ⟨w.heap.size + 1 + 1, 0, none⟩)] (fun x => !nullP m x) (fun args w => by go_simp) (fun v W hv k => not_calls m ih (by omega) 113 (Or.inr rfl) _ _ v W (hv.kp k) (kblk k hB) (kblk k hD))
      rw [any_not] at this
      exact this
    have CO : Calls Try.prog 111 #[.slice A7 subs.length c7, .func (.func 110) #[] #[.pointer (some ⟨w.heap.size + 1, 0, none⟩)]] W0 fun e w' => e = .returned (.bool (subs.any (nullP m))) ∧ Kp [] W0 w' :=
      contains_calls A7 c7 subs W0 (Kd.C_below h7 kk.bel) 110 #[.pointer (some ⟨w.heap.size + 1, 0, none⟩)] (nullP m) (fun args w => by go_simp) (fun v W hv k => may_calls m ih (by omega) _ v W (hv.kp k) (kblk k hB))
    have hv : nullP (m + 1) ⟨kd, set, num, nm, mn, mx, lz, subs⟩ = if kd = 1 ∨ kd = 5 then true else if kd = 6 ∨ kd = 7 then subs.all (nullP m) else if kd = 8 then subs.any (nullP m) else if kd = 9 then (decide (mn = 0) || subs.all (nullP m)) else false := rfl
    have em : ((m + 1 : Nat) : Int) = (m : Int) + 1 := rfl
    rw [em] at hW0 ⊢
    clear ih hB hD
    rw [hW0] at CA CA2 CO kk
    rw [hv]
    clear hv em
    replace CA := Lib.hid CA
    replace CA2 := Lib.hid CA2
    replace CO := Lib.hid CO
    replace hW0 := Lib.hid hW0
    have dm : decide ((m : Int) + 1 < 1) = false := decide_eq_false (by omega)
    by_cases q1 : kd = 1 ∨ kd = 5
    · rw [if_pos q1]
      rcases q1 with rfl | rfl
      all_goals
        go_enter Try.func82, Try.ntmps82
        go_wp2
        go_ret
        exact ⟨rfl, kk⟩
    rw [if_neg q1]
    by_cases q2 : kd = 6 ∨ kd = 7
    · rw [if_pos q2]
      rcases q2 with rfl | rfl
      all_goals
        clear q1
        go_enter Try.func82, Try.ntmps82
        go_wp2_with (go_at_call 111; refine CA.out.mono ?_; rintro e w1 ⟨rfl, k1⟩)
        go_ret
        exact ⟨by simp, kk.trans k1⟩
    rw [if_neg q2]
    by_cases q3 : kd = 8
    · subst q3
      clear q1 q2
      rw [if_pos rfl]
      go_enter Try.func82, Try.ntmps82
      go_wp2_with (go_at_call 111; refine CO.out.mono ?_; rintro e w1 ⟨rfl, k1⟩)
      go_ret
      exact ⟨rfl, kk.trans k1⟩
    rw [if_neg q3]
    by_cases q4 : kd = 9
    · subst q4
      clear q1 q2 q3
      rw [if_pos rfl]
      by_cases q5 : mn = 0
      · subst q5
        go_enter Try.func82, Try.ntmps82
        go_wp2
        go_ret
        exact ⟨rfl, kk⟩
      · have d5 : (mn == 0) = false := by rw [beq_eq_false_iff_ne]; exact q5
        rw [decide_eq_false q5, Bool.false_or]
        clear q5
        go_enter Try.func82, Try.ntmps82
        go_wp2_with (go_at_call 111; refine CA2.out.mono ?_; rintro e w1 ⟨rfl, k1⟩)
        go_ret
        exact ⟨by simp, kk.trans k1⟩
    rw [if_neg q4]
    have e1 : (kd == 1) = false := by rw [beq_eq_false_iff_ne]; omega
    have e5 : (kd == 5) = false := by rw [beq_eq_false_iff_ne]; omega
    have e6 : (kd == 6) = false := by rw [beq_eq_false_iff_ne]; omega
    have e7 : (kd == 7) = false := by rw [beq_eq_false_iff_ne]; omega
    have e8 : (kd == 8) = false := by rw [beq_eq_false_iff_ne]; omega
    have e9 : (kd == 9) = false := by rw [beq_eq_false_iff_ne]; omega
    clear q1 q2 q3 q4
    go_enter Try.func82, Try.ntmps82
    go_wp2
    go_ret
    exact ⟨rfl, kk⟩
theorem nullable_calls (v : NV) (w : World) (hv : v.ok w) : Calls Try.prog 40 #[v.val] w fun e w' => e = .returned (.bool (nullP 1000 v.n)) ∧ Kp [] w w' := by
  have kk := (Kp.refl [] w).alloc (.cells v.cells.toArray 25)
  have C := null_calls 1000 (Nat.le_refl _) v _ (hv.kp kk)
  obtain ⟨⟨kd, set, num, nm, mn, mx, lz, subs⟩, A1, c1, A7, c7⟩ := v
  dsimp only [NV.val, NV.cells] at C kk ⊢
  replace C := Lib.hid C
  go_enter Try.func40, Try.ntmps40
  go_wp2_with (go_at_call 82; refine C.out.mono ?_; rintro e w1 ⟨rfl, k1⟩)
  go_ret
  exact ⟨rfl, kk.trans k1⟩
end Go.Proofs.Ytojlhlepneefoaa
/- Package tree: the walk of walk and of Walk, an iterator over all nodes. -/
namespace Go.Proofs.Ytojlhlepneefoaa
open Go.RowKit PAll Go.Proofs.YtojlhlepneefoaaW.PrintWords Go.Proofs.YtojlhlepneefoaaW.PrintLast Go.Proofs.YtojlhlepneefoaaW.PrintMore
open Go.Shelf
set_option linter.unusedVariables false
set_option linter.unusedSimpArgs false

attribute [local go_sem] Oper.semAt_some
theorem room_of_none {F : Fence} (hd : F.depth = none) (k : Nat) : F.room k := fun d h => by rw [hd] at h; cases h
theorem RoundIn.anyDepth {F : Fence} (hd : F.depth = none) {m m' : Nat} {P : Program} {l : Nat} {f : FuncId} {tmps : Array Value} {assign body : Code} {w : World} {R : Ending → World → Prop}
    (h : RoundIn F m P l f tmps assign body w R) : RoundIn F m' P l f tmps assign body w R := ⟨h.1, fun c cs _ => h.2 c cs (room_of_none hd _)⟩
theorem YieldAt.anyDepth {F : Fence} (hd : F.depth = none) {m : Nat} (m' : Nat) {P : Program} {l : Nat} {args : Array Value} {W : World} {R : Ending → World → Prop} (h : YieldAt F m P l args W R) : YieldAt F m' P l args W R := by
  obtain ⟨fn, tmps, assign, body, hy, hR⟩ := h
  exact ⟨fn, tmps, assign, body, hy, RoundIn.anyDepth hd hR⟩
abbrev NVok (w : World) := { v : NV // v.ok w }
/-- One step of a walk: how deep, and the node. -/
abbrev Step (w : World) := Int × NVok w
def Step.vals {w : World} (x : Step w) : Array Value := #[.int .i64 x.1, x.2.1.val]
def proj {w : World} (xs : List (Step w)) : List (Int × S25) := xs.map fun x => (x.1, x.2.1.n)
def stepsL : Nat → Int → S25 → List (Int × S25)
  | 0, _, _ => []
  | m + 1, d, n => (d, n) :: n.f7.flatMap (stepsL m (d + 1))
theorem grown_none_alloc (W : World) (o : Obj) : W.grownBy (W.alloc o) none := World.grownBy_alloc W o none
/-- What a round keeps: what lay below B, and every node's box. -/
def Kn (B : Nat) (W W' : World) : Prop := Below B W W' ∧ ∀ (k : Nat) (cs : Array Value), W.heap[k]? = some (Obj.cells cs 25 (0, 0)) → W'.heap[k]? = some (Obj.cells cs 25 (0, 0))
theorem Kn.refl (B : Nat) (W : World) : Kn B W W := ⟨Below.refl _ _, fun _ _ h => h⟩
theorem Kn.trans {B : Nat} {a b c : World} (h : Kn B a b) (k : Kn B b c) : Kn B a c := ⟨h.1.trans k.1, fun i cs hi => k.2 i cs (h.2 i cs hi)⟩
theorem Kn.ofKp {B : Nat} {W W' : World} (k : Kp [] W W') (hB : B ≤ W.heap.size) : Kn B W W' := ⟨k.below hB (by simp), fun i cs hi => kblk k hi⟩
theorem Kn.alloc {B : Nat} {W W' : World} (h : Kn B W W') (hB : B ≤ W'.heap.size) (o : Obj) : Kn B W (W'.alloc o) := h.trans (Kn.ofKp ((Kp.refl [] W').alloc o) hB)
set_option maxRecDepth 100000 in
set_option maxHeartbeats 4000000 in
theorem walk_in (l N B : Nat) (W0 : World) (J Jx : List (Step W0) → World → Prop) (hJ : AbidesFrom B J)
    (hY : ∀ m pre (x : Step W0) W, J pre W → pre.length < N → YieldAt Fence.wide m Try.prog l x.vals W fun e W' =>
      (e = .returned (.bool true) ∧ J (pre ++ [x]) W' ∧ Kn W0.heap.size W W') ∨ (e = .returned (.bool false) ∧ Jx (pre ++ [x]) W')) :
    ∀ (m : Nat) (d : Nat), d + m = 1001 → 1 ≤ d → ∀ (n : Nat) (v : NVok W0) (pre : List (Step W0)) (W : World), Below W0.heap.size W0 W → J pre W → pre.length + (stepsL m d v.1.n).length ≤ N →
      CallsIn Fence.wide n Try.prog 84 #[v.1.val, .int .i64 (d : Int), .func (.yield l) #[] #[]] W fun e W' =>
        (e = .returned (.bool true) ∧ (∃ xs, proj xs = stepsL m d v.1.n ∧ J (pre ++ xs) W') ∧ Kn W0.heap.size W W') ∨ (e = .returned (.bool false) ∧ ∃ q, proj q <+: stepsL m d v.1.n ∧ Jx (pre ++ q) W') := by
  intro m
  induction m with
  | zero =>
    intro d hd hd1 n v pre W hb hJ0 hN
    obtain ⟨⟨⟨kd, set, num, nm, mn, mx, lz, subs⟩, A1, c1, A7, c7⟩, hv⟩ := v
    dsimp only [NV.val, NV.cells]
    have dd : decide ((1000 : Int) < (d : Int)) = true := decide_eq_true (by omega)
    have hJ1 := hJ _ _ _ none hJ0 (grown_none_alloc W (.cells #[.int .i64 kd, .slice A1 set.length c1, .int .i64 num, .string nm, .int .i64 mn, .int .i64 mx, .bool lz, .slice A7 subs.length c7] 25)) (fun r e => by cases e)
    refine callsIn_of_wp Try.func84 rfl trivial ?_ rfl
    simp only [Try.ntmps84, List.size_toArray, List.length_cons, List.length_nil, Nat.reduceAdd, Nat.reduceSub, Array.replicate_succ, Array.replicate_zero, List.push_toArray, List.append_toArray, List.nil_append, List.cons_append]
    gi_wp2
    go_ret
    exact .inl ⟨rfl, ⟨[], rfl, by simpa using hJ1⟩, (Kn.refl _ _).alloc hb.size _⟩
  | succ m ih =>
    intro d hd hd1 n v pre W hb hJ0 hN
    have hv0 := v.2
    have hdd : ∀ k : Nat, (Fence.wide.depth.isSome = true → 1 ≤ k) := fun k h => by cases h
    obtain ⟨W1, hW1⟩ : ∃ W1, W1 = W.alloc (.cells v.1.cells.toArray 25) := ⟨_, rfl⟩
    have hJ1 : J pre W1 := by rw [hW1]; exact hJ _ _ _ none hJ0 (grown_none_alloc W _) (fun r e => by cases e)
    have k1 : Kn W0.heap.size W W1 := by rw [hW1]; exact (Kn.refl _ _).alloc hb.size _
    have hbox : W1.heap[W.heap.size]? = some (.cells v.1.cells.toArray 25 (0, 0)) := by rw [hW1]; exact heap_alloc_new W _
    have hlen : pre.length < N := by simp only [stepsL, List.length_cons] at hN; omega
    obtain ⟨fn, tmps, assign, body, hy, hR⟩ := hY (n - 1) pre ((d : Int), v) W1 hJ1 hlen
    dsimp only [Step.vals] at hy
    have e1 : stepsL (m + 1) (d : Int) v.1.n = ((d : Int), v.1.n) :: v.1.n.f7.flatMap (stepsL m ((d : Int) + 1)) := rfl
    rw [e1] at hN ⊢
    have dd : decide ((1000 : Int) < (d : Int)) = false := decide_eq_false (by omega)
    obtain ⟨⟨⟨kd, set, num, nm, mn, mx, lz, subs⟩, A1, c1, A7, c7⟩, hv⟩ := v
    dsimp only [NV.val, NV.cells] at hy hbox hN hW1 ⊢
    by_cases h0 : 0 < subs.length
    rotate_left
    · obtain rfl : subs = [] := List.eq_nil_of_length_eq_zero (by omega)
      have HW := Lib.hid hW1
      have HB := Lib.hid hbox
      have HR := hR.mono (R' := fun e W2 => (e = .returned (.bool true) ∧ J (pre ++ [((d : Int), (⟨⟨⟨kd, set, num, nm, mn, mx, lz, []⟩, A1, c1, A7, c7⟩, hv⟩ : NVok W0))]) W2 ∧ Kn W0.heap.size W1 W2 ∧ W2.cell? ⟨W.heap.size, 7, none⟩ = some (.slice A7 0 c7)) ∨ (e = .returned (.bool false) ∧ Jx (pre ++ [((d : Int), (⟨⟨⟨kd, set, num, nm, mn, mx, lz, []⟩, A1, c1, A7, c7⟩, hv⟩ : NVok W0))]) W2))
        (fun e W2 h => h.elim (fun ⟨he, hj, hk⟩ => .inl ⟨he, hj, hk, (cellB (hk.2 _ _ HB.out) 7).trans rfl⟩) .inr)
      clear hR hbox
      refine callsIn_of_wp Try.func84 rfl trivial ?_ rfl
      simp only [Try.ntmps84, List.size_toArray, List.length_cons, List.length_nil, Nat.reduceAdd, Nat.reduceSub, Array.replicate_succ, Array.replicate_zero, List.push_toArray, List.append_toArray, List.nil_append, List.cons_append]
      rw [hW1] at hy HR
      clear hW1
      simp only [List.length_nil] at hy HR
      gi_wp2
      refine ⟨hdd _, ?_⟩
      refine HR.mono ?_
      rintro e W2 (⟨rfl, hJ2, hk2, y7⟩ | ⟨rfl, hx2⟩)
      · gi_wp2
        gi_loopw [19] (fun i wr => i = .int .i64 0 ∧ wr = W2) (fun i _ => 0)
        case atStart => exact ⟨rfl, rfl⟩
        case round =>
          obtain ⟨rfl, rfl⟩ := hrel
          gi_wp2
          go_ret
          exact .inl ⟨rfl, ⟨_, rfl, hJ2⟩, k1.trans (by rw [HW.out]; exact hk2)⟩
      · gi_wp2
        go_ret
        exact .inr ⟨rfl, _, List.prefix_refl _, hx2⟩
    · obtain ⟨b, o, rfl, hlt, vs, hvs, hok, hc⟩ := rowOpen (show Kd.C k25 W0 A7 subs.length subs from hv.g7) h0
      have hvl : vs.length = subs.length := by rw [← hvs]; simp
      have hmax : subs.length ≤ 9223372036854775807 := hv.g7.2.1
      obtain ⟨x0, hx0⟩ : ∃ x0 : Step W0, x0 = ((d : Int), (⟨⟨⟨kd, set, num, nm, mn, mx, lz, subs⟩, A1, c1, some ⟨b, o, none⟩, c7⟩, hv⟩ : NVok W0)) := ⟨_, rfl⟩
      have hpx : ∀ xs : List (Step W0), proj (x0 :: xs) = ((d : Int), (⟨kd, set, num, nm, mn, mx, lz, subs⟩ : S25)) :: proj xs := by intro xs; rw [hx0]; rfl
      rw [← hx0] at hR
      have HPX := Lib.hid hpx
      have HW := Lib.hid hW1
      have HB := Lib.hid hbox
      have HR := hR.mono (R' := fun e W2 => (e = .returned (.bool true) ∧ J (pre ++ [x0]) W2 ∧ Kn W0.heap.size W1 W2 ∧ W2.cell? ⟨W.heap.size, 7, none⟩ = some (.slice (some ⟨b, o, none⟩) subs.length c7)) ∨ (e = .returned (.bool false) ∧ Jx (pre ++ [x0]) W2))
        (fun e W2 h => h.elim (fun ⟨he, hj, hk⟩ => .inl ⟨he, hj, hk, (cellB (hk.2 _ _ HB.out) 7).trans rfl⟩) .inr)
      have HC := Lib.hid hc
      have HVS := Lib.hid hvs
      have HOK := Lib.hid hok
      clear hR hbox hx0 hpx hc hvs
      refine callsIn_of_wp Try.func84 rfl trivial ?_ rfl
      simp only [Try.ntmps84, List.size_toArray, List.length_cons, List.length_nil, Nat.reduceAdd, Nat.reduceSub, Array.replicate_succ, Array.replicate_zero, List.push_toArray, List.append_toArray, List.nil_append, List.cons_append]
      rw [hW1] at hy HR
      clear hW1
      gi_wp2
      refine ⟨hdd _, ?_⟩
      refine HR.mono ?_
      rintro e W2 (⟨rfl, hJ2, hk2, y7⟩ | ⟨rfl, hx2⟩)
      rotate_left
      · gi_wp2
        go_ret
        exact .inr ⟨rfl, [x0], ⟨_, by rw [HPX.out]; rfl⟩, hx2⟩
      · have kW2 : Kn W0.heap.size W W2 := k1.trans (by rw [HW.out]; exact hk2)
        have hb2 : Below W0.heap.size W0 W2 := hb.trans kW2.1
        gi_wp2
        gi_loopw [19] (fun i wr => ∃ (k : Nat) (xs : List (Step W0)), i = .int .i64 k ∧ k ≤ subs.length ∧ Aside0 (proj xs = (subs.take k).flatMap (stepsL m ((d : Int) + 1))) ∧ Aside0 (J (pre ++ (x0 :: xs)) wr) ∧ Aside0 (Kn W0.heap.size W wr)) (fun i _ => subs.length - (intOf i).toNat)
        case atStart => exact ⟨0, [], rfl, by omega, ⟨rfl⟩, ⟨hJ2⟩, ⟨kW2⟩⟩
        case round =>
          obtain ⟨k, xs, rfl, hk, hxs, hJk, hKk⟩ := hrel
          by_cases hlt2 : k < subs.length
          rotate_left
          · obtain rfl : k = subs.length := by omega
            have dk : decide ((subs.length : Int) < (subs.length : Int)) = false := decide_eq_false (by omega)
            gi_wp2
            go_ret
            refine .inl ⟨rfl, ⟨x0 :: xs, ?_, hJk.out⟩, hKk.out⟩
            rw [HPX.out, hxs.out, List.take_length]
          · have dk : decide ((k : Int) < (subs.length : Int)) = true := decide_eq_true (by omega)
            have hkv : k < vs.length := by omega
            obtain ⟨vk, hvk⟩ : ∃ vk, vk = vs[k] := ⟨_, rfl⟩
            have hcell : ∀ i u, vk.cells[i]? = some u → wr.cell? ⟨b, o + k * 8 + i, none⟩ = some u := by
              intro i u hu
              rw [hvk] at hu
              exact ((hb.trans hKk.out.1).cell (p := ⟨b, o + k * 8 + i, none⟩) hlt).trans (HC.out k hkv i u hu)
            have hvok : vk.ok W0 := by rw [hvk]; exact HOK.out _ (List.getElem_mem hkv)
            have hsk : subs[k] = vk.n := by
              have h1 := HVS.out
              subst h1
              rw [hvk]; simp
            have hpl : xs.length = ((subs.take k).flatMap (stepsL m ((d : Int) + 1))).length := by rw [← hxs.out]; simp [proj]
            have htk : subs.take (k + 1) = subs.take k ++ [vk.n] := by rw [List.take_succ_eq_append_getElem hlt2, hsk]
            have hle : ((subs.take (k + 1)).flatMap (stepsL m ((d : Int) + 1))).length ≤ (subs.flatMap (stepsL m ((d : Int) + 1))).length := by
              conv => rhs; rw [← List.take_append_drop (k + 1) subs, List.flatMap_append, List.length_append]
              omega
            rw [htk, List.flatMap_append, List.length_append] at hle
            simp only [List.flatMap_cons, List.flatMap_nil, List.append_nil, List.length_cons] at hle hN
            obtain ⟨W3, hW3⟩ : ∃ W3, W3 = wr.alloc (.cells vk.cells.toArray 25) := ⟨_, rfl⟩
            have hJ3 : J (pre ++ (x0 :: xs)) W3 := by rw [hW3]; exact hJ _ _ _ none hJk.out (grown_none_alloc wr _) (fun r e => by cases e)
            have hle2 : W0.heap.size ≤ wr.heap.size := (hb.trans hKk.out.1).size
            have hK3 : Kn W0.heap.size W W3 := by rw [hW3]; exact hKk.out.alloc hle2 _
            have IH := ih (d + 1) (by omega) (by omega) (n - 1) (⟨vk, hvok⟩ : NVok W0) (pre ++ (x0 :: xs)) W3 (hb.trans hK3.1) hJ3 (by
              simp only [List.length_append, List.length_cons]
              rw [show (((d + 1 : Nat) : Int)) = (d : Int) + 1 from rfl]
              omega)
            rw [show (((d + 1 : Nat) : Int)) = (d : Int) + 1 from rfl] at IH
            obtain ⟨⟨kd', set', num', nm', mn', mx', lz', subs'⟩, A1', c1', A7', c7'⟩ := vk
            dsimp only [NV.val, NV.cells] at IH hW3 hcell
            have z0 := hcell 0 _ rfl; have z1 := hcell 1 _ rfl; have z2 := hcell 2 _ rfl; have z3 := hcell 3 _ rfl
            have z4 := hcell 4 _ rfl; have z5 := hcell 5 _ rfl; have z6 := hcell 6 _ rfl; have z7 := hcell 7 _ rfl
            simp only [Nat.add_zero] at z0
            rw [hW3] at IH
            have HIH := Lib.hid IH
            have HW3 := Lib.hid hW3
            have HHT := Lib.hid htk
            have HH3 := Lib.hid hK3
            clear hcell IH hvk hsk hpl htk hW3 hle hN hy HR
            gi_wp2_with ((try refine ⟨trivial, ?_⟩); (try refine ⟨hdd _, ?_⟩); gi_at_call 84; refine HIH.out.mono ?_; rintro e W4 (⟨rfl, ⟨ys, hys, hJ4⟩, hk4⟩ | ⟨rfl, q, hq, hx4⟩))
            · go_roundw
              case rel =>
                refine ⟨k + 1, xs ++ ys, by go_num, by omega, ⟨?_⟩, ⟨?_⟩, ⟨HH3.out.trans (by rw [HW3.out]; exact hk4)⟩⟩
                · rw [HHT.out, List.flatMap_append, proj, List.map_append, ← hxs.out]
                  simp only [List.flatMap_cons, List.flatMap_nil, List.append_nil]
                  rw [← hys]
                  rfl
                · have := hJ4
                  simp only [List.append_assoc, List.cons_append] at this ⊢
                  exact this
              case measure => simp [intOf]; omega
            · go_ret
              refine .inr ⟨rfl, x0 :: (xs ++ q), ?_, ?_⟩
              · rw [HPX.out]
                obtain ⟨r, hr⟩ := hq
                refine ⟨r ++ (subs.drop (k + 1)).flatMap (stepsL m ((d : Int) + 1)), ?_⟩
                have e2 : subs.flatMap (stepsL m ((d : Int) + 1)) = (subs.take (k + 1)).flatMap (stepsL m ((d : Int) + 1)) ++ (subs.drop (k + 1)).flatMap (stepsL m ((d : Int) + 1)) := by
                  rw [← List.flatMap_append, List.take_append_drop]
                rw [e2, HHT.out, List.flatMap_append, proj, List.map_append]
                have e3 := hxs.out
                simp only [proj] at e3 hr ⊢
                rw [e3]
                simp only [List.flatMap_cons, List.flatMap_nil, List.append_nil, List.cons_append, List.append_assoc]
                rw [← hr]
                simp only [List.append_assoc]
              · have := hx4
                simp only [List.append_assoc, List.cons_append] at this ⊢
                exact this
end Go.Proofs.Ytojlhlepneefoaa
/- Package tree: Walk and the iterator it returns; Size. -/
namespace Go.Proofs.Ytojlhlepneefoaa
open Go.RowKit PAll Go.Proofs.YtojlhlepneefoaaW.PrintWords Go.Proofs.YtojlhlepneefoaaW.PrintLast Go.Proofs.YtojlhlepneefoaaW.PrintMore
open Go.Shelf
set_option linter.unusedVariables false
set_option linter.unusedSimpArgs false

attribute [local go_sem] Oper.semAt_some
theorem belowBox {w W : World} (h : Below w.heap.size w W) {B : Nat} {o : Obj} (ho : w.heap[B]? = some o) : W.heap[B]? = some o :=
  (h.block B (Array.getElem?_eq_some_iff.1 ho).1).trans ho
set_option maxRecDepth 100000 in
set_option maxHeartbeats 4000000 in
theorem walk_stops (n : Nat) (W0 w : World) (hb : Below W0.heap.size W0 w) (v : NVok W0) (Bt : Nat) (hBt : w.heap[Bt]? = some (.cells v.1.cells.toArray 25 (0, 0))) :
    SeqStopsK Fence.wide n Try.prog 83 #[.pointer (some ⟨Bt, 0, none⟩)] (Step.vals (w := W0)) (Kn W0.heap.size) (fun xs => proj xs = stepsL 1000 1 v.1.n) (fun q => proj q <+: stepsL 1000 1 v.1.n) (stepsL 1000 1 v.1.n).length w := by
  intro l J Jx W hW hJ hJx hY h0
  have hdd : ∀ k : Nat, (Fence.wide.depth.isSome = true → 1 ≤ k) := fun k h => by cases h
  have hbW : Below W0.heap.size W0 W := hb.trans (hW.mono hb.size)
  have WK := walk_in l (stepsL 1000 1 v.1.n).length W.heap.size W0 J Jx hJ (fun m pre x W1 hj hl => YieldAt.anyDepth rfl m (hY pre x W1 hj hl)) 1000 1 rfl (by omega) (n - 1) v [] W hbW h0 (by simp)
  have hB := belowBox hW hBt
  simp only [List.nil_append] at WK
  obtain ⟨⟨⟨kd, set, num, nm, mn, mx, lz, subs⟩, A1, c1, A7, c7⟩, hv⟩ := v
  dsimp only [NV.val, NV.cells] at WK hB ⊢
  have z0 := cellB hB 0; have z1 := cellB hB 1; have z2 := cellB hB 2; have z3 := cellB hB 3
  have z4 := cellB hB 4; have z5 := cellB hB 5; have z6 := cellB hB 6; have z7 := cellB hB 7
  have HWK := Lib.hid WK
  clear WK
  refine callsIn_of_wp Try.func83 rfl trivial ?_ rfl
  simp only [Try.ntmps83, List.size_toArray, List.length_cons, List.length_nil, Nat.reduceAdd, Nat.reduceSub, Array.replicate_succ, Array.replicate_zero, List.push_toArray, List.append_toArray, List.nil_append, List.cons_append]
  gi_wp2_with ((try refine ⟨trivial, ?_⟩); (try refine ⟨hdd _, ?_⟩); gi_at_call 84; refine HWK.out.mono ?_; rintro e W4 (⟨rfl, ⟨ys, hys, hJ4⟩, hk4⟩ | ⟨rfl, q, hq, hx4⟩))
  · go_end0
    exact ⟨⟨_, rfl⟩, .inl ⟨ys, hys, hJ4⟩⟩
  · go_end0
    exact ⟨⟨_, rfl⟩, .inr ⟨q, hq, hx4⟩⟩
set_option maxRecDepth 100000 in
set_option maxHeartbeats 4000000 in
/-- Walk: the node laid in a box, the function that walks it. -/
theorem Walk_in (n : Nat) (v : NV) (w : World) : CallsIn Fence.wide n Try.prog 49 #[v.val] w fun e w' =>
    e = .returned (.func (.func 83) #[] #[.pointer (some ⟨w.heap.size, 0, none⟩)]) ∧ w' = w.alloc (.cells v.cells.toArray 25) := by
  obtain ⟨⟨kd, set, num, nm, mn, mx, lz, subs⟩, A1, c1, A7, c7⟩ := v
  dsimp only [NV.val, NV.cells]
  refine callsIn_of_wp Try.func49 rfl trivial ?_ rfl
  simp only [Try.ntmps49, List.size_toArray, List.length_cons, List.length_nil, Nat.reduceAdd, Nat.reduceSub, Array.replicate_succ, Array.replicate_zero, List.push_toArray, List.append_toArray, List.nil_append, List.cons_append]
  gi_wp2
  go_ret
  exact ⟨rfl, rfl⟩
end Go.Proofs.Ytojlhlepneefoaa
/- Package tree: Size. -/
namespace Go.Proofs.Ytojlhlepneefoaa
open Go.RowKit PAll Go.Proofs.YtojlhlepneefoaaW.PrintWords Go.Proofs.YtojlhlepneefoaaW.PrintLast Go.Proofs.YtojlhlepneefoaaW.PrintMore
open Go.Shelf
set_option linter.unusedVariables false
set_option linter.unusedSimpArgs false

attribute [local go_sem] Oper.semAt_some
theorem Kn.grown {B : Nat} {W W' : World} {row : Option Nat} (hg : W.grownBy W' row) (hB : B ≤ W.heap.size) (hr : ∀ r, row = some r → B ≤ r ∧ ∀ cs, W.heap[r]? ≠ some (Obj.cells cs 25 (0, 0))) : Kn B W W' :=
  ⟨(Below.refl B W).grown hg hB (fun k e => (hr k e).1), fun k cs hk => (hg.block k (Array.getElem?_eq_some_iff.1 hk).1 (fun e => (hr k e.symm).2 cs hk)).trans hk⟩
theorem Kn.putObj {w : World} {B : Nat} (hB : B ≤ w.heap.size) (W : World) (l : Nat) (o o' : Obj) (hl : w.heap.size ≤ l) (h : W.heap[l]? = some o) (hc : o.isCells = false) (_ : o.isWalk = false) : Kn B W (W.putObj l o') :=
  Kn.grown (grownBy_putObj' W l o') (by have := (Array.getElem?_eq_some_iff.1 h).1; omega) (fun r e => by cases e; exact ⟨by omega, fun cs hx => by rw [h] at hx; cases hx; cases hc⟩)
theorem Kn.setBox {B b : Nat} {W : World} {t : TypeId} {v : Value} (h : Boxed W b t v) (ht : t ≠ 25) (hB : B ≤ b) (u : Value) : Kn B W (W.setCell ⟨b, 0, none⟩ u) :=
  Kn.grown (grownBy_setCell' W b u) (by have := h.lt; omega) (fun r e => by cases e; exact ⟨hB, fun cs hx => by rw [show W.heap[b]? = _ from h] at hx; cases hx; exact ht rfl⟩)
set_option maxRecDepth 100000 in
set_option maxHeartbeats 4000000 in
theorem Size_in (n : Nat) (hn : 3 ≤ n) (v : NV) (w : World) (hv : v.ok w) (hN : (stepsL 1000 1 v.n).length < 9223372036854775807) : CallsIn Fence.wide n Try.prog 38 #[v.val] w fun e w' =>
    e = .returned (.int .i64 (stepsL 1000 1 v.n).length) ∧ Below w.heap.size w w' := by
  have hro : Fence.wide.round = none := rfl
  have h1 : 1 ≤ n := by omega
  have hdd : ∀ k : Nat, (Fence.wide.depth.isSome = true → 1 ≤ k) := fun k h => by cases h
  have WI := fun W => Walk_in (n - 1) v W
  obtain ⟨NN, hNN⟩ : ∃ NN, NN = v := ⟨_, rfl⟩
  rw [← hNN] at hv hN ⊢
  obtain ⟨⟨kd, set, num, nm, mn, mx, lz, subs⟩, A1, c1, A7, c7⟩ := v
  have eV : NN.val = .agg #[.int .i64 kd, .slice A1 set.length c1, .int .i64 num, .string nm, .int .i64 mn, .int .i64 mx, .bool lz, .slice A7 subs.length c7] := by rw [hNN]; rfl
  have eC : NN.cells.toArray = #[.int .i64 kd, .slice A1 set.length c1, .int .i64 num, .string nm, .int .i64 mn, .int .i64 mx, .bool lz, .slice A7 subs.length c7] := by rw [hNN]; rfl
  dsimp only [NV.val, NV.cells] at WI
  rw [eV]
  clear hNN
  refine callsIn_of_wp_marks Try.func38 rfl trivial ?_ hro
  simp only [Try.ntmps38, List.size_toArray, List.length_cons, List.length_nil, Nat.reduceAdd, Nat.reduceSub, Array.replicate_succ, Array.replicate_zero, List.push_toArray, List.append_toArray, List.nil_append, List.cons_append]
  gi_wp2_with ((try refine ⟨trivial, ?_⟩); (try refine ⟨hdd _, ?_⟩); gi_at_call 49; refine (WI _).mono ?_; rintro e w' ⟨rfl, rfl⟩)
  obtain ⟨Wa, hWa⟩ : ∃ Wa, Wa = (w.alloc (.cells NN.cells.toArray 25)).alloc (.cells #[.int .i64 0] 3) := ⟨_, rfl⟩
  have hsz : Wa.heap.size = w.heap.size + 2 := by rw [hWa]; simp
  have hba : Below w.heap.size w Wa := by rw [hWa]; exact ((Below.refl _ w).alloc (Nat.le_refl _) _).alloc (by simp) _
  have hcnt : Boxed Wa (w.heap.size + 1) 3 (.int .i64 0) := by
    rw [hWa]; have := Boxed.new (w.alloc (.cells NN.cells.toArray 25)) 3 (.int .i64 0); rwa [World.size_alloc] at this
  rw [← eC, ← hWa]
  obtain ⟨Wb, hWb⟩ : ∃ Wb, Wb = Wa.alloc (.cells NN.cells.toArray 25) := ⟨_, rfl⟩
  have hszb : Wb.heap.size = w.heap.size + 3 := by rw [hWb]; simp [hsz]
  have hbb : Below w.heap.size w Wb := by rw [hWb]; exact hba.alloc (by omega) _
  have hcb : Boxed Wb (w.heap.size + 1) 3 (.int .i64 0) := by rw [hWb]; exact hcnt.alloc _
  have hbox : Wb.heap[w.heap.size + 1 + 1]? = some (.cells NN.cells.toArray 25 (0, 0)) := by rw [hWb]; exact new_at _ _ _ (by omega)
  rw [← hWb]
  refine wpIn_rangeFunc_ownF hro h1 (gf := 83) (lb := #[.pointer (some ⟨w.heap.size + 1 + 1, 0, none⟩)]) rfl trivial (enters_of Try.func83 (by kernel_rfl) rfl)
    (walk_stops (n - 1) w Wb hbb ⟨NN, hv⟩ (w.heap.size + 1 + 1) hbox) Kn.trans (Kn.putObj (by omega)) (Below.refl _ _) (fun _ => rfl)
    (fun pre W => Boxed W (w.heap.size + 1) 3 (.int .i64 pre.length) ∧ Below w.heap.size w W)
    (fun _ _ _ => False)
    (OwnFrom.and (Own.from (boxed_own _ 3 (fun pre : List (Step w) => .int .i64 pre.length)) _) (ownFrom_below (Nat.le_refl _) (by omega)))
    (fun _ _ _ _ _ hs _ _ => hs)
    ⟨hcb, hbb⟩
    (fun x => { tmps := #[NN.val, .pointer (some ⟨w.heap.size, 0, none⟩), .int .i64 0, .pointer (some ⟨w.heap.size + 1, 0, none⟩), NN.val, .func (.func 83) #[] #[.pointer (some ⟨w.heap.size + 1 + 1, 0, none⟩)], .int .i64 x.1, x.2.1.val, undef, undef, undef], defers := [] }) ?assign ?body ?done ?stop
  case assign =>
    intro l x W K hK
    dsimp only [Step.vals]
    gi_wp2
    simp only [List.zip_toArray, List.zip_cons_cons, List.zip_nil_left, List.zip_nil_right, List.foldl_toArray', List.foldl_toArray, List.foldl_cons, List.foldl_nil, List.setIfInBounds_toArray, List.set_cons_succ, List.set_cons_zero, List.size_toArray]
    exact hK
  case body =>
    rintro l pre x W ⟨hc, hB⟩ hlen
    have hcell := hc.cell
    have hfr := hc.frozen
    dsimp only at hlen
    gi_wp2
    refine ⟨KeepsOthers.setCell _ _ _, Kn.setBox hc (by decide) (by omega) _, ?_, hB.setCell (p := ⟨w.heap.size + 1, 0, none⟩) (by simp) _⟩
    have := hc.set (.int .i64 (pre.length + 1))
    simpa using this
  case done =>
    rintro D ys W hD hys ⟨hc, hB⟩ hK
    have hcell := hc.cell
    have hfr := hc.frozen
    have hl : ys.length = (stepsL 1000 1 NN.n).length := by rw [← hys]; simp [proj]
    gi_wp2
    refine ⟨by simp, .inl ⟨_, _, rfl, run_takeDeferred hK, ?_⟩⟩
    exact ⟨_, results_tmp rfl _ _ _, rfl, hB.trans (Kn.putObj (w := Wb) (by omega) W D _ _ hD hK rfl rfl).1⟩
  case stop =>
    rintro D c pre W _ _ h _
    exact h.elim
end Go.Proofs.Ytojlhlepneefoaa
/- Package tree: Groups. -/
namespace Go.Proofs.Ytojlhlepneefoaa
open Go.RowKit PAll Go.Proofs.YtojlhlepneefoaaW.PrintWords Go.Proofs.YtojlhlepneefoaaW.PrintLast Go.Proofs.YtojlhlepneefoaaW.PrintMore
open Go.Shelf
set_option linter.unusedVariables false
set_option linter.unusedSimpArgs false

attribute [local go_sem] Oper.semAt_some
theorem try_info9 : (Try.prog.info? 9).map (fun i => (i.zero, i.size, i.bytes)) = some (some (.string .empty), 1, 16) := by kernel_rfl
/-- The names of the groups among steps. -/
def groupsP (xs : List (Int × S25)) : List ByteArray := xs.filterMap fun x => if x.2.f0 = 6 then some x.2.f3 else none
theorem groupsP_hit (xs : List (Int × S25)) (x : Int × S25) (h : x.2.f0 = 6) : groupsP (xs ++ [x]) = groupsP xs ++ [x.2.f3] := by simp [groupsP, h]
theorem groupsP_miss (xs : List (Int × S25)) (x : Int × S25) (h : ¬ x.2.f0 = 6) : groupsP (xs ++ [x]) = groupsP xs := by simp [groupsP, h]
theorem groupsP_len (xs : List (Int × S25)) : (groupsP xs).length ≤ xs.length := List.length_filterMap_le _ _
theorem box_own {β : Type} (B : Nat) (o : Obj) (ho : o.isCells = true) : Own (fun (_ : β) W => W.heap[B]? = some o) := fun _ X Y row hs hg hrow =>
  (hg.block B (Array.getElem?_eq_some_iff.1 hs).1 (fun e => by obtain ⟨o', h', hc⟩ := hrow B e.symm; rw [hs] at h'; cases h'; rw [ho] at hc; cases hc)).trans hs
/-- Behind an append to a row of other cells and its store, node blocks stay. -/
theorem Kn.appended {W w1 : World} {n₀ B b : Nat} {t e : TypeId} {size : Nat} {v : Value} {k : Nat} {xs : List Value} {tmp : Obj}
    (hv : Boxed W b t v) (ht : t ≠ 25) (he : e ≠ 25) (hte : t ≠ e) (hrow : W.ownsRow n₀ e size v k xs) (hn₀ : n₀ ≤ W.heap.size) (hB : n₀ ≤ b) (hBn : B ≤ n₀) 
    (hgrow : (W.alloc tmp).grownBy w1 v.ownBlock) (u : Value) : Kn B W (w1.setCell ⟨b, 0, none⟩ u) := by
  have hv1 : Boxed w1 b t v := (hv.alloc tmp).kept hgrow (hv.not_row hte hrow)
  refine (((Kn.refl B W).alloc (by omega) tmp).trans (Kn.grown hgrow (by simp; omega) (fun r er => ?_))).trans (Kn.setBox hv1 ht (by omega) u)
  rcases (hrow.alloc tmp).2 with ⟨rfl, _⟩ | ⟨g, cap, cur, rfl, hb, hgb, _⟩
  · simp [Value.ownBlock] at er
  · obtain rfl : g = r := by simpa [Value.ownBlock] using er
    refine ⟨by omega, fun cs hx => ?_⟩
    rw [hgb] at hx; cases hx; exact he rfl
set_option maxRecDepth 100000 in
set_option maxHeartbeats 4000000 in
theorem Groups_in (n : Nat) (hn : 3 ≤ n) (v : NV) (w : World) (hv : v.ok w) (hN : (stepsL 1000 1 v.n).length ≤ 1000000) : CallsIn Fence.wide n Try.prog 41 #[v.val] w fun e w' =>
    ∃ u, e = .returned u ∧ w'.ownsRow w.heap.size 9 1 u (groupsP (stepsL 1000 1 v.n)).length ((groupsP (stepsL 1000 1 v.n)).map .string) ∧ Below w.heap.size w w' := by
  have hro : Fence.wide.round = none := rfl
  have h1 : 1 ≤ n := by omega
  have hdd : ∀ k : Nat, (Fence.wide.depth.isSome = true → 1 ≤ k) := fun k h => by cases h
  obtain ⟨i0, hi, hz0, hz1, hz2⟩ := info_parts try_info9
  have WI := fun W => Walk_in (n - 1) v W
  obtain ⟨NN, hNN⟩ : ∃ NN, NN = v := ⟨_, rfl⟩
  rw [← hNN] at hv hN ⊢
  obtain ⟨⟨kd, set, num, nm, mn, mx, lz, subs⟩, A1, c1, A7, c7⟩ := v
  have eV : NN.val = .agg #[.int .i64 kd, .slice A1 set.length c1, .int .i64 num, .string nm, .int .i64 mn, .int .i64 mx, .bool lz, .slice A7 subs.length c7] := by rw [hNN]; rfl
  have eC : NN.cells.toArray = #[.int .i64 kd, .slice A1 set.length c1, .int .i64 num, .string nm, .int .i64 mn, .int .i64 mx, .bool lz, .slice A7 subs.length c7] := by rw [hNN]; rfl
  dsimp only [NV.val, NV.cells] at WI
  rw [eV]
  clear hNN
  refine callsIn_of_wp_marks Try.func41 rfl trivial ?_ hro
  simp only [Try.ntmps41, List.size_toArray, List.length_cons, List.length_nil, Nat.reduceAdd, Nat.reduceSub, Array.replicate_succ, Array.replicate_zero, List.push_toArray, List.append_toArray, List.nil_append, List.cons_append]
  gi_wp2_with ((try refine ⟨trivial, ?_⟩); (try refine ⟨hdd _, ?_⟩); gi_at_call 49; refine (WI _).mono ?_; rintro e w' ⟨rfl, rfl⟩)
  obtain ⟨Wa, hWa⟩ : ∃ Wa, Wa = (w.alloc (.cells NN.cells.toArray 25)).alloc (.cells #[.slice none 0 0] 57) := ⟨_, rfl⟩
  have hsz : Wa.heap.size = w.heap.size + 2 := by rw [hWa]; simp
  have hba : Below w.heap.size w Wa := by rw [hWa]; exact ((Below.refl _ w).alloc (Nat.le_refl _) _).alloc (by simp) _
  have hcnt : Boxed Wa (w.heap.size + 1) 57 (.slice none 0 0) := by
    rw [hWa]; have := Boxed.new (w.alloc (.cells NN.cells.toArray 25)) 57 (.slice none 0 0); rwa [World.size_alloc] at this
  rw [← eC, ← hWa]
  obtain ⟨Wb, hWb⟩ : ∃ Wb, Wb = Wa.alloc (.cells NN.cells.toArray 25) := ⟨_, rfl⟩
  have hszb : Wb.heap.size = w.heap.size + 3 := by rw [hWb]; simp [hsz]
  have hbb : Below w.heap.size w Wb := by rw [hWb]; exact hba.alloc (by omega) _
  have hcb : Boxed Wb (w.heap.size + 1) 57 (.slice none 0 0) := by rw [hWb]; exact hcnt.alloc _
  have hbox : Wb.heap[w.heap.size + 1 + 1]? = some (.cells NN.cells.toArray 25 (0, 0)) := by rw [hWb]; exact new_at _ _ _ (by omega)
  rw [← hWb]
  refine wpIn_rangeFunc_ownH hro h1 (gf := 83) (lb := #[.pointer (some ⟨w.heap.size + 1 + 1, 0, none⟩)]) rfl trivial (enters_of Try.func83 (by kernel_rfl) rfl)
    (walk_stops (n - 1) w Wb hbb ⟨NN, hv⟩ (w.heap.size + 1 + 1) hbox) Kn.trans (Kn.putObj (by omega)) (Below.refl _ _) (fun _ => rfl)
    (fun pre W => (∃ u, Boxed W (w.heap.size + 1) 57 u ∧ W.ownsRow w.heap.size 9 1 u (groupsP (proj pre)).length ((groupsP (proj pre)).map .string) ∧ True) ∧ Below w.heap.size w W)
    (fun _ _ _ => False)
    (OwnFrom.and (Own.from (holdsRow_own w.heap.size (w.heap.size + 1) 57 9 1 (fun pre : List (Step w) => (groupsP (proj pre)).length) (fun pre => (groupsP (proj pre)).map .string) (fun _ _ => True)) _) (ownFrom_below (Nat.le_refl _) (by omega)))
    (fun _ _ _ _ _ hs _ _ => hs)
    ⟨⟨_, hcb, World.ownsRow_nil _ _ _ _, trivial⟩, hbb⟩
    (fun x a' W => ∃ Bx, w.heap.size + 1 < Bx ∧ W.heap[Bx]? = some (.cells x.2.1.cells.toArray 25 (0, 0)) ∧ a' = { tmps := #[NN.val, .pointer (some ⟨w.heap.size, 0, none⟩), .slice none 0 0, .pointer (some ⟨w.heap.size + 1, 0, none⟩), undef, .pointer (some ⟨Bx, 0, none⟩), NN.val, .func (.func 83) #[] #[.pointer (some ⟨w.heap.size + 1 + 1, 0, none⟩)], .int .i64 x.1, x.2.1.val, undef, undef, undef, undef, undef, undef, undef, undef, undef], defers := [] })
    (fun x a' _ X Y row hs hg hr => by obtain ⟨Bx, h1, h2, h3⟩ := hs; exact ⟨Bx, h1, box_own Bx _ rfl () X Y row h2 hg (fun r e => (hr r e).2), h3⟩)
    ?assign ?body ?done ?stop
  case assign =>
    rintro l pre x W K ⟨⟨u, hu, hrow, _⟩, hB⟩ hK
    obtain ⟨dp, ⟨⟨⟨kd', set', num', nm', mn', mx', lz', subs'⟩, A1', c1', A7', c7'⟩, hvx⟩⟩ := x
    dsimp only [Step.vals, NV.val, NV.cells] at hK ⊢
    simp only [List.zip_toArray, List.zip_cons_cons, List.zip_nil_left, List.zip_nil_right, List.foldl_toArray', List.foldl_toArray, List.foldl_cons, List.foldl_nil, List.setIfInBounds_toArray, List.set_cons_succ, List.set_cons_zero, List.size_toArray]
    gi_wp2
    exact hK _ _ ((KeepsOthers.alloc _ _).from _) ((Kn.refl _ W).alloc hB.size _) ⟨⟨u, hu.alloc _, hrow.alloc _, trivial⟩, hB.alloc hB.size _⟩ ⟨W.heap.size, hu.lt, new_at _ _ _ rfl, rfl⟩
  case body =>
    rintro l pre x a' W hl ⟨r, hr⟩ ⟨⟨u, hu, hrow, _⟩, hB⟩ ⟨Bx, hBx, bX, rfl⟩ hlen
    have hc := hu.cell
    have ep : proj (pre ++ [x]) = proj pre ++ [(x.1, x.2.1.n)] := by simp [proj]
    have hpl : (groupsP (proj pre)).length ≤ pre.length := by have := groupsP_len (proj pre); simpa [proj] using this
    have hp6 : (groupsP (proj pre)).length ≤ 1000000 := by dsimp only at hlen; omega
    obtain ⟨dp, ⟨⟨⟨kd', set', num', nm', mn', mx', lz', subs'⟩, A1', c1', A7', c7'⟩, hvx⟩⟩ := x
    dsimp only [NV.val, NV.cells] at bX ep ⊢
    have z0 := cellB bX 0; have z3 := cellB bX 3
    have hmiss := groupsP_miss (proj pre) (dp, ⟨kd', set', num', nm', mn', mx', lz', subs'⟩)
    have hhit := groupsP_hit (proj pre) (dp, ⟨kd', set', num', nm', mn', mx', lz', subs'⟩)
    rw [← ep] at hmiss hhit
    dsimp only at hmiss hhit
    have HM := Lib.hid hmiss
    have HH := Lib.hid hhit
    clear hmiss hhit ep bX
    by_cases h6 : kd' = 6
    · subst h6
      gi_wp2_with (gi_at_builtin; refine wpListIn_append_own _ rfl _ _ 57 rfl w.heap.size 9 i0 (.string .empty) 1 16 Try.underlying57 hi hz0 hz1 hz2 rfl (by decide) _ _ _ rfl (hrow.alloc _) ⟨W.heap.size, 0, none⟩ 1 1 [.string nm'] rfl rfl (cell_one_new _ _ _) (by simp [Value.oneCell']) (by simp [maxLen]; omega) (by omega) (by have := hB.size; simp; omega) ?_; intro v' w1 hown' hgrow _; obtain ⟨g', cap', rfl⟩ := ownsRow_succ hown'; obtain ⟨hv1, hv2, hr2, hk2, hb2⟩ := hu.appended (by decide) hrow hB.size (by omega) hown' hgrow; have hkn := Kn.appended (B := w.heap.size) hu (by decide) (by decide) (by decide) hrow hB.size (by omega) (Nat.le_refl _) hgrow; have hc1 := hv1.cell; have hf1 := hv1.frozen)
      exact ⟨hk2.from _, hkn _, ⟨_, hv2, by rw [HH.out trivial]; simpa using hr2⟩, hB.trans hb2⟩
    · gi_wp2
      exact ⟨KeepsFrom.refl _ _, Kn.refl _ _, ⟨u, hu, by rw [HM.out h6]; exact hrow⟩, hB⟩
  case done =>
    rintro D ys W hD hys ⟨⟨u, hu, hrow, _⟩, hB⟩ hK
    have hc := hu.cell
    rw [hys] at hrow
    gi_wp2
    refine ⟨by simp, .inl ⟨_, _, rfl, run_takeDeferred hK, ?_⟩⟩
    exact ⟨_, results_tmp rfl _ _ _, u, rfl, ownsRow_putObj hrow _ hK rfl, hB.trans (Kn.putObj (w := Wb) (by omega) W D _ _ hD hK rfl rfl).1⟩
  case stop =>
    rintro D c pre W _ _ h _
    exact h.elim
end Go.Proofs.Ytojlhlepneefoaa
/- Package tree: Check. -/
namespace Go.Proofs.Ytojlhlepneefoaa
open Go.RowKit PAll Go.Proofs.YtojlhlepneefoaaW.PrintWords Go.Proofs.YtojlhlepneefoaaW.PrintLast Go.Proofs.YtojlhlepneefoaaW.PrintMore
open Go.Shelf
set_option linter.unusedVariables false
set_option linter.unusedSimpArgs false

attribute [local go_sem] Oper.semAt_some
open Classical in
/-- One step of Check: the names so far, or the fault. -/
noncomputable def chkStep (st : Except Int (List ByteArray)) (x : Int × S25) : Except Int (List ByteArray) :=
  match st with
  | .error c => .error c
  | .ok ns =>
    if fitsV x.2 = false then .error 60
    else if ¬ x.2.f0 = 6 then .ok ns
    else if ¬ x.2.f2 = (ns.length : Int) + 1 then .error 60
    else if 31 < (ns.length : Int) + 1 then .error 2
    else if x.2.f3 ∈ ns ∧ emptyS x.2.f3 = false then .error 6
    else .ok (ns ++ [x.2.f3])
noncomputable def chkL (xs : List (Int × S25)) : Except Int (List ByteArray) := xs.foldl chkStep (.ok [])
theorem chkL_snoc (xs : List (Int × S25)) (x : Int × S25) : chkL (xs ++ [x]) = chkStep (chkL xs) x := by simp [chkL]
theorem chk_err (c : Int) (xs : List (Int × S25)) : xs.foldl chkStep (.error c) = .error c := by
  induction xs with
  | nil => rfl
  | cons x xs ih => simpa [chkStep] using ih
theorem chkL_pre {c : Int} {xs ys : List (Int × S25)} (h : chkL xs = .error c) (hp : xs <+: ys) : chkL ys = .error c := by
  obtain ⟨r, rfl⟩ := hp
  unfold chkL at *
  rw [List.foldl_append, h, chk_err]
def chkOut : Except Int (List ByteArray) → Int
  | .ok _ => 0
  | .error c => c
/-- The map knows the names. -/
def Knows (D : DataW Nat) (ns : List ByteArray) : Prop := Maps.IsMap D ∧ ∀ s : ByteArray, (Maps.has D (.string s.data.toList) = true ↔ s ∈ ns)
theorem knows_nil : Knows (.map []) [] := ⟨Maps.isMap_empty, fun s => by simp [Maps.has]⟩
theorem bytes_inj {s t : ByteArray} (h : s.data.toList = t.data.toList) : s = t := by
  cases s; cases t; simp at h; simp [h]
theorem Knows.put {D : DataW Nat} {ns : List ByteArray} (h : Knows D ns) (s : ByteArray) (d : DataW Nat) : Knows (D.put (.string s.data.toList) d) (ns ++ [s]) := by
  refine ⟨h.1.put _ _, fun t => ?_⟩
  by_cases e : t = s
  · subst e; rw [Maps.has_put_same h.1 (by simp [WideAt.IsKeyLit])]; simp
  · rw [Maps.has_put_other (fun e' => e (bytes_inj (by simpa using e'))), h.2]; simp [e]
theorem chk_no {ns : List ByteArray} {x : Int × S25} (hf : fitsV x.2 = false) : chkStep (.ok ns) x = .error 60 := by simp [chkStep, hf]
theorem chk_skip {ns : List ByteArray} {x : Int × S25} (hf : fitsV x.2 = true) (h6 : ¬ x.2.f0 = 6) : chkStep (.ok ns) x = .ok ns := by simp [chkStep, hf, h6]
theorem chk_num {ns : List ByteArray} {x : Int × S25} (hf : fitsV x.2 = true) (h6 : x.2.f0 = 6) (hnum : ¬ x.2.f2 = (ns.length : Int) + 1) : chkStep (.ok ns) x = .error 60 := by
  unfold chkStep; dsimp only; rw [if_neg (by rw [hf]; simp), if_neg (by simp [h6]), if_pos hnum]
theorem chk_long {ns : List ByteArray} {x : Int × S25} (hf : fitsV x.2 = true) (h6 : x.2.f0 = 6) (hnum : x.2.f2 = (ns.length : Int) + 1) (hb : ns.length = 31) : chkStep (.ok ns) x = .error 2 := by
  unfold chkStep; dsimp only; rw [if_neg (by rw [hf]; simp), if_neg (by simp [h6]), if_neg (by simp [hnum]), if_pos (by omega)]
theorem chk_twice {ns : List ByteArray} {x : Int × S25} (hf : fitsV x.2 = true) (h6 : x.2.f0 = 6) (hnum : x.2.f2 = (ns.length : Int) + 1) (hb : ns.length ≤ 30) (hi : x.2.f3 ∈ ns) (he : emptyS x.2.f3 = false) : chkStep (.ok ns) x = .error 6 := by
  unfold chkStep; dsimp only; rw [if_neg (by rw [hf]; simp), if_neg (by simp [h6]), if_neg (by simp [hnum]), if_neg (by omega), if_pos ⟨hi, he⟩]
theorem chk_fine {ns : List ByteArray} {x : Int × S25} (hf : fitsV x.2 = true) (h6 : x.2.f0 = 6) (hnum : x.2.f2 = (ns.length : Int) + 1) (hb : ns.length ≤ 30) (hi : ¬ (x.2.f3 ∈ ns ∧ emptyS x.2.f3 = false)) : chkStep (.ok ns) x = .ok (ns ++ [x.2.f3]) := by
  unfold chkStep; dsimp only; rw [if_neg (by rw [hf]; simp), if_neg (by simp [h6]), if_neg (by simp [hnum]), if_neg (by omega), if_neg hi]
theorem kpFrom {B : Nat} {W W' : World} (k : Kp [] W W') : KeepsFrom B W W' := ⟨k.size, fun i o _ hi _ => kblk k hi⟩
theorem wf_small (n : Nat) (h : n ≤ 31) : (Lit.int .i64 ((n : Int) + 1)).wf = true := by
  have e : wrap64 ((n : Int) + 1) = (n : Int) + 1 := by unfold wrap64; omega
  have := wrap64_wf ((n : Int) + 1)
  exact e ▸ this
theorem okBelow {w w' : World} {v : NV} (h : v.ok w) (hb : Below w.heap.size w w') : v.ok w' := ⟨h.l1, Kd.C_below h.g1 hb, h.l7, Kd.C_below h.g7 hb⟩
theorem ownsKp {w w' : World} {M k : Nat} {D : DataW Nat} (k0 : Kp [] w w') (h : w.ownsMap Try.prog 9 (plainElem (H := Nat) Try.prog 3) M k D) : w'.ownsMap Try.prog 9 (plainElem (H := Nat) Try.prog 3) M k D := by
  obtain ⟨es, ck, hh, r⟩ := h
  exact ⟨es, ck, kblk k0 hh, r⟩
theorem notEmpty (a : ByteArray) (h : 0 < a.size) : a.toList.isEmpty = false := by
  have e : a.toList = a.data.toList := Lib.toList_data a
  rw [e]
  cases hl : a.data.toList with
  | nil => have : a.size = 0 := by show a.data.size = 0; rw [← Array.length_toList, hl]; rfl
           omega
  | cons x l => rfl
set_option maxRecDepth 10000 in
theorem name_short {n : S25} (hf : fitsV n = true) (h6 : n.f0 = 6) : n.f3.size ≤ maxLen := by
  have : emptyS n.f3 = true ∨ n.f3.data.toList.length ≤ 32 := by
    simp only [fitsV, fitsN, h6] at hf
    simp [nameB] at hf
    rcases hf.2.1 with h | h
    · exact .inl h
    · exact .inr (by have := h.2.1; simpa using this)
  rcases this with h | h
  · have : ¬ 0 < n.f3.size := fun h0 => by
      have := notEmpty _ h0
      unfold emptyS at h
      rw [this] at h
      cases h
    have : n.f3.size = 0 := by omega
    rw [this]; exact Nat.zero_le _
  · have e : n.f3.size = n.f3.data.toList.length := Array.length_toList.symm
    rw [e]
    have : (32 : Nat) ≤ maxLen := by decide
    omega
set_option maxRecDepth 100000 in
set_option maxHeartbeats 4000000 in
theorem Check_in (n : Nat) (hn : 3 ≤ n) (v : NV) (w : World) (hv : v.ok w) (hN : (stepsL 1000 1 v.n).length ≤ 1000000) (k : Nat) (dep : Int)
    (hdep : tree_Depth.f k v.n.f0 v.n.f1 v.n.f2 v.n.f3 v.n.f4 v.n.f5 v.n.f6 v.n.f7 = some dep) : CallsIn Fence.wide n Try.prog 24 #[v.val] w fun e w' =>
    e = .returned (.int .i64 (if dep > 1000 then 61 else chkOut (chkL (stepsL 1000 1 v.n)))) ∧ Below w.heap.size w w' := by
  have hro : Fence.wide.round = none := rfl
  have h1 : 1 ≤ n := by omega
  have hdd : ∀ k : Nat, (Fence.wide.depth.isSome = true → 1 ≤ k) := fun k h => by cases h
  have hmm := @run_makeMap Try.prog
  have WI := fun W => Walk_in (n - 1) v W
  obtain ⟨NN, hNN⟩ : ∃ NN, NN = v := ⟨_, rfl⟩
  rw [← hNN] at hv hN hdep ⊢
  have DP := fun W (hb : Below w.heap.size w W) => tree_Depth.calls k NN.n.f0 NN.A1 NN.c1 NN.n.f1 NN.n.f2 NN.n.f3 NN.n.f4 NN.n.f5 NN.n.f6 NN.A7 NN.c7 NN.n.f7 dep W (Kd.C_below hv.g1 hb) hv.l1 (Kd.C_below hv.g7 hb) hv.l7 hdep
  obtain ⟨⟨kd, set, num, nm, mn, mx, lz, subs⟩, A1, c1, A7, c7⟩ := v
  have eV : NN.val = .agg #[.int .i64 kd, .slice A1 set.length c1, .int .i64 num, .string nm, .int .i64 mn, .int .i64 mx, .bool lz, .slice A7 subs.length c7] := by rw [hNN]; rfl
  have eC : NN.cells.toArray = #[.int .i64 kd, .slice A1 set.length c1, .int .i64 num, .string nm, .int .i64 mn, .int .i64 mx, .bool lz, .slice A7 subs.length c7] := by rw [hNN]; rfl
  have eP : (#[.int .i64 NN.n.f0, .slice NN.A1 NN.n.f1.length NN.c1, .int .i64 NN.n.f2, .string NN.n.f3, .int .i64 NN.n.f4, .int .i64 NN.n.f5, .bool NN.n.f6, .slice NN.A7 NN.n.f7.length NN.c7] : Array Value) = NN.cells.toArray := rfl
  simp only [eP, eC] at DP
  dsimp only [NV.val, NV.cells] at WI
  rw [eV]
  clear hNN eP
  have HB0 : Below w.heap.size w ((w.alloc (.cells #[.int .i64 kd, .slice A1 set.length c1, .int .i64 num, .string nm, .int .i64 mn, .int .i64 mx, .bool lz, .slice A7 subs.length c7] 25)).alloc (.cells #[.int .i64 0] 28)) := ((Below.refl _ w).alloc (Nat.le_refl _) _).alloc (by simp) _
  have hbox0 : ((w.alloc (.cells #[.int .i64 kd, .slice A1 set.length c1, .int .i64 num, .string nm, .int .i64 mn, .int .i64 mx, .bool lz, .slice A7 subs.length c7] 25)).alloc (.cells #[.int .i64 0] 28)).heap[w.heap.size]? = some (.cells #[.int .i64 kd, .slice A1 set.length c1, .int .i64 num, .string nm, .int .i64 mn, .int .i64 mx, .bool lz, .slice A7 subs.length c7] 25 (0, 0)) := (Below.heap_alloc _ _ _ (by simp)).trans (heap_alloc_new _ _)
  have hres0 : Boxed ((w.alloc (.cells #[.int .i64 kd, .slice A1 set.length c1, .int .i64 num, .string nm, .int .i64 mn, .int .i64 mx, .bool lz, .slice A7 subs.length c7] 25)).alloc (.cells #[.int .i64 0] 28)) (w.heap.size + 1) 28 (.int .i64 0) := by
    have := Boxed.new (w.alloc (.cells #[.int .i64 kd, .slice A1 set.length c1, .int .i64 num, .string nm, .int .i64 mn, .int .i64 mx, .bool lz, .slice A7 subs.length c7] 25)) 28 (.int .i64 0); rwa [World.size_alloc] at this
  obtain ⟨V0, hV0⟩ : ∃ V0, V0 = (w.alloc (.cells #[.int .i64 kd, .slice A1 set.length c1, .int .i64 num, .string nm, .int .i64 mn, .int .i64 mx, .bool lz, .slice A7 subs.length c7] 25)).alloc (.cells #[.int .i64 0] 28) := ⟨_, rfl⟩
  have hs0 : V0.heap.size = w.heap.size + 2 := by rw [hV0]; simp
  have DP0 := DP V0 (by rw [hV0]; exact HB0)
  have DP1 := DP0.mono (R' := fun e W => e = .returned (.int .i64 dep) ∧ Below w.heap.size w W ∧ w.heap.size + 2 ≤ W.heap.size ∧ Boxed W (w.heap.size + 1) 28 (.int .i64 0) ∧ W.heap[w.heap.size]? = some (.cells NN.cells.toArray 25 (0, 0)))
    (fun e W ⟨he, hb⟩ => ⟨he, by rw [hV0] at hb; exact HB0.trans (hb.mono (by simp; omega)), by have := hb.size; omega, by rw [hV0] at hb; exact (hb.block _ (by simp)).trans hres0, by rw [hV0] at hb; rw [eC]; exact (hb.block _ (by simp; omega)).trans hbox0⟩)
  rw [hV0] at DP1
  clear DP DP0 hV0 hs0
  by_cases hd : dep > 1000
  · refine callsIn_of_wp_marks Try.func24 rfl trivial ?_ hro
    simp only [Try.ntmps24, List.size_toArray, List.length_cons, List.length_nil, Nat.reduceAdd, Nat.reduceSub, Array.replicate_succ, Array.replicate_zero, List.push_toArray, List.append_toArray, List.nil_append, List.cons_append]
    have hd2 : (1000 : Int) < dep := hd
    gi_wp2_with ((try refine ⟨trivial, ?_⟩); (try refine ⟨hdd _, ?_⟩); gi_at_call 39; refine (callsIn_wide.2 DP1).mono ?_; rintro e W1 ⟨rfl, hb1, hs1, hr1, hx1⟩; have c7 := hr1.cell; have f7 := hr1.frozen)
    have hc5 := (hr1.set (.int .i64 61)).cell
    refine ⟨.int .i64 61, ?_, rfl, hb1.setCell (p := ⟨w.heap.size + 1, 0, none⟩) (by simp) _⟩
    simp [results, Try.f24, go_sem, hc5]
  · refine callsIn_of_wp_marks Try.func24 rfl trivial ?_ hro
    simp only [Try.ntmps24, List.size_toArray, List.length_cons, List.length_nil, Nat.reduceAdd, Nat.reduceSub, Array.replicate_succ, Array.replicate_zero, List.push_toArray, List.append_toArray, List.nil_append, List.cons_append]
    gi_wp2_with (first
      | ((try refine ⟨trivial, ?_⟩); (try refine ⟨hdd _, ?_⟩); gi_at_call 39; refine (callsIn_wide.2 DP1).mono ?_; rintro e W1 ⟨rfl, hb1, hs1, hr1, hx1⟩; rw [eC] at hx1; have y1 : w.heap.size < W1.heap.size := (by omega); have y2 : w.heap.size < W1.heap.size + 1 := (by omega); have y3 : w.heap.size < W1.heap.size + 1 + 1 := (by omega); have y4 : w.heap.size ≠ W1.heap.size := (by omega); have z0 : W1.cell? ⟨w.heap.size, 0, none⟩ = some (.int .i64 kd) := cellB hx1 0; have z1 : W1.cell? ⟨w.heap.size, 1, none⟩ = some (.slice A1 set.length c1) := cellB hx1 1; have z2 : W1.cell? ⟨w.heap.size, 2, none⟩ = some (.int .i64 num) := cellB hx1 2; have z3 : W1.cell? ⟨w.heap.size, 3, none⟩ = some (.string nm) := cellB hx1 3; have z4 : W1.cell? ⟨w.heap.size, 4, none⟩ = some (.int .i64 mn) := cellB hx1 4; have z5 : W1.cell? ⟨w.heap.size, 5, none⟩ = some (.int .i64 mx) := cellB hx1 5; have z6 : W1.cell? ⟨w.heap.size, 6, none⟩ = some (.bool lz) := cellB hx1 6; have z7 : W1.cell? ⟨w.heap.size, 7, none⟩ = some (.slice A7 subs.length c7) := cellB hx1 7)
      | ((try refine ⟨trivial, ?_⟩); (try refine ⟨hdd _, ?_⟩); gi_at_call 49; refine (WI _).mono ?_; rintro e w' ⟨rfl, rfl⟩))
    obtain ⟨M, hM⟩ : ∃ M, M = W1.heap.size := ⟨_, rfl⟩
    clear y2 y3 y4 z0 z1 z2 z3 z4 z5 z6 z7
    obtain ⟨Wb, hWb⟩ : ∃ Wb, Wb = (((W1.alloc (.map #[] 0)).alloc (.cells #[.map (some M)] 91)).alloc (.cells #[.int .i64 0] 3)).alloc (.cells NN.cells.toArray 25) := ⟨_, rfl⟩
    rw [← eC, ← hM, ← hWb]
    have hszb : Wb.heap.size = M + 4 := by rw [hWb]; simp [hM]
    have hMw : w.heap.size + 2 ≤ M := by omega
    have hbb : Below w.heap.size w Wb := by rw [hWb]; exact (((hb1.alloc (by omega) _).alloc (by simp; omega) _).alloc (by simp; omega) _).alloc (by simp; omega) _
    have bm : Boxed Wb (M + 1) 91 (.map (some M)) := by
      rw [hWb]; have := ((Boxed.new (W1.alloc (.map #[] 0)) 91 (.map (some M))).alloc (.cells #[.int .i64 0] 3)).alloc (.cells NN.cells.toArray 25); rwa [World.size_alloc, ← hM] at this
    have bc : Boxed Wb (M + 2) 3 (.int .i64 0) := by
      rw [hWb]; have := (Boxed.new ((W1.alloc (.map #[] 0)).alloc (.cells #[.map (some M)] 91)) 3 (.int .i64 0)).alloc (.cells NN.cells.toArray 25); rwa [World.size_alloc, World.size_alloc, ← hM] at this
    have br : Boxed Wb (w.heap.size + 1) 28 (.int .i64 0) := by rw [hWb]; exact (((hr1.alloc _).alloc _).alloc _).alloc _
    have hown0 : Wb.ownsMap Try.prog 9 (plainElem (H := Nat) Try.prog 3) M 0 (.map []) := by
      rw [hWb, hM]; exact (((World.ownsMap_made W1 Try.prog 9 (plainElem (H := Nat) Try.prog 3)).alloc _).alloc _).alloc _
    have hbox : Wb.heap[M + 1 + 1 + 1]? = some (.cells NN.cells.toArray 25 (0, 0)) := by rw [hWb]; exact new_at _ _ _ (by simp [hM])
    clear hWb hx1 DP1 HB0 hbox0 hres0 hmm
    clear hM
    refine wpIn_rangeFunc_ownH hro h1 (gf := 83) (lb := #[.pointer (some ⟨M + 1 + 1 + 1, 0, none⟩)]) rfl trivial (enters_of Try.func83 (by kernel_rfl) rfl)
      (walk_stops (n - 1) w Wb hbb ⟨NN, hv⟩ (M + 1 + 1 + 1) hbox) Kn.trans (Kn.putObj (by omega)) (Below.refl _ _) (fun _ => rfl)
      (fun pre W => (∃ ns D, chkL (proj pre) = .ok ns ∧ Knows D ns ∧ ns.length ≤ 31 ∧ W.ownsMap Try.prog 9 (plainElem (H := Nat) Try.prog 3) M ns.length D ∧ Boxed W (M + 1) 91 (.map (some M)) ∧ Boxed W (M + 2) 3 (.int .i64 ns.length) ∧ Boxed W (w.heap.size + 1) 28 (.int .i64 0)) ∧ Below w.heap.size w W)
      (fun c pre W => (∃ ec, c = .ret ∧ chkL (proj pre) = .error ec ∧ Boxed W (w.heap.size + 1) 28 (.int .i64 ec)) ∧ Below w.heap.size w W)
      (OwnFrom.and (fun pre X Y row hs hg hr => by
        obtain ⟨ns, D, a1, a2, a3, a4, a5, a6, a7⟩ := hs
        exact ⟨ns, D, a1, a2, a3, a4.kept hg (fun e => by have := (hr _ e.symm).1; omega), boxed_own _ _ (fun (_ : Unit) => Value.map (some M)) () X Y row a5 hg (fun r e => (hr r e).2), boxed_own _ _ (fun (_ : Unit) => Value.int .i64 ns.length) () X Y row a6 hg (fun r e => (hr r e).2), boxed_own _ _ (fun (_ : Unit) => Value.int .i64 0) () X Y row a7 hg (fun r e => (hr r e).2)⟩) (ownFrom_below (Nat.le_refl _) (by omega)))
      (fun c => OwnFrom.and (fun pre X Y row hs hg hr => by
        obtain ⟨ec, a1, a2, a7⟩ := hs
        exact ⟨ec, a1, a2, boxed_own _ _ (fun (_ : Unit) => Value.int .i64 ec) () X Y row a7 hg (fun r e => (hr r e).2)⟩) (ownFrom_below (Nat.le_refl _) (by omega)))
      ⟨⟨[], .map [], rfl, knows_nil, by simp, hown0, bm, bc, br⟩, hbb⟩
      (fun x a' W => ∃ Bx, M + 2 < Bx ∧ W.heap[Bx]? = some (.cells x.2.1.cells.toArray 25 (0, 0)) ∧ a' = { tmps := #[NN.val, .pointer (some ⟨w.heap.size, 0, none⟩), .pointer (some ⟨w.heap.size + 1, 0, none⟩), .pointer (some ⟨M + 1, 0, none⟩), .pointer (some ⟨M + 1 + 1, 0, none⟩), undef, .pointer (some ⟨Bx, 0, none⟩), undef, undef, NN.val, .int .i64 dep, .bool (decide (1000 < dep)), .map (some M), NN.val, .func (.func 83) #[] #[.pointer (some ⟨M + 1 + 1 + 1, 0, none⟩)], .int .i64 x.1, x.2.1.val, undef, undef, undef, undef, undef, undef, undef, undef, undef, undef, undef, undef, undef, undef, undef, undef, undef, undef, undef, undef, undef, undef, undef, undef, undef, undef, undef, undef, undef, undef, undef, undef, undef, undef], defers := [] })
      (fun x a' _ X Y row hs hg hr => by obtain ⟨Bx, h1, h2, h3⟩ := hs; exact ⟨Bx, h1, box_own Bx _ rfl () X Y row h2 hg (fun r e => (hr r e).2), h3⟩)
      ?assign ?body ?done ?stop
    case assign =>
      rintro l pre x W K ⟨⟨ns, D, a1, a2, a3, a4, a5, a6, a7⟩, hB⟩ hK
      obtain ⟨dp, ⟨⟨⟨kd', set', num', nm', mn', mx', lz', subs'⟩, A1', c1', A7', c7'⟩, hvx⟩⟩ := x
      dsimp only [Step.vals, NV.val, NV.cells] at hK ⊢
      simp only [List.zip_toArray, List.zip_cons_cons, List.zip_nil_left, List.zip_nil_right, List.foldl_toArray', List.foldl_toArray, List.foldl_cons, List.foldl_nil, List.setIfInBounds_toArray, List.set_cons_succ, List.set_cons_zero, List.size_toArray]
      gi_wp2
      exact hK _ _ ((KeepsOthers.alloc _ _).from _) ((Kn.refl _ W).alloc hB.size _) ⟨⟨ns, D, a1, a2, a3, a4.alloc _, a5.alloc _, a6.alloc _, a7.alloc _⟩, hB.alloc hB.size _⟩ ⟨W.heap.size, a6.lt, new_at _ _ _ rfl, rfl⟩
    case body =>
      rintro l pre x a' W hl ⟨r, hr⟩ ⟨⟨ns, D, a1, a2, a3, a4, a5, a6, a7⟩, hB⟩ ⟨Bx, hBx, bX, rfl⟩ hlen
      have ep : proj (pre ++ [x]) = proj pre ++ [(x.1, x.2.1.n)] := by simp [proj]
      have hst : chkL (proj (pre ++ [x])) = chkStep (.ok ns) (x.1, x.2.1.n) := by rw [ep, chkL_snoc, a1]
      obtain ⟨dp, ⟨xv, hvx⟩⟩ := x
      have hvW : xv.ok W := okBelow hvx hB
      have FT := (fits_calls xv W hvW hvW.g1.2.1).mono (R' := fun e W2 => e = .returned (.bool (fitsV xv.n)) ∧ Kp [] W W2 ∧ Below w.heap.size w W2 ∧ W2.heap[Bx]? = some (.cells xv.cells.toArray 25 (0, 0)) ∧ W2.ownsMap Try.prog 9 (plainElem (H := Nat) Try.prog 3) M ns.length D ∧ Boxed W2 (M + 1) 91 (.map (some M)) ∧ Boxed W2 (M + 2) 3 (.int .i64 ns.length) ∧ Boxed W2 (w.heap.size + 1) 28 (.int .i64 0))
        (fun e W2 ⟨he, k⟩ => ⟨he, k, hB.trans (k.bel.mono hB.size), kblk k bX, ownsKp k a4, kblk k a5, kblk k a6, kblk k a7⟩)
      have hshort := name_short (n := xv.n)
      obtain ⟨⟨kd', set', num', nm', mn', mx', lz', subs'⟩, A1', c1', A7', c7'⟩ := xv
      dsimp only [NV.val, NV.cells] at bX hst FT hshort ⊢
      have z0 := cellB bX 0; have z1 := cellB bX 1; have z2 := cellB bX 2; have z3 := cellB bX 3
      have z4 := cellB bX 4; have z5 := cellB bX 5; have z6 := cellB bX 6; have z7 := cellB bX 7
      have HST := Lib.hid hst
      have HSH := Lib.hid hshort
      clear hst ep hvW hshort bX
      cases hf : fitsV ⟨kd', set', num', nm', mn', mx', lz', subs'⟩
      · rw [hf] at FT
        gi_wp2_with ((try refine ⟨trivial, ?_⟩); (try refine ⟨hdd _, ?_⟩); gi_at_call 68; refine (CallsIn.inRound l (callsIn_wide.2 FT)).mono ?_; rintro e W2 ⟨rfl, k2, hB2, bX2, o2, b5, b6, b7⟩; have c7 := b7.cell; have f7 := b7.frozen)
        exact ⟨(kpFrom k2).trans ((KeepsOthers.setCell _ _ _).from _), ⟨60, rfl, by rw [HST.out]; exact chk_no hf, b7.set _⟩, hB2.setCell (p := ⟨w.heap.size + 1, 0, none⟩) (by simp) _⟩
      · rw [hf] at FT
        by_cases h6 : kd' = 6
        rotate_left
        · have FT2 := FT
          gi_wp2_with ((try refine ⟨trivial, ?_⟩); (try refine ⟨hdd _, ?_⟩); gi_at_call 68; refine (CallsIn.inRound l (callsIn_wide.2 FT)).mono ?_; rintro e W2 ⟨rfl, k2, hB2, bX2, o2, b5, b6, b7⟩; have c7 := b7.cell; have f7 := b7.frozen; have c6 := b6.cell; have f6 := b6.frozen; have c5 := b5.cell; have y0 : W2.cell? ⟨Bx, 0, none⟩ = some (.int .i64 kd') := cellB bX2 0; have y2 : W2.cell? ⟨Bx, 2, none⟩ = some (.int .i64 num') := cellB bX2 2; have y3 : W2.cell? ⟨Bx, 3, none⟩ = some (.string nm') := cellB bX2 3)
          exact ⟨kpFrom k2, Kn.ofKp k2 hB.size, ⟨ns, D, by rw [HST.out]; exact chk_skip hf h6, a2, a3, o2, b5, b6, b7⟩, hB2⟩
        · subst h6
          have hkey := WideMaps.keyOf_string_mk (P := Try.prog) (k := 9) Try.underlying9 (HSH.out hf rfl)
          have hroom : ns.length < maxLen := by have : (32 : Nat) ≤ maxLen := by { decide }
                                                omega
          have hwf := wf_small ns.length a3
          have hne1 : Bx ≠ M + 1 + 1 := by omega
          have hne2 : M + 1 ≠ M + 1 + 1 := by omega
          have hne3 : w.heap.size + 1 ≠ M + 1 + 1 := by omega
          by_cases hnum : num' = (ns.length : Int) + 1
          rotate_left
          · have dn : (num' != (ns.length : Int) + 1) = true := (bne_iff_ne).2 hnum
            gi_wp2_with (first | ((try refine ⟨trivial, ?_⟩); (try refine ⟨hdd _, ?_⟩); gi_at_call 68; refine (CallsIn.inRound l (callsIn_wide.2 FT)).mono ?_; rintro e W2 ⟨rfl, k2, hB2, bX2, o2, b5, b6, b7⟩; have c7 := b7.cell; have f7 := b7.frozen; have c6 := b6.cell; have f6 := b6.frozen; have c5 := b5.cell; have y0 : W2.cell? ⟨Bx, 0, none⟩ = some (.int .i64 6) := cellB bX2 0; have y2 : W2.cell? ⟨Bx, 2, none⟩ = some (.int .i64 num') := cellB bX2 2; have y3 : W2.cell? ⟨Bx, 3, none⟩ = some (.string nm') := cellB bX2 3) | (gi_at_lookup; refine wpListIn_lookup_own_ok_int _ rfl _ _ 91 rfl 9 3 .i64 (Maps.string_keyed Try.underlying9) Try.underlying91 Try.underlying3 (Try.zeroValue3 _) M ns.length D rfl (o2.kept (grownBy_setCell' W2 (M + 1 + 1) _) (fun e => by injection e; omega)) _ _ rfl hkey ?_; intro c hat hwc))
            exact ⟨((kpFrom k2).trans ((KeepsOthers.setCell _ _ _).from _)).trans ((KeepsOthers.setCell _ _ _).from _), ⟨60, rfl, by rw [HST.out]; exact chk_num hf rfl hnum, (b7.other (by omega) _).set _⟩, (hB2.setCell (p := ⟨M + 2, 0, none⟩) (by simp; omega) _).setCell (p := ⟨w.heap.size + 1, 0, none⟩) (by simp) _⟩
          · have dn : (num' != (ns.length : Int) + 1) = false := by rw [hnum]; simp
            replace hnum := Lib.hid hnum
            by_cases hbig : ns.length = 31
            · have db : decide ((31 : Int) < (ns.length : Int) + 1) = true := decide_eq_true (by omega)
              replace hbig := Lib.hid hbig
              gi_wp2_with (first | ((try refine ⟨trivial, ?_⟩); (try refine ⟨hdd _, ?_⟩); gi_at_call 68; refine (CallsIn.inRound l (callsIn_wide.2 FT)).mono ?_; rintro e W2 ⟨rfl, k2, hB2, bX2, o2, b5, b6, b7⟩; have c7 := b7.cell; have f7 := b7.frozen; have c6 := b6.cell; have f6 := b6.frozen; have c5 := b5.cell; have y0 : W2.cell? ⟨Bx, 0, none⟩ = some (.int .i64 6) := cellB bX2 0; have y2 : W2.cell? ⟨Bx, 2, none⟩ = some (.int .i64 num') := cellB bX2 2; have y3 : W2.cell? ⟨Bx, 3, none⟩ = some (.string nm') := cellB bX2 3) | (gi_at_lookup; refine wpListIn_lookup_own_ok_int _ rfl _ _ 91 rfl 9 3 .i64 (Maps.string_keyed Try.underlying9) Try.underlying91 Try.underlying3 (Try.zeroValue3 _) M ns.length D rfl (o2.kept (grownBy_setCell' W2 (M + 1 + 1) _) (fun e => by injection e; omega)) _ _ rfl hkey ?_; intro c hat hwc) | (gi_at_mapUpdate; refine wpListIn_mapUpdate_own _ rfl _ _ _ 91 rfl 9 3 (Maps.string_keyed Try.underlying9) Try.underlying91 _ M ns.length _ rfl (o2.kept (grownBy_setCell' W2 (M + 1 + 1) _) (fun e => by injection e; omega)) hroom _ _ _ rfl rfl hkey _ [] (plainElem_int Try.underlying3 hwf) ?_; intro w1 hown1 hgrow1))
              exact ⟨((kpFrom k2).trans ((KeepsOthers.setCell _ _ _).from _)).trans ((KeepsOthers.setCell _ _ _).from _), ⟨2, rfl, by rw [HST.out]; exact chk_long hf rfl hnum.out hbig.out, (b7.other (by omega) _).set _⟩, (hB2.setCell (p := ⟨M + 2, 0, none⟩) (by simp; omega) _).setCell (p := ⟨w.heap.size + 1, 0, none⟩) (by simp) _⟩
            · have db : decide ((31 : Int) < (ns.length : Int) + 1) = false := decide_eq_false (by omega)
              have a30 : ns.length ≤ 30 := by omega
              clear hbig
              by_cases hin : nm' ∈ ns
              · have hhas : Maps.has D (.string nm'.data.toList) = true := (a2.2 nm').2 hin
                have hem2 : ∃ b, nm'.toList.isEmpty = b := ⟨_, rfl⟩
                obtain ⟨b, hem2⟩ := hem2
                have HIN := Lib.hid hin
                clear hin
                cases b
                · have HE := Lib.hid (show emptyS nm' = false from hem2)
                  gi_wp2_with (first | ((try refine ⟨trivial, ?_⟩); (try refine ⟨hdd _, ?_⟩); gi_at_call 68; refine (CallsIn.inRound l (callsIn_wide.2 FT)).mono ?_; rintro e W2 ⟨rfl, k2, hB2, bX2, o2, b5, b6, b7⟩; have c7 := b7.cell; have f7 := b7.frozen; have c6 := b6.cell; have f6 := b6.frozen; have c5 := b5.cell; have y0 : W2.cell? ⟨Bx, 0, none⟩ = some (.int .i64 6) := cellB bX2 0; have y2 : W2.cell? ⟨Bx, 2, none⟩ = some (.int .i64 num') := cellB bX2 2; have y3 : W2.cell? ⟨Bx, 3, none⟩ = some (.string nm') := cellB bX2 3) | (gi_at_lookup; refine wpListIn_lookup_own_ok_int _ rfl _ _ 91 rfl 9 3 .i64 (Maps.string_keyed Try.underlying9) Try.underlying91 Try.underlying3 (Try.zeroValue3 _) M ns.length D rfl (o2.kept (grownBy_setCell' W2 (M + 1 + 1) _) (fun e => by injection e; omega)) _ _ rfl hkey ?_; intro c hat hwc) | (gi_at_mapUpdate; refine wpListIn_mapUpdate_own _ rfl _ _ _ 91 rfl 9 3 (Maps.string_keyed Try.underlying9) Try.underlying91 _ M ns.length _ rfl (o2.kept (grownBy_setCell' W2 (M + 1 + 1) _) (fun e => by injection e; omega)) hroom _ _ _ rfl rfl hkey _ [] (plainElem_int Try.underlying3 hwf) ?_; intro w1 hown1 hgrow1))
                  exact ⟨((kpFrom k2).trans ((KeepsOthers.setCell _ _ _).from _)).trans ((KeepsOthers.setCell _ _ _).from _), ⟨6, rfl, by rw [HST.out]; exact chk_twice hf rfl hnum.out a30 HIN.out HE.out, (b7.other (by omega) _).set _⟩, (hB2.setCell (p := ⟨M + 2, 0, none⟩) (by simp; omega) _).setCell (p := ⟨w.heap.size + 1, 0, none⟩) (by simp) _⟩
                · have HE := Lib.hid (show emptyS nm' = true from hem2)
                  gi_wp2_with (first | ((try refine ⟨trivial, ?_⟩); (try refine ⟨hdd _, ?_⟩); gi_at_call 68; refine (CallsIn.inRound l (callsIn_wide.2 FT)).mono ?_; rintro e W2 ⟨rfl, k2, hB2, bX2, o2, b5, b6, b7⟩; have c7 := b7.cell; have f7 := b7.frozen; have c6 := b6.cell; have f6 := b6.frozen; have c5 := b5.cell; have y0 : W2.cell? ⟨Bx, 0, none⟩ = some (.int .i64 6) := cellB bX2 0; have y2 : W2.cell? ⟨Bx, 2, none⟩ = some (.int .i64 num') := cellB bX2 2; have y3 : W2.cell? ⟨Bx, 3, none⟩ = some (.string nm') := cellB bX2 3) | (gi_at_lookup; refine wpListIn_lookup_own_ok_int _ rfl _ _ 91 rfl 9 3 .i64 (Maps.string_keyed Try.underlying9) Try.underlying91 Try.underlying3 (Try.zeroValue3 _) M ns.length D rfl (o2.kept (grownBy_setCell' W2 (M + 1 + 1) _) (fun e => by injection e; omega)) _ _ rfl hkey ?_; intro c hat hwc) | (gi_at_mapUpdate; refine wpListIn_mapUpdate_own _ rfl _ _ _ 91 rfl 9 3 (Maps.string_keyed Try.underlying9) Try.underlying91 _ M ns.length _ rfl (o2.kept (grownBy_setCell' W2 (M + 1 + 1) _) (fun e => by injection e; omega)) hroom _ _ _ rfl rfl hkey _ [] (plainElem_int Try.underlying3 hwf) ?_; intro w1 hown1 hgrow1))
                  obtain ⟨es, ck, hh, _⟩ := o2.kept (grownBy_setCell' W2 (M + 1 + 1) (.int .i64 ((ns.length : Int) + 1))) (fun e => by injection e; omega)
                  exact ⟨((kpFrom k2).trans ((KeepsOthers.setCell _ _ _).from _)).trans (KeepsFrom.of_grownBy hgrow1 (fun j e => by cases e; omega)), ((Kn.ofKp k2 hB.size).trans (Kn.setBox b6 (by decide) (by omega) _)).trans (Kn.grown hgrow1 (by have := hB2.size; simp; omega) (fun r e => by cases e; exact ⟨by omega, fun cs hx => by rw [hh] at hx; cases hx⟩)),
                    ⟨ns ++ [nm'], _, by rw [HST.out]; exact chk_fine hf rfl hnum.out (by omega) (fun h => by have := h.2; dsimp only at this; rw [HE.out] at this; cases this), a2.put nm' _, by simp; omega, by rw [List.length_append]; exact hown1, (b5.other (by omega) _).kept hgrow1 (fun e => by injection e; omega), by simp only [List.length_append, List.length_singleton]; exact (b6.set _).kept hgrow1 (fun e => by injection e; omega), (b7.other (by omega) _).kept hgrow1 (fun e => by injection e; omega)⟩,
                    (hB2.setCell (p := ⟨M + 2, 0, none⟩) (by simp; omega) _).grown hgrow1 (by have := hB2.size; simp; omega) (fun k e => by cases e; omega)⟩
              · have hhas : Maps.has D (.string nm'.data.toList) = false := Bool.eq_false_iff.2 (fun h => hin ((a2.2 nm').1 h))
                have HIN := Lib.hid hin
                clear hin
                · gi_wp2_with (first | ((try refine ⟨trivial, ?_⟩); (try refine ⟨hdd _, ?_⟩); gi_at_call 68; refine (CallsIn.inRound l (callsIn_wide.2 FT)).mono ?_; rintro e W2 ⟨rfl, k2, hB2, bX2, o2, b5, b6, b7⟩; have c7 := b7.cell; have f7 := b7.frozen; have c6 := b6.cell; have f6 := b6.frozen; have c5 := b5.cell; have y0 : W2.cell? ⟨Bx, 0, none⟩ = some (.int .i64 6) := cellB bX2 0; have y2 : W2.cell? ⟨Bx, 2, none⟩ = some (.int .i64 num') := cellB bX2 2; have y3 : W2.cell? ⟨Bx, 3, none⟩ = some (.string nm') := cellB bX2 3) | (gi_at_lookup; refine wpListIn_lookup_own_ok_int _ rfl _ _ 91 rfl 9 3 .i64 (Maps.string_keyed Try.underlying9) Try.underlying91 Try.underlying3 (Try.zeroValue3 _) M ns.length D rfl (o2.kept (grownBy_setCell' W2 (M + 1 + 1) _) (fun e => by injection e; omega)) _ _ rfl hkey ?_; intro c hat hwc) | (gi_at_mapUpdate; refine wpListIn_mapUpdate_own _ rfl _ _ _ 91 rfl 9 3 (Maps.string_keyed Try.underlying9) Try.underlying91 _ M ns.length _ rfl (o2.kept (grownBy_setCell' W2 (M + 1 + 1) _) (fun e => by injection e; omega)) hroom _ _ _ rfl rfl hkey _ [] (plainElem_int Try.underlying3 hwf) ?_; intro w1 hown1 hgrow1))
                  obtain ⟨es, ck, hh, _⟩ := o2.kept (grownBy_setCell' W2 (M + 1 + 1) (.int .i64 ((ns.length : Int) + 1))) (fun e => by injection e; omega)
                  exact ⟨((kpFrom k2).trans ((KeepsOthers.setCell _ _ _).from _)).trans (KeepsFrom.of_grownBy hgrow1 (fun j e => by cases e; omega)), ((Kn.ofKp k2 hB.size).trans (Kn.setBox b6 (by decide) (by omega) _)).trans (Kn.grown hgrow1 (by have := hB2.size; simp; omega) (fun r e => by cases e; exact ⟨by omega, fun cs hx => by rw [hh] at hx; cases hx⟩)),
                    ⟨ns ++ [nm'], _, by rw [HST.out]; exact chk_fine hf rfl hnum.out (by omega) (fun h => HIN.out h.1), a2.put nm' _, by simp; omega, by rw [List.length_append]; exact hown1, (b5.other (by omega) _).kept hgrow1 (fun e => by injection e; omega), by simp only [List.length_append, List.length_singleton]; exact (b6.set _).kept hgrow1 (fun e => by injection e; omega), (b7.other (by omega) _).kept hgrow1 (fun e => by injection e; omega)⟩,
                    (hB2.setCell (p := ⟨M + 2, 0, none⟩) (by simp; omega) _).grown hgrow1 (by have := hB2.size; simp; omega) (fun k e => by cases e; omega)⟩
    case done =>
      rintro D0 ys W hD hys ⟨⟨ns, D, a1, a2, a3, a4, a5, a6, a7⟩, hB⟩ hK
      rw [hys] at a1
      have hcell := a7.cell
      have hfr := a7.frozen
      gi_wp2
      have hK' := (KeepsOthers.setCell W ⟨w.heap.size + 1, 0, none⟩ (.int .i64 0)).same D0 _ hK rfl
      refine ⟨by simp, .inl ⟨_, _, rfl, run_takeDeferred hK', ?_⟩⟩
      have hc5 := cell_kept (a7.set (.int .i64 0)).cell (grownBy_putObj' _ D0 (.deferred none)) (fun r e => by cases e; exact ⟨_, hK', rfl⟩)
      refine ⟨.int .i64 0, ?_, rfl, (hB.setCell (p := ⟨w.heap.size + 1, 0, none⟩) (by simp) _).trans (belowK_b (w := Wb) (by omega) _ D0 _ _ (by omega) hK' rfl rfl)⟩
      simp [results, Try.f24, go_sem, hc5]
    case stop =>
      rintro D0 c pre W hD hpre ⟨⟨ec, rfl, a1, a7⟩, hB⟩ hK
      have a2 := chkL_pre a1 hpre
      have hcell := a7.cell
      have hfr := a7.frozen
      gi_wp2
      refine ⟨by simp, .inl ⟨_, _, rfl, run_takeDeferred hK, ?_⟩⟩
      have hc5 := cell_kept hcell (grownBy_putObj' _ D0 (.deferred none)) (fun r e => by cases e; exact ⟨_, hK, rfl⟩)
      refine ⟨.int .i64 ec, ?_, rfl, hB.trans (belowK_b (w := Wb) (by omega) _ D0 _ _ (by omega) hK rfl rfl)⟩
      simp [results, Try.f24, go_sem, hc5]
end Go.Proofs.Ytojlhlepneefoaa
/- Package tree: the printed functions, plainly: depth, the document's depth and nullable, the weight. -/
namespace Go.Proofs.Ytojlhlepneefoaa
open Go.RowKit PAll Go.Proofs.YtojlhlepneefoaaW.PrintWords Go.Proofs.YtojlhlepneefoaaW.PrintLast Go.Proofs.YtojlhlepneefoaaW.PrintMore
open Go.Shelf
set_option linter.unusedVariables false
set_option linter.unusedSimpArgs false

theorem w64 {n : Int} (h : -9223372036854775808 ≤ n) (h2 : n ≤ 9223372036854775807) : wrap64 n = n := by unfold wrap64; omega
theorem rd_at (l : List S25) (i : Nat) (h : i < l.length) : rd_T25 l (i : Int) = l[i] := by simp [rd_T25, List.getD, List.getElem?_eq_getElem h]
/-- A tree no higher than d, each node with at most 200 parts. -/
def Thin : Nat → S25 → Prop
  | 0, _ => False
  | d + 1, n => n.f7.length ≤ 200 ∧ (∀ x ∈ n.f7, Thin d x) ∧ n.f1.length ≤ 200 ∧ n.f3.size ≤ 100
theorem Thin.mono {d e : Nat} (h : d ≤ e) : ∀ {n : S25}, Thin d n → Thin e n := by
  induction d generalizing e with
  | zero => intro n hn; exact hn.elim
  | succ d ih =>
    intro n hn
    obtain ⟨e', rfl⟩ : ∃ e', e = e' + 1 := ⟨e - 1, by omega⟩
    exact ⟨hn.1, fun x hx => ih (by omega) (hn.2.1 x hx), hn.2.2⟩
def depthP : Nat → S25 → Int
  | 0, _ => 0
  | m + 1, n => if m = 0 then 1 else (n.f7.map (depthP m)).foldl mx 0 + 1
theorem mx_le {a b c : Int} (h : a ≤ c) (k : b ≤ c) : mx a b ≤ c := by unfold mx; split <;> omega
theorem le_mx (a b : Int) : a ≤ mx a b ∧ b ≤ mx a b := by unfold mx; split <;> omega
theorem foldmx_le {c : Int} : ∀ (l : List Int) (a : Int), a ≤ c → (∀ x ∈ l, x ≤ c) → l.foldl mx a ≤ c
  | [], a, h, _ => h
  | x :: l, a, h, k => foldmx_le l _ (mx_le h (k x (by simp))) (fun y hy => k y (by simp [hy]))
theorem le_foldmx : ∀ (l : List Int) (a : Int), a ≤ l.foldl mx a
  | [], a => Int.le_refl _
  | x :: l, a => Int.le_trans (le_mx a x).1 (le_foldmx l _)
theorem depthP_le : ∀ (m : Nat) (n : S25), 0 ≤ depthP m n ∧ depthP m n ≤ m
  | 0, n => by simp [depthP]
  | m + 1, n => by
    unfold depthP
    split
    · omega
    · have h1 : (n.f7.map (depthP m)).foldl mx 0 ≤ m := foldmx_le _ _ (by omega) (fun x hx => by
        obtain ⟨y, _, rfl⟩ := List.mem_map.1 hx
        exact (depthP_le m y).2)
      have h2 := le_foldmx (n.f7.map (depthP m)) 0
      omega
theorem depth_l (m : Nat) (hm : m < 1000000) (hm1 : 1 ≤ m) (l : List S25) (hl : l.length ≤ 200) (K : Nat) (hK : ∀ x ∈ l, ∀ k, K ≤ k → tree_depth.f k x.f0 x.f1 x.f2 x.f3 x.f4 x.f5 x.f6 x.f7 (m : Int) = some (depthP m x)) :
    ∀ (r i : Nat) (acc : Int), l.length - i ≤ r → i ≤ l.length → 0 ≤ acc → acc ≤ m → ∀ k, K + r + 1 ≤ k → tree_depth.l0 k ((m + 1 : Nat) : Int) acc l (l.length : Int) (i : Int) = some (((l.drop i).map (depthP m)).foldl mx acc + 1) := by
  intro r
  induction r with
  | zero =>
    intro i acc h1 h2 h3 h4 k hk
    obtain rfl : i = l.length := by omega
    obtain ⟨k, rfl⟩ : ∃ k', k = k' + 1 := ⟨k - 1, by omega⟩
    unfold tree_depth.l0
    rw [if_neg (by omega), List.drop_length, w64 (by omega) (by omega)]
    rfl
  | succ r ih =>
    intro i acc h1 h2 h3 h4 k hk
    obtain ⟨k, rfl⟩ : ∃ k', k = k' + 1 := ⟨k - 1, by omega⟩
    by_cases hi : i < l.length
    · unfold tree_depth.l0
      rw [if_pos (by omega), if_pos (by omega), if_pos (by omega), rd_at l i hi, w64 (n := ((m + 1 : Nat) : Int) - 1) (by omega) (by omega), show ((m + 1 : Nat) : Int) - 1 = (m : Int) by omega, hK _ (List.getElem_mem hi) k (by omega)]
      have hd := depthP_le m l[i]
      have hx := le_mx acc (depthP m l[i])
      rw [w64 (n := (i : Int) + 1) (by omega) (by omega), show (i : Int) + 1 = ((i + 1 : Nat) : Int) by omega]
      refine (ih (i + 1) (mx acc (depthP m l[i])) (by omega) (by omega) (by omega) (mx_le h4 hd.2) k (by omega)).trans ?_
      rw [List.drop_eq_getElem_cons hi]
      rfl
    · obtain rfl : i = l.length := by omega
      unfold tree_depth.l0
      rw [if_neg (by omega), List.drop_length, w64 (by omega) (by omega)]
      rfl
theorem kmax (l : List S25) (P : S25 → Nat → Prop) (h : ∀ x ∈ l, ∃ K, ∀ k, K ≤ k → P x k) : ∃ K, ∀ x ∈ l, ∀ k, K ≤ k → P x k := by
  induction l with
  | nil => exact ⟨0, fun x hx => by cases hx⟩
  | cons a l ih =>
    obtain ⟨K1, h1⟩ := h a (by simp)
    obtain ⟨K2, h2⟩ := ih (fun x hx => h x (by simp [hx]))
    refine ⟨K1 + K2, fun x hx k hk => ?_⟩
    rcases List.mem_cons.1 hx with rfl | hx
    · exact h1 k (by omega)
    · exact h2 x hx k (by omega)
theorem depth_f : ∀ (d : Nat) (n : S25), Thin d n → ∀ (m : Nat), m < 1000000 → ∃ K, ∀ k, K ≤ k → tree_depth.f k n.f0 n.f1 n.f2 n.f3 n.f4 n.f5 n.f6 n.f7 (m : Int) = some (depthP m n) := by
  intro d
  induction d with
  | zero => intro n h; exact h.elim
  | succ d ih =>
    intro n h m hm
    rcases m with _ | _ | m
    · exact ⟨1, fun k hk => by obtain ⟨k, rfl⟩ : ∃ k', k = k' + 1 := ⟨k - 1, by omega⟩; simp [tree_depth.f, depthP]⟩
    · exact ⟨1, fun k hk => by obtain ⟨k, rfl⟩ : ∃ k', k = k' + 1 := ⟨k - 1, by omega⟩; simp [tree_depth.f, depthP]⟩
    · obtain ⟨K, hK⟩ := kmax n.f7 _ (fun x hx => ih x (h.2.1 x hx) (m + 1) (by omega))
      refine ⟨K + n.f7.length + 2, fun k hk => ?_⟩
      obtain ⟨k, rfl⟩ : ∃ k', k = k' + 1 := ⟨k - 1, by omega⟩
      unfold tree_depth.f
      rw [if_neg (by omega)]
      have := depth_l (m + 1) (by omega) (by omega) n.f7 h.1 K hK n.f7.length 0 0 (by omega) (by omega) (by omega) (by omega) k (by omega)
      refine this.trans ?_
      simp [depthP]
theorem Depth_f {d : Nat} {n : S25} (h : Thin d n) : ∃ K, ∀ k, K ≤ k → tree_Depth.f k n.f0 n.f1 n.f2 n.f3 n.f4 n.f5 n.f6 n.f7 = some (depthP 1001 n) := by
  obtain ⟨K, hK⟩ := depth_f d n h 1001 (by omega)
  refine ⟨K, fun k hk => ?_⟩
  unfold tree_Depth.f
  rw [show (1001 : Int) = ((1001 : Nat) : Int) from rfl, hK k hk]
  rfl
theorem rdepth_l (m : Nat) (hm : m < 1000000) (hm1 : 1 ≤ m) (a0 : Int) (a1 : List S103) (a2 : Int) (a3 : ByteArray) (a4 a5 : Int) (a6 : Bool) (l : List S25) (hl : l.length ≤ 200) (K : Nat) (hK : ∀ x ∈ l, ∀ k, K ≤ k → burinref06_Depth.f k x.f0 x.f1 x.f2 x.f3 x.f4 x.f5 x.f6 x.f7 (m : Int) = some (depthP m x)) :
    ∀ (r i : Nat) (acc : Int), l.length - i ≤ r → i ≤ l.length → 0 ≤ acc → acc ≤ m → ∀ k, K + r + 1 ≤ k → burinref06_Depth.l0 k ((m + 1 : Nat) : Int) acc (i : Int) a0 a1 a2 a3 a4 a5 a6 l = some (((l.drop i).map (depthP m)).foldl mx acc + 1) := by
  intro r
  induction r with
  | zero =>
    intro i acc h1 h2 h3 h4 k hk
    obtain rfl : i = l.length := by omega
    obtain ⟨k, rfl⟩ : ∃ k', k = k' + 1 := ⟨k - 1, by omega⟩
    unfold burinref06_Depth.l0
    rw [if_neg (by omega), List.drop_length, w64 (by omega) (by omega)]
    rfl
  | succ r ih =>
    intro i acc h1 h2 h3 h4 k hk
    obtain ⟨k, rfl⟩ : ∃ k', k = k' + 1 := ⟨k - 1, by omega⟩
    by_cases hi : i < l.length
    · unfold burinref06_Depth.l0
      rw [if_pos (by omega), if_pos (by omega), rd_at l i hi, w64 (n := ((m + 1 : Nat) : Int) - 1) (by omega) (by omega), show ((m + 1 : Nat) : Int) - 1 = (m : Int) by omega, hK _ (List.getElem_mem hi) k (by omega)]
      have hd := depthP_le m l[i]
      rw [w64 (n := (i : Int) + 1) (by omega) (by omega), show (i : Int) + 1 = ((i + 1 : Nat) : Int) by omega]
      show (if depthP m l[i] > acc then _ else _) = _
      have hx := le_mx acc (depthP m l[i])
      have e : (if depthP m l[i] > acc then burinref06_Depth.l0 k ((m + 1 : Nat) : Int) (depthP m l[i]) ((i + 1 : Nat) : Int) a0 a1 a2 a3 a4 a5 a6 l else burinref06_Depth.l0 k ((m + 1 : Nat) : Int) acc ((i + 1 : Nat) : Int) a0 a1 a2 a3 a4 a5 a6 l) = burinref06_Depth.l0 k ((m + 1 : Nat) : Int) (mx acc (depthP m l[i])) ((i + 1 : Nat) : Int) a0 a1 a2 a3 a4 a5 a6 l := by
        unfold mx; split <;> rfl
      refine e.trans ((ih (i + 1) (mx acc (depthP m l[i])) (by omega) (by omega) (by omega) (mx_le h4 hd.2) k (by omega)).trans ?_)
      rw [List.drop_eq_getElem_cons hi]
      rfl
    · obtain rfl : i = l.length := by omega
      unfold burinref06_Depth.l0
      rw [if_neg (by omega), List.drop_length, w64 (by omega) (by omega)]
      rfl
theorem rdepth_f : ∀ (d : Nat) (n : S25), Thin d n → ∀ (m : Nat), m < 1000000 → ∃ K, ∀ k, K ≤ k → burinref06_Depth.f k n.f0 n.f1 n.f2 n.f3 n.f4 n.f5 n.f6 n.f7 (m : Int) = some (depthP m n) := by
  intro d
  induction d with
  | zero => intro n h; exact h.elim
  | succ d ih =>
    intro n h m hm
    rcases m with _ | _ | m
    · exact ⟨1, fun k hk => by obtain ⟨k, rfl⟩ : ∃ k', k = k' + 1 := ⟨k - 1, by omega⟩; simp [burinref06_Depth.f, depthP]⟩
    · exact ⟨1, fun k hk => by obtain ⟨k, rfl⟩ : ∃ k', k = k' + 1 := ⟨k - 1, by omega⟩; simp [burinref06_Depth.f, depthP]⟩
    · obtain ⟨K, hK⟩ := kmax n.f7 _ (fun x hx => ih x (h.2.1 x hx) (m + 1) (by omega))
      refine ⟨K + n.f7.length + 2, fun k hk => ?_⟩
      obtain ⟨k, rfl⟩ : ∃ k', k = k' + 1 := ⟨k - 1, by omega⟩
      unfold burinref06_Depth.f
      rw [if_neg (by omega)]
      have := rdepth_l (m + 1) (by omega) (by omega) n.f0 n.f1 n.f2 n.f3 n.f4 n.f5 n.f6 n.f7 h.1 K hK n.f7.length 0 0 (by omega) (by omega) (by omega) (by omega) k (by omega)
      refine this.trans ?_
      simp [depthP]
theorem rnull_l (m : Nat) (hm : m < 1000000) (n : S25) (hl : n.f7.length ≤ 200) (K : Nat) (hK : ∀ x ∈ n.f7, ∀ k, K ≤ k → burinref06_Nullable.f k x.f0 x.f1 x.f2 x.f3 x.f4 x.f5 x.f6 x.f7 (m : Int) = some (nullP m x)) :
    ∀ (r i : Nat) (a o : Bool), n.f7.length - i ≤ r → i ≤ n.f7.length → a = (n.f7.take i).all (nullP m) → o = (n.f7.take i).any (nullP m) → ∀ k, K + r + 4 ≤ k → burinref06_Nullable.l0 k ((m + 1 : Nat) : Int) a o (i : Int) n.f0 n.f1 n.f2 n.f3 n.f4 n.f5 n.f6 n.f7 = some (nullP (m + 1) n) := by
  intro r
  have fin : ∀ (i : Nat) (a o : Bool), i = n.f7.length → a = (n.f7.take i).all (nullP m) → o = (n.f7.take i).any (nullP m) → ∀ k, K + 4 ≤ k → burinref06_Nullable.l0 k ((m + 1 : Nat) : Int) a o (i : Int) n.f0 n.f1 n.f2 n.f3 n.f4 n.f5 n.f6 n.f7 = some (nullP (m + 1) n) := by
    intro i a o hi ha ho k hk
    subst hi
    rw [List.take_length] at ha ho
    obtain ⟨k, rfl⟩ : ∃ k', k = k' + 3 := ⟨k - 3, by omega⟩
    unfold burinref06_Nullable.l0
    rw [if_neg (by omega)]
    unfold nullP
    rw [← ha, ← ho]
    by_cases e1 : n.f0 = 1
    · simp [e1, burinref06_Nullable.j1]
    by_cases e5 : n.f0 = 5
    · simp [e5, burinref06_Nullable.j1]
    by_cases e6 : n.f0 = 6
    · simp [e6, burinref06_Nullable.j1, burinref06_Nullable.j2]
    by_cases e7 : n.f0 = 7
    · simp [e7, burinref06_Nullable.j1, burinref06_Nullable.j2]
    by_cases e8 : n.f0 = 8
    · simp [e8, burinref06_Nullable.j1, burinref06_Nullable.j2]
    by_cases e9 : n.f0 = 9
    · by_cases e4 : n.f4 = 0 <;> simp [e9, e4, burinref06_Nullable.j1, burinref06_Nullable.j2]
    simp [e1, e5, e6, e7, e8, e9, burinref06_Nullable.j1, burinref06_Nullable.j2]
  induction r with
  | zero =>
    intro i a o h1 h2 ha ho k hk
    exact fin i a o (by omega) ha ho k (by omega)
  | succ r ih =>
    intro i a o h1 h2 ha ho k hk
    by_cases hi : i < n.f7.length
    · obtain ⟨k, rfl⟩ : ∃ k', k = k' + 1 := ⟨k - 1, by omega⟩
      unfold burinref06_Nullable.l0
      rw [if_pos (by omega), if_pos (by omega), rd_at n.f7 i hi, w64 (n := ((m + 1 : Nat) : Int) - 1) (by omega) (by omega), show ((m + 1 : Nat) : Int) - 1 = (m : Int) by omega, hK _ (List.getElem_mem hi) k (by omega)]
      rw [w64 (n := (i : Int) + 1) (by omega) (by omega), show (i : Int) + 1 = ((i + 1 : Nat) : Int) by omega]
      have IH := fun a o ha ho => ih (i + 1) a o (by omega) (by omega) ha ho k (by omega)
      rw [List.take_succ_eq_append_getElem hi, List.all_append, List.any_append, ← ha, ← ho] at IH
      simp only [List.all_cons, List.all_nil, List.any_cons, List.any_nil, Bool.and_true, Bool.or_false] at IH
      simp only [Option.bind_some]
      cases a <;> cases o <;> simp only [Bool.false_and, Bool.true_and, Bool.false_or, Bool.true_or, if_true, if_false, Bool.false_eq_true, reduceIte] at IH ⊢ <;> exact IH _ _ rfl rfl
    · exact fin i a o (by omega) ha ho k (by omega)
theorem rnull_f : ∀ (d : Nat) (n : S25), Thin d n → ∀ (m : Nat), m < 1000000 → ∃ K, ∀ k, K ≤ k → burinref06_Nullable.f k n.f0 n.f1 n.f2 n.f3 n.f4 n.f5 n.f6 n.f7 (m : Int) = some (nullP m n) := by
  intro d
  induction d with
  | zero => intro n h; exact h.elim
  | succ d ih =>
    intro n h m hm
    rcases m with _ | m
    · exact ⟨1, fun k hk => by obtain ⟨k, rfl⟩ : ∃ k', k = k' + 1 := ⟨k - 1, by omega⟩; simp [burinref06_Nullable.f, nullP]⟩
    · obtain ⟨K, hK⟩ := kmax n.f7 _ (fun x hx => ih x (h.2.1 x hx) m (by omega))
      refine ⟨K + n.f7.length + 6, fun k hk => ?_⟩
      obtain ⟨k, rfl⟩ : ∃ k', k = k' + 1 := ⟨k - 1, by omega⟩
      unfold burinref06_Nullable.f
      rw [if_neg (by omega)]
      exact rnull_l m (by omega) n h.1 K hK n.f7.length 0 true false (by omega) (by omega) rfl rfl k (by omega)

def weighP : Nat → S25 → Int → Int
  | 0, _, _ => -1
  | d + 1, n, left => if left - 1 < 0 ∨ 200 < n.f1.length ∨ 100 < n.f3.size ∨ 200 < n.f7.length then -1 else mx (n.f7.foldl (fun a x => if 0 ≤ a then weighP d x a else a) (left - 1 - n.f1.length)) (-1)
theorem fold_neg (f : Int → S25 → Int) : ∀ (l : List S25) (a : Int), a < 0 → l.foldl (fun a x => if 0 ≤ a then f a x else a) a = a
  | [], a, _ => rfl
  | x :: l, a, h => by rw [List.foldl_cons, if_neg (by omega)]; exact fold_neg f l a h
theorem weighP_le : ∀ (d : Nat) (n : S25) (left : Int), 0 ≤ left → -1 ≤ weighP d n left ∧ weighP d n left ≤ left
  | 0, n, left, h => by simp [weighP]; omega
  | d + 1, n, left, h => by
    unfold weighP
    split
    · omega
    · have : ∀ (l : List S25) (a : Int), a ≤ left → l.foldl (fun a x => if 0 ≤ a then weighP d x a else a) a ≤ left := by
        intro l
        induction l with
        | nil => intro a ha; exact ha
        | cons x l ih =>
          intro a ha
          rw [List.foldl_cons]
          refine ih _ ?_
          split
          · have := (weighP_le d x a (by omega)).2; omega
          · exact ha
      have h1 := this n.f7 (left - 1 - n.f1.length) (by omega)
      exact ⟨(le_mx _ _).2, mx_le h1 (by omega)⟩
theorem weigh_l (d : Nat) (hd : d < 1000) (a0 : Int) (a1 : List S103) (a2 : Int) (a3 : ByteArray) (a4 a5 : Int) (a6 : Bool) (l : List S25) (hl : l.length ≤ 200) (K : Nat) (hK : ∀ x ∈ l, ∀ k, K ≤ k → ∀ a : Int, 0 ≤ a → a ≤ 1000 → burinbook_Weigh.f k x.f0 x.f1 x.f2 x.f3 x.f4 x.f5 x.f6 x.f7 a (d : Int) = some (weighP d x a)) :
    ∀ (r i : Nat) (acc : Int), l.length - i ≤ r → i ≤ l.length → acc ≤ 1000 → ∀ k, K + r + 1 ≤ k → burinbook_Weigh.l0 k acc ((d + 1 : Nat) : Int) (i : Int) a0 a1 a2 a3 a4 a5 a6 l = some (mx ((l.drop i).foldl (fun a x => if 0 ≤ a then weighP d x a else a) acc) (-1)) := by
  intro r
  induction r with
  | zero =>
    intro i acc h1 h2 h4 k hk
    obtain rfl : i = l.length := by omega
    obtain ⟨k, rfl⟩ : ∃ k', k = k' + 1 := ⟨k - 1, by omega⟩
    unfold burinbook_Weigh.l0
    rw [if_neg (by omega), List.drop_length]
    rfl
  | succ r ih =>
    intro i acc h1 h2 h4 k hk
    obtain ⟨k, rfl⟩ : ∃ k', k = k' + 1 := ⟨k - 1, by omega⟩
    by_cases hi : i < l.length
    · unfold burinbook_Weigh.l0
      rw [if_pos (by omega)]
      by_cases ha : 0 ≤ acc
      · rw [if_pos ha, if_pos (by omega), rd_at l i hi, w64 (n := ((d + 1 : Nat) : Int) - 1) (by omega) (by omega), show ((d + 1 : Nat) : Int) - 1 = (d : Int) by omega, hK _ (List.getElem_mem hi) k (by omega) acc ha h4]
        rw [w64 (n := (i : Int) + 1) (by omega) (by omega), show (i : Int) + 1 = ((i + 1 : Nat) : Int) by omega]
        have hw := (weighP_le d l[i] acc ha).2
        refine (ih (i + 1) (weighP d l[i] acc) (by omega) (by omega) (by omega) k (by omega)).trans ?_
        rw [List.drop_eq_getElem_cons hi, List.foldl_cons, if_pos ha]
      · rw [if_neg (by omega), fold_neg _ _ _ (by omega)]
    · obtain rfl : i = l.length := by omega
      unfold burinbook_Weigh.l0
      rw [if_neg (by omega), List.drop_length]
      rfl
theorem weigh_f : ∀ (d : Nat), d < 1000 → ∀ (n : S25), ∃ K, ∀ k, K ≤ k → ∀ left : Int, 0 ≤ left → left ≤ 1000 → burinbook_Weigh.f k n.f0 n.f1 n.f2 n.f3 n.f4 n.f5 n.f6 n.f7 left (d : Int) = some (weighP d n left) := by
  intro d
  induction d with
  | zero =>
    intro _ n
    refine ⟨2, fun k hk left h1 h2 => ?_⟩
    obtain ⟨k, rfl⟩ : ∃ k', k = k' + 2 := ⟨k - 2, by omega⟩
    simp [burinbook_Weigh.f, burinbook_Weigh.j0, weighP]
  | succ d ih =>
    intro hd n
    by_cases hs : 200 < n.f7.length
    · refine ⟨2, fun k hk left h1 h2 => ?_⟩
      obtain ⟨k, rfl⟩ : ∃ k', k = k' + 2 := ⟨k - 2, by omega⟩
      have e0 : ¬ (((d + 1 : Nat) : Int) = 0) := by omega
      have e1 : ((n.f7.length : Int) > 200) := by omega
      unfold burinbook_Weigh.f weighP
      rw [if_neg e0, if_pos (c := left - 1 < 0 ∨ 200 < n.f1.length ∨ 100 < n.f3.size ∨ 200 < n.f7.length) (by omega)]
      have j : ∀ x, burinbook_Weigh.j0 (k + 1) x ((d + 1 : Nat) : Int) true n.f0 n.f1 n.f2 n.f3 n.f4 n.f5 n.f6 n.f7 = some (-1) := fun x => by simp only [burinbook_Weigh.j0, if_true]
      rw [decide_eq_true e1, j]
      by_cases c1 : wrap64 (left - 1) < 0
      · rw [if_pos c1]
      rw [if_neg c1]
      by_cases c2 : (n.f1.length : Int) > 200
      · rw [if_pos c2]
      rw [if_neg c2]
      by_cases c3 : (n.f3.size : Int) > 100
      · rw [if_pos c3]
      rw [if_neg c3]
    · obtain ⟨K, hK⟩ := kmax n.f7 (fun x k => ∀ a : Int, 0 ≤ a → a ≤ 1000 → burinbook_Weigh.f k x.f0 x.f1 x.f2 x.f3 x.f4 x.f5 x.f6 x.f7 a (d : Int) = some (weighP d x a)) (fun x hx => ih (by omega) x)
      refine ⟨K + n.f7.length + 4, fun k hk left h1 h2 => ?_⟩
      obtain ⟨k, rfl⟩ : ∃ k', k = k' + 2 := ⟨k - 2, by omega⟩
      have e0 : ¬ (((d + 1 : Nat) : Int) = 0) := by omega
      have e1 : ¬ ((n.f7.length : Int) > 200) := by omega
      have ew : wrap64 (left - 1) = left - 1 := w64 (by omega) (by omega)
      unfold burinbook_Weigh.f weighP
      rw [if_neg e0, ew]
      by_cases c1 : left - 1 < 0
      · rw [if_pos c1, if_pos (by omega)]; simp only [burinbook_Weigh.j0, if_true]
      rw [if_neg c1]
      by_cases c2 : (n.f1.length : Int) > 200
      · rw [if_pos c2, if_pos (by omega)]; simp only [burinbook_Weigh.j0, if_true]
      rw [if_neg c2]
      by_cases c3 : (n.f3.size : Int) > 100
      · rw [if_pos c3, if_pos (by omega)]; simp only [burinbook_Weigh.j0, if_true]
      rw [if_neg c3, decide_eq_false e1, if_neg (by omega)]
      unfold burinbook_Weigh.j0
      rw [if_neg (by simp), w64 (by omega) (by omega)]
      exact weigh_l d (by omega) n.f0 n.f1 n.f2 n.f3 n.f4 n.f5 n.f6 n.f7 (by omega) K hK n.f7.length 0 (left - 1 - n.f1.length) (by omega) (by omega) (by omega) k (by omega)

theorem weigh_thin : ∀ (d : Nat) (n : S25) (left : Int), 0 ≤ weighP d n left → Thin d n ∧ ∀ (m : Nat) (e : Int), ((stepsL m e n).length : Int) + weighP d n left ≤ left := by
  intro d
  induction d with
  | zero => intro n left h; simp [weighP] at h
  | succ d ih =>
    intro n left h
    unfold weighP at h ⊢
    split at h
    · omega
    · rename_i hc
      rw [if_neg hc]
      have hmx : ∀ a : Int, 0 ≤ mx a (-1) → mx a (-1) = a := by intro a ha; unfold mx at ha ⊢; split at ha <;> simp_all <;> omega
      have eh := hmx _ h
      rw [eh] at h ⊢
      have key : ∀ (l : List S25) (a : Int), 0 ≤ l.foldl (fun a x => if 0 ≤ a then weighP d x a else a) a → (∀ x ∈ l, Thin d x) ∧ ∀ (m : Nat) (e : Int), ((l.flatMap (stepsL m e)).length : Int) + l.foldl (fun a x => if 0 ≤ a then weighP d x a else a) a ≤ a := by
        intro l
        induction l with
        | nil => intro a h; exact ⟨(fun x hx => by cases hx), (fun m e => by simp)⟩
        | cons x l ihl =>
          intro a h
          rw [List.foldl_cons] at h
          by_cases ha : 0 ≤ a
          · rw [if_pos ha] at h
            have hw : 0 ≤ weighP d x a := by
              by_cases hw : 0 ≤ weighP d x a
              · exact hw
              · rw [fold_neg _ _ _ (by omega)] at h; omega
            obtain ⟨t1, s1⟩ := ih x a hw
            obtain ⟨t2, s2⟩ := ihl _ h
            refine ⟨fun y hy => ?_, fun m e => ?_⟩
            · rcases List.mem_cons.1 hy with rfl | hy
              · exact t1
              · exact t2 y hy
            · have h1 := s1 m e; have h2 := s2 m e
              rw [List.flatMap_cons, List.length_append, List.foldl_cons, if_pos ha]
              omega
          · rw [if_neg ha, fold_neg _ _ _ (by omega)] at h; omega
      obtain ⟨t, s⟩ := key n.f7 _ h
      refine ⟨⟨by omega, t, by omega, by omega⟩, fun m e => ?_⟩
      cases m with
      | zero =>
        have := s 0 0
        simp only [stepsL, List.length_nil]
        omega
      | succ m =>
        have := s m (e + 1)
        simp only [stepsL, List.length_cons]
        omega
/-- What Great answers, and what its 'no' tells. -/
theorem Great_f (n : S25) (a : Nat) (ha : a ≤ 1000) : ∃ K, ∀ k, K ≤ k → burinbook_Great.f k n.f0 n.f1 n.f2 n.f3 n.f4 n.f5 n.f6 n.f7 (a : Int) = some (decide (weighP 40 n a < 0)) := by
  obtain ⟨K, hK⟩ := weigh_f 40 (by omega) n
  refine ⟨K, fun k hk => ?_⟩
  unfold burinbook_Great.f
  rw [show (40 : Int) = ((40 : Nat) : Int) from rfl, hK k hk a (by omega) (by omega)]
  rfl
theorem Great_no {n : S25} {a : Nat} (h : ¬ weighP 40 n a < 0) : Thin 40 n ∧ ∀ (m : Nat) (e : Int), (stepsL m e n).length ≤ a := by
  obtain ⟨t, s⟩ := weigh_thin 40 n a (by omega)
  exact ⟨t, fun m e => by have := s m e; omega⟩
end Go.Proofs.Ytojlhlepneefoaa
/- Package tree: letter, a row of nodes laid in memory. -/
namespace Go.Proofs.Ytojlhlepneefoaa
open Go.RowKit PAll Go.Proofs.YtojlhlepneefoaaW.PrintWords Go.Proofs.YtojlhlepneefoaaW.PrintLast Go.Proofs.YtojlhlepneefoaaW.PrintMore
open Go.Shelf
set_option linter.unusedVariables false
set_option linter.unusedSimpArgs false

def letN (c : Int) : S25 := ⟨3, [⟨c, c⟩], 0, ⟨#[]⟩, 0, 0, false, []⟩
theorem cells_len (v : NV) : v.cells.length = 8 := rfl
theorem flat8 : ∀ (vs : List NV) (j : Nat) (hj : j < vs.length) (i : Nat) (u : Value), vs[j].cells[i]? = some u → (vs.flatMap NV.cells)[j * 8 + i]? = some u
  | [], j, hj, _, _, _ => by simp at hj
  | v :: vs, 0, hj, i, u, h => by
    have hi : i < v.cells.length := (List.getElem?_eq_some_iff.1 h).1
    rw [List.flatMap_cons, Nat.zero_mul, Nat.zero_add, List.getElem?_append_left hi]
    exact h
  | v :: vs, j + 1, hj, i, u, h => by
    rw [List.flatMap_cons, List.getElem?_append_right (by rw [cells_len]; omega), cells_len, show (j + 1) * 8 + i - 8 = j * 8 + i by omega]
    exact flat8 vs j (by simpa using hj) i u h
/-- A row of nodes that lies in a block of its own. -/
theorem rowMake {w : World} {b : Nat} {vs : List NV} (hb : w.heap[b]? = some (.cells (vs.flatMap NV.cells).toArray 25 (0, 0))) (hok : ∀ v ∈ vs, v.ok w) (hl : vs.length ≤ 9223372036854775807) :
    Kd.C k25 w (some ⟨b, 0, none⟩) vs.length (vs.map (·.n)) := by
  refine ⟨by simp, hl, fun hn => ⟨_, rfl, fun j x hj => ?_⟩⟩
  rw [List.getElem?_map] at hj
  cases hj' : vs[j]? with
  | none => rw [hj'] at hj; cases hj
  | some v =>
    rw [hj'] at hj
    cases hj
    have hlt : j < vs.length := (List.getElem?_eq_some_iff.1 hj').1
    have ev : vs[j] = v := (List.getElem?_eq_some_iff.1 hj').2
    refine ⟨v.cells, rfl, (hok v (by rw [← ev]; exact List.getElem_mem hlt)).k25, fun i u hu => ?_⟩
    rw [addNone, cellB hb]
    have := flat8 vs j hlt i u (by rw [ev]; exact hu)
    simp only [Nat.zero_add]
    rw [List.getElem?_toArray]
    exact this
theorem letter_calls (c : Int) (w : World) : Calls Try.prog 37 #[.int .i64 c] w fun e w' => ∃ v : NV, e = .returned v.val ∧ v.n = letN c ∧ v.ok w' ∧ Kp [] w w' := by
  refine (burinlaw06_letter.calls c 3 [⟨c, c⟩] 0 ⟨#[]⟩ 0 0 false [] w rfl).mono ?_
  rintro e w' ⟨v1, v7, rfl, h1, h7, hb⟩
  obtain ⟨A1, c1, rfl⟩ := Kd.R_slice h1
  obtain ⟨A7, c7, rfl⟩ := Kd.R_slice h7
  have g1 := Kd.R_reads' h1
  have g7 := Kd.R_reads' h7
  exact ⟨⟨letN c, A1, c1, A7, c7⟩, rfl, rfl, ⟨g1.2.1, g1.2.2, g7.2.1, g7.2.2⟩, Kp.ofBelow hb⟩
end Go.Proofs.Ytojlhlepneefoaa
/- Package tree: Size, Depth, Check, Groups as plain contracts; the chapter's example. -/
namespace Go.Proofs.Ytojlhlepneefoaa
open Go.RowKit PAll Go.Proofs.YtojlhlepneefoaaW.PrintWords Go.Proofs.YtojlhlepneefoaaW.PrintLast Go.Proofs.YtojlhlepneefoaaW.PrintMore
open Go.Shelf
set_option linter.unusedVariables false
set_option linter.unusedSimpArgs false

noncomputable def checkV (n : S25) : Int := if depthP 1001 n > 1000 then 61 else chkOut (chkL (stepsL 1000 1 n))
theorem size_calls (v : NV) (w : World) (hv : v.ok w) (hN : (stepsL 1000 1 v.n).length ≤ 1000000) : Calls Try.prog 38 #[v.val] w fun e w' => e = .returned (.int .i64 (stepsL 1000 1 v.n).length) ∧ Kp [] w w' :=
  (callsIn_wide (n := 3)).1 ((Size_in 3 (by omega) v w hv (by omega)).mono fun e w' ⟨h, hb⟩ => ⟨h, Kp.ofBelow hb⟩)
theorem depth_calls {d : Nat} (v : NV) (w : World) (hv : v.ok w) (ht : Thin d v.n) : Calls Try.prog 39 #[v.val] w fun e w' => e = .returned (.int .i64 (depthP 1001 v.n)) ∧ Kp [] w w' := by
  obtain ⟨K, hK⟩ := Depth_f ht
  exact (tree_Depth.calls K v.n.f0 v.A1 v.c1 v.n.f1 v.n.f2 v.n.f3 v.n.f4 v.n.f5 v.n.f6 v.A7 v.c7 v.n.f7 _ w hv.g1 hv.l1 hv.g7 hv.l7 (hK K (Nat.le_refl _))).mono fun e w' ⟨h, hb⟩ => ⟨h, Kp.ofBelow hb⟩
theorem check_calls {d : Nat} (v : NV) (w : World) (hv : v.ok w) (ht : Thin d v.n) (hN : (stepsL 1000 1 v.n).length ≤ 1000000) : Calls Try.prog 24 #[v.val] w fun e w' => e = .returned (.int .i64 (checkV v.n)) ∧ Kp [] w w' := by
  obtain ⟨K, hK⟩ := Depth_f ht
  exact (callsIn_wide (n := 3)).1 ((Check_in 3 (by omega) v w hv hN K _ (hK K (Nat.le_refl _))).mono fun e w' ⟨h, hb⟩ => ⟨h, Kp.ofBelow hb⟩)
theorem groups_calls (v : NV) (w : World) (hv : v.ok w) (hN : (stepsL 1000 1 v.n).length ≤ 1000000) : Calls Try.prog 41 #[v.val] w fun e w' =>
    ∃ u, e = .returned u ∧ w'.ownsRow w.heap.size 9 1 u (groupsP (stepsL 1000 1 v.n)).length ((groupsP (stepsL 1000 1 v.n)).map .string) ∧ Kp [] w w' :=
  (callsIn_wide (n := 3)).1 ((Groups_in 3 (by omega) v w hv hN).mono fun e w' ⟨u, h, ho, hb⟩ => ⟨u, h, ho, Kp.ofBelow hb⟩)
def exN : S25 := ⟨7, [], 0, ⟨#[]⟩, 0, 0, false, [letN 97, letN 98]⟩
def exB : S25 := ⟨9, [], 0, ⟨#[]⟩, 2, 1, false, [letN 97]⟩
theorem exN_steps : stepsL 1000 1 exN = [(1, exN), (2, letN 97), (2, letN 98)] := rfl
theorem exB_steps : stepsL 1000 1 exB = [(1, exB), (2, letN 97)] := rfl
theorem let_thin (c : Int) : Thin 1 (letN c) := ⟨by simp [letN], by simp [letN], by simp [letN], Nat.zero_le _⟩
theorem exN_thin : Thin 2 exN := ⟨by simp [exN], by simp [exN]; exact ⟨let_thin _, let_thin _⟩, by simp [exN], by decide⟩
theorem exB_thin : Thin 2 exB := ⟨by simp [exB], by simp [exB]; exact let_thin _, by simp [exB], by decide⟩
theorem exN_depth : depthP 1001 exN = 2 := by decide +kernel
theorem exB_depth : depthP 1001 exB = 2 := by decide +kernel
theorem exN_fits : fitsV exN = true := by decide +kernel
theorem exB_fits : fitsV exB = false := by decide +kernel
theorem la_fits : fitsV (letN 97) = true := by decide +kernel
theorem lb_fits : fitsV (letN 98) = true := by decide +kernel
theorem exN_check : checkV exN = 0 := by
  unfold checkV
  rw [exN_depth, exN_steps, if_neg (by omega)]
  have : chkL [(1, exN), (2, letN 97), (2, letN 98)] = .ok [] := by
    show chkStep (chkStep (chkStep (.ok []) (1, exN)) (2, letN 97)) (2, letN 98) = _
    rw [chk_skip exN_fits (by decide), chk_skip la_fits (by decide), chk_skip lb_fits (by decide)]
  rw [this]; rfl
theorem exB_check : checkV exB = 60 := by
  unfold checkV
  rw [exB_depth, exB_steps, if_neg (by omega)]
  have : chkL [(1, exB), (2, letN 97)] = .error 60 := by
    show chkStep (chkStep (.ok []) (1, exB)) (2, letN 97) = _
    rw [chk_no exB_fits]; rfl
  rw [this]; rfl
theorem exN_null : nullP 1000 exN = false := by decide +kernel
theorem exN_ok {w : World} {b : Nat} {va vb : NV} (ha : va.n = letN 97) (hb : vb.n = letN 98) (oa : va.ok w) (ob : vb.ok w) (hr : w.heap[b]? = some (.cells ([va, vb].flatMap NV.cells).toArray 25 (0, 0))) : (⟨exN, none, 0, some ⟨b, 0, none⟩, 2⟩ : NV).ok w := by
  have R := rowMake (vs := [va, vb]) hr (fun v hv => by simp at hv; rcases hv with rfl | rfl <;> assumption) (by simp)
  simp only [List.map_cons, List.map_nil, ha, hb] at R
  exact ⟨Nat.zero_le _, ⟨rfl, Nat.zero_le _, fun h => absurd h (by simp [exN])⟩, Nat.le_refl _, R⟩
theorem exB_ok {w : World} {b : Nat} {va : NV} (ha : va.n = letN 97) (oa : va.ok w) (hr : w.heap[b]? = some (.cells ([va].flatMap NV.cells).toArray 25 (0, 0))) : (⟨exB, none, 0, some ⟨b, 0, none⟩, 1⟩ : NV).ok w := by
  have R := rowMake (vs := [va]) hr (fun v hv => by simp at hv; subst hv; exact oa) (by simp)
  simp only [List.map_cons, List.map_nil, ha] at R
  exact ⟨Nat.zero_le _, ⟨rfl, Nat.zero_le _, fun h => absurd h (by simp [exB])⟩, Nat.le_refl _, R⟩
set_option maxRecDepth 100000 in
set_option maxHeartbeats 8000000 in
theorem works_calls (w : World) : Calls Try.prog 32 #[] w fun e w' => e = .returned (.bool true) ∧ Kp [] w w' := by
  have nv1 : nameB [97, 95, 49] = true := by decide +kernel
  have nv2 : nameB [49, 97] = false := by decide +kernel
  go_enter Try.func32, Try.ntmps32
  go_wp2_with fail
  refine (letter_calls 97 _).mono ?_
  rintro e w1 ⟨⟨na, A1, c1, A7, c7⟩, rfl, hn, oa, ka⟩
  obtain rfl : na = letN 97 := hn
  dsimp only [NV.val, NV.cells, letN, List.length_cons, List.length_nil, Nat.zero_add]
  go_wp2_with fail
  refine (letter_calls 98 _).mono ?_
  rintro e w2 ⟨⟨nb, B1, d1, B7, d7⟩, rfl, hn, ob, kb⟩
  obtain rfl : nb = letN 98 := hn
  dsimp only [NV.val, NV.cells, letN, List.length_cons, List.length_nil, Nat.zero_add]
  replace oa := oa.kp kb
  go_wp2_with fail
  obtain ⟨V1, hV1⟩ : ∃ V1, V1 = (w2.alloc (.cells ([(⟨letN 97, A1, c1, A7, c7⟩ : NV), ⟨letN 98, B1, d1, B7, d7⟩].flatMap NV.cells).toArray 25)).alloc (.cells (⟨exN, none, 0, some ⟨w2.heap.size, 0, none⟩, 2⟩ : NV).cells.toArray 25) := ⟨_, rfl⟩
  have k1 : Kp [] w2 V1 := by rw [hV1]; exact ((Kp.refl [] w2).alloc _).alloc _
  have hr1 : V1.heap[w2.heap.size]? = some (.cells ([(⟨letN 97, A1, c1, A7, c7⟩ : NV), ⟨letN 98, B1, d1, B7, d7⟩].flatMap NV.cells).toArray 25 (0, 0)) := by rw [hV1]; exact (Below.heap_alloc _ _ _ (by simp)).trans (heap_alloc_new _ _)
  have hx1 : V1.heap[w2.heap.size + 1]? = some (.cells (⟨exN, none, 0, some ⟨w2.heap.size, 0, none⟩, 2⟩ : NV).cells.toArray 25 (0, 0)) := by rw [hV1]; exact new_at _ _ _ (by simp)
  have g1 := exN_ok (w := V1) (b := w2.heap.size) rfl rfl (oa.kp k1) (ob.kp k1) hr1
  refine (letter_calls 97 _).mono ?_
  rintro e w3 ⟨⟨nc, D1, e1, D7, e7⟩, rfl, hn, oc, kc⟩
  obtain rfl : nc = letN 97 := hn
  replace kc : Kp [] V1 w3 := by rw [hV1]; exact kc
  dsimp only [NV.val, NV.cells, letN, List.length_cons, List.length_nil, Nat.zero_add]
  have m0 := ltB (kblk kc hx1)
  have m1 : w2.heap.size + 1 < w3.heap.size + 1 := by omega
  obtain ⟨V2, hV2⟩ : ∃ V2, V2 = (w3.alloc (.cells ([(⟨letN 97, D1, e1, D7, e7⟩ : NV)].flatMap NV.cells).toArray 25)).alloc (.cells (⟨exB, none, 0, some ⟨w3.heap.size, 0, none⟩, 1⟩ : NV).cells.toArray 25) := ⟨_, rfl⟩
  have k2 : Kp [] w3 V2 := by rw [hV2]; exact ((Kp.refl [] w3).alloc _).alloc _
  have hk0 : Kp [] V2 ((w3.alloc (.cells ([(⟨letN 97, D1, e1, D7, e7⟩ : NV)].flatMap NV.cells).toArray 25)).alloc (.cells (⟨exB, none, 0, some ⟨w3.heap.size, 0, none⟩, 1⟩ : NV).cells.toArray 25)) := by rw [hV2]; exact Kp.refl _ _
  have hr2 : V2.heap[w3.heap.size]? = some (.cells ([(⟨letN 97, D1, e1, D7, e7⟩ : NV)].flatMap NV.cells).toArray 25 (0, 0)) := by rw [hV2]; exact (Below.heap_alloc _ _ _ (by simp)).trans (heap_alloc_new _ _)
  have hb2 : V2.heap[w3.heap.size + 1]? = some (.cells (⟨exB, none, 0, some ⟨w3.heap.size, 0, none⟩, 1⟩ : NV).cells.toArray 25 (0, 0)) := by rw [hV2]; exact new_at _ _ _ (by simp)
  have hb1 := kblk k2 (kblk kc hx1)
  have g2 := exB_ok (w := V2) (b := w3.heap.size) rfl (oc.kp k2) hr2
  replace g1 := (g1.kp kc).kp k2
  have ka2 : Kp [] w V2 := (((ka.trans kb).trans k1).trans kc).trans k2
  have C38 := Lib.hid (fun W (k : Kp [] V2 W) => (size_calls _ W (g1.kp k) (by rw [exN_steps]; simp)).mono fun e w' ⟨h, q⟩ => (⟨h, k.trans q⟩ : _ ∧ Kp [] V2 w'))
  have C39 := Lib.hid (fun W (k : Kp [] V2 W) => (depth_calls _ W (g1.kp k) exN_thin).mono fun e w' ⟨h, q⟩ => (⟨h, k.trans q⟩ : _ ∧ Kp [] V2 w'))
  have C24 := Lib.hid (fun W (k : Kp [] V2 W) => (check_calls _ W (g1.kp k) exN_thin (by rw [exN_steps]; simp)).mono fun e w' ⟨h, q⟩ => (⟨h, k.trans q⟩ : _ ∧ Kp [] V2 w'))
  have C24b := Lib.hid (fun W (k : Kp [] V2 W) => (check_calls _ W (g2.kp k) exB_thin (by rw [exB_steps]; simp)).mono fun e w' ⟨h, q⟩ => (⟨h, k.trans q⟩ : _ ∧ Kp [] V2 w'))
  have C40 := Lib.hid (fun W (k : Kp [] V2 W) => (nullable_calls _ W (g1.kp k)).mono fun e w' ⟨h, q⟩ => (⟨h, k.trans q⟩ : _ ∧ Kp [] V2 w'))
  have C34a : Hid (∀ (W : World), Kp [] V2 W → Calls Try.prog 34 #[.string ⟨#[97, 95, 49]⟩] W fun e w' => e = .returned (.bool true) ∧ Kp [] V2 w') := Lib.hid fun W k => (name_calls [97, 95, 49] W).mono fun e w' ⟨h, q⟩ => ⟨by rw [h, nv1], k.trans q⟩
  have C34b : Hid (∀ (W : World), Kp [] V2 W → Calls Try.prog 34 #[.string ⟨#[49, 97]⟩] W fun e w' => e = .returned (.bool false) ∧ Kp [] V2 w') := Lib.hid fun W k => (name_calls [49, 97] W).mono fun e w' ⟨h, q⟩ => ⟨by rw [h, nv2], k.trans q⟩
  rw [exN_steps] at C38
  rw [exN_depth] at C39
  rw [exN_check] at C24
  rw [exB_check] at C24b
  rw [exN_null] at C40
  replace C38 : Hid (∀ (W : World), Kp [] V2 W → Calls Try.prog 38 #[.agg #[.int .i64 7, .slice none 0 0, .int .i64 0, .string ⟨#[]⟩, .int .i64 0, .int .i64 0, .bool false, .slice (some ⟨w2.heap.size, 0, none⟩) 2 2]] W fun e w' => e = .returned (.int .i64 3) ∧ Kp [] V2 w') := C38
  replace C39 : Hid (∀ (W : World), Kp [] V2 W → Calls Try.prog 39 #[.agg #[.int .i64 7, .slice none 0 0, .int .i64 0, .string ⟨#[]⟩, .int .i64 0, .int .i64 0, .bool false, .slice (some ⟨w2.heap.size, 0, none⟩) 2 2]] W fun e w' => e = .returned (.int .i64 2) ∧ Kp [] V2 w') := C39
  replace C24 : Hid (∀ (W : World), Kp [] V2 W → Calls Try.prog 24 #[.agg #[.int .i64 7, .slice none 0 0, .int .i64 0, .string ⟨#[]⟩, .int .i64 0, .int .i64 0, .bool false, .slice (some ⟨w2.heap.size, 0, none⟩) 2 2]] W fun e w' => e = .returned (.int .i64 0) ∧ Kp [] V2 w') := C24
  replace C24b : Hid (∀ (W : World), Kp [] V2 W → Calls Try.prog 24 #[.agg #[.int .i64 9, .slice none 0 0, .int .i64 0, .string ⟨#[]⟩, .int .i64 2, .int .i64 1, .bool false, .slice (some ⟨w3.heap.size, 0, none⟩) 1 1]] W fun e w' => e = .returned (.int .i64 60) ∧ Kp [] V2 w') := C24b
  replace C40 : Hid (∀ (W : World), Kp [] V2 W → Calls Try.prog 40 #[.agg #[.int .i64 7, .slice none 0 0, .int .i64 0, .string ⟨#[]⟩, .int .i64 0, .int .i64 0, .bool false, .slice (some ⟨w2.heap.size, 0, none⟩) 2 2]] W fun e w' => e = .returned (.bool false) ∧ Kp [] V2 w') := C40
  have HW1 := Lib.hid hV1
  have HW2 := Lib.hid hV2
  have z := cellB (kblk kc hx1)
  have z0 : w3.cell? ⟨w2.heap.size + 1, 0, none⟩ = some (.int .i64 7) := z 0
  have z1 : w3.cell? ⟨w2.heap.size + 1, 1, none⟩ = some (.slice none 0 0) := z 1
  have z2 : w3.cell? ⟨w2.heap.size + 1, 2, none⟩ = some (.int .i64 0) := z 2
  have z3 : w3.cell? ⟨w2.heap.size + 1, 3, none⟩ = some (.string ⟨#[]⟩) := z 3
  have z4 : w3.cell? ⟨w2.heap.size + 1, 4, none⟩ = some (.int .i64 0) := z 4
  have z5 : w3.cell? ⟨w2.heap.size + 1, 5, none⟩ = some (.int .i64 0) := z 5
  have z6 : w3.cell? ⟨w2.heap.size + 1, 6, none⟩ = some (.bool false) := z 6
  have z7 : w3.cell? ⟨w2.heap.size + 1, 7, none⟩ = some (.slice (some ⟨w2.heap.size, 0, none⟩) 2 2) := z 7
  clear hV1 hV2 oa ob oc ka kb k1 kc k2 hr1 hr2 hx1 g1 g2 z nv1 nv2
  dsimp only [List.flatMap_cons, List.flatMap_nil, NV.cells, letN, exN, exB] at hk0
  go_wp2_with (first | (go_at_call 38; refine (C38.out _ (by first | exact kk | exact hk0)).mono ?_; clear C38; rintro e w4 ⟨rfl, kk⟩; have p0 : w4.cell? ⟨w2.heap.size + 1, 0, none⟩ = some (.int .i64 7) := cellB (kblk kk hb1) 0; have p1 : w4.cell? ⟨w2.heap.size + 1, 1, none⟩ = some (.slice none 0 0) := cellB (kblk kk hb1) 1; have p2 : w4.cell? ⟨w2.heap.size + 1, 2, none⟩ = some (.int .i64 0) := cellB (kblk kk hb1) 2; have p3 : w4.cell? ⟨w2.heap.size + 1, 3, none⟩ = some (.string ⟨#[]⟩) := cellB (kblk kk hb1) 3; have p4 : w4.cell? ⟨w2.heap.size + 1, 4, none⟩ = some (.int .i64 0) := cellB (kblk kk hb1) 4; have p5 : w4.cell? ⟨w2.heap.size + 1, 5, none⟩ = some (.int .i64 0) := cellB (kblk kk hb1) 5; have p6 : w4.cell? ⟨w2.heap.size + 1, 6, none⟩ = some (.bool false) := cellB (kblk kk hb1) 6; have p7 : w4.cell? ⟨w2.heap.size + 1, 7, none⟩ = some (.slice (some ⟨w2.heap.size, 0, none⟩) 2 2) := cellB (kblk kk hb1) 7; have q0 : w4.cell? ⟨w3.heap.size + 1, 0, none⟩ = some (.int .i64 9) := cellB (kblk kk hb2) 0; have q1 : w4.cell? ⟨w3.heap.size + 1, 1, none⟩ = some (.slice none 0 0) := cellB (kblk kk hb2) 1; have q2 : w4.cell? ⟨w3.heap.size + 1, 2, none⟩ = some (.int .i64 0) := cellB (kblk kk hb2) 2; have q3 : w4.cell? ⟨w3.heap.size + 1, 3, none⟩ = some (.string ⟨#[]⟩) := cellB (kblk kk hb2) 3; have q4 : w4.cell? ⟨w3.heap.size + 1, 4, none⟩ = some (.int .i64 2) := cellB (kblk kk hb2) 4; have q5 : w4.cell? ⟨w3.heap.size + 1, 5, none⟩ = some (.int .i64 1) := cellB (kblk kk hb2) 5; have q6 : w4.cell? ⟨w3.heap.size + 1, 6, none⟩ = some (.bool false) := cellB (kblk kk hb2) 6; have q7 : w4.cell? ⟨w3.heap.size + 1, 7, none⟩ = some (.slice (some ⟨w3.heap.size, 0, none⟩) 1 1) := cellB (kblk kk hb2) 7) | (go_at_call 39; refine (C39.out _ (by first | exact kk | exact hk0)).mono ?_; clear C39; rintro e w4 ⟨rfl, kk⟩; have p0 : w4.cell? ⟨w2.heap.size + 1, 0, none⟩ = some (.int .i64 7) := cellB (kblk kk hb1) 0; have p1 : w4.cell? ⟨w2.heap.size + 1, 1, none⟩ = some (.slice none 0 0) := cellB (kblk kk hb1) 1; have p2 : w4.cell? ⟨w2.heap.size + 1, 2, none⟩ = some (.int .i64 0) := cellB (kblk kk hb1) 2; have p3 : w4.cell? ⟨w2.heap.size + 1, 3, none⟩ = some (.string ⟨#[]⟩) := cellB (kblk kk hb1) 3; have p4 : w4.cell? ⟨w2.heap.size + 1, 4, none⟩ = some (.int .i64 0) := cellB (kblk kk hb1) 4; have p5 : w4.cell? ⟨w2.heap.size + 1, 5, none⟩ = some (.int .i64 0) := cellB (kblk kk hb1) 5; have p6 : w4.cell? ⟨w2.heap.size + 1, 6, none⟩ = some (.bool false) := cellB (kblk kk hb1) 6; have p7 : w4.cell? ⟨w2.heap.size + 1, 7, none⟩ = some (.slice (some ⟨w2.heap.size, 0, none⟩) 2 2) := cellB (kblk kk hb1) 7; have q0 : w4.cell? ⟨w3.heap.size + 1, 0, none⟩ = some (.int .i64 9) := cellB (kblk kk hb2) 0; have q1 : w4.cell? ⟨w3.heap.size + 1, 1, none⟩ = some (.slice none 0 0) := cellB (kblk kk hb2) 1; have q2 : w4.cell? ⟨w3.heap.size + 1, 2, none⟩ = some (.int .i64 0) := cellB (kblk kk hb2) 2; have q3 : w4.cell? ⟨w3.heap.size + 1, 3, none⟩ = some (.string ⟨#[]⟩) := cellB (kblk kk hb2) 3; have q4 : w4.cell? ⟨w3.heap.size + 1, 4, none⟩ = some (.int .i64 2) := cellB (kblk kk hb2) 4; have q5 : w4.cell? ⟨w3.heap.size + 1, 5, none⟩ = some (.int .i64 1) := cellB (kblk kk hb2) 5; have q6 : w4.cell? ⟨w3.heap.size + 1, 6, none⟩ = some (.bool false) := cellB (kblk kk hb2) 6; have q7 : w4.cell? ⟨w3.heap.size + 1, 7, none⟩ = some (.slice (some ⟨w3.heap.size, 0, none⟩) 1 1) := cellB (kblk kk hb2) 7) | (go_at_call 24; refine (C24.out _ (by first | exact kk | exact hk0)).mono ?_; clear C24; rintro e w4 ⟨rfl, kk⟩; have p0 : w4.cell? ⟨w2.heap.size + 1, 0, none⟩ = some (.int .i64 7) := cellB (kblk kk hb1) 0; have p1 : w4.cell? ⟨w2.heap.size + 1, 1, none⟩ = some (.slice none 0 0) := cellB (kblk kk hb1) 1; have p2 : w4.cell? ⟨w2.heap.size + 1, 2, none⟩ = some (.int .i64 0) := cellB (kblk kk hb1) 2; have p3 : w4.cell? ⟨w2.heap.size + 1, 3, none⟩ = some (.string ⟨#[]⟩) := cellB (kblk kk hb1) 3; have p4 : w4.cell? ⟨w2.heap.size + 1, 4, none⟩ = some (.int .i64 0) := cellB (kblk kk hb1) 4; have p5 : w4.cell? ⟨w2.heap.size + 1, 5, none⟩ = some (.int .i64 0) := cellB (kblk kk hb1) 5; have p6 : w4.cell? ⟨w2.heap.size + 1, 6, none⟩ = some (.bool false) := cellB (kblk kk hb1) 6; have p7 : w4.cell? ⟨w2.heap.size + 1, 7, none⟩ = some (.slice (some ⟨w2.heap.size, 0, none⟩) 2 2) := cellB (kblk kk hb1) 7; have q0 : w4.cell? ⟨w3.heap.size + 1, 0, none⟩ = some (.int .i64 9) := cellB (kblk kk hb2) 0; have q1 : w4.cell? ⟨w3.heap.size + 1, 1, none⟩ = some (.slice none 0 0) := cellB (kblk kk hb2) 1; have q2 : w4.cell? ⟨w3.heap.size + 1, 2, none⟩ = some (.int .i64 0) := cellB (kblk kk hb2) 2; have q3 : w4.cell? ⟨w3.heap.size + 1, 3, none⟩ = some (.string ⟨#[]⟩) := cellB (kblk kk hb2) 3; have q4 : w4.cell? ⟨w3.heap.size + 1, 4, none⟩ = some (.int .i64 2) := cellB (kblk kk hb2) 4; have q5 : w4.cell? ⟨w3.heap.size + 1, 5, none⟩ = some (.int .i64 1) := cellB (kblk kk hb2) 5; have q6 : w4.cell? ⟨w3.heap.size + 1, 6, none⟩ = some (.bool false) := cellB (kblk kk hb2) 6; have q7 : w4.cell? ⟨w3.heap.size + 1, 7, none⟩ = some (.slice (some ⟨w3.heap.size, 0, none⟩) 1 1) := cellB (kblk kk hb2) 7) | (go_at_call 24; refine (C24b.out _ (by first | exact kk | exact hk0)).mono ?_; rintro e w4 ⟨rfl, kk⟩; have p0 : w4.cell? ⟨w2.heap.size + 1, 0, none⟩ = some (.int .i64 7) := cellB (kblk kk hb1) 0; have p1 : w4.cell? ⟨w2.heap.size + 1, 1, none⟩ = some (.slice none 0 0) := cellB (kblk kk hb1) 1; have p2 : w4.cell? ⟨w2.heap.size + 1, 2, none⟩ = some (.int .i64 0) := cellB (kblk kk hb1) 2; have p3 : w4.cell? ⟨w2.heap.size + 1, 3, none⟩ = some (.string ⟨#[]⟩) := cellB (kblk kk hb1) 3; have p4 : w4.cell? ⟨w2.heap.size + 1, 4, none⟩ = some (.int .i64 0) := cellB (kblk kk hb1) 4; have p5 : w4.cell? ⟨w2.heap.size + 1, 5, none⟩ = some (.int .i64 0) := cellB (kblk kk hb1) 5; have p6 : w4.cell? ⟨w2.heap.size + 1, 6, none⟩ = some (.bool false) := cellB (kblk kk hb1) 6; have p7 : w4.cell? ⟨w2.heap.size + 1, 7, none⟩ = some (.slice (some ⟨w2.heap.size, 0, none⟩) 2 2) := cellB (kblk kk hb1) 7; have q0 : w4.cell? ⟨w3.heap.size + 1, 0, none⟩ = some (.int .i64 9) := cellB (kblk kk hb2) 0; have q1 : w4.cell? ⟨w3.heap.size + 1, 1, none⟩ = some (.slice none 0 0) := cellB (kblk kk hb2) 1; have q2 : w4.cell? ⟨w3.heap.size + 1, 2, none⟩ = some (.int .i64 0) := cellB (kblk kk hb2) 2; have q3 : w4.cell? ⟨w3.heap.size + 1, 3, none⟩ = some (.string ⟨#[]⟩) := cellB (kblk kk hb2) 3; have q4 : w4.cell? ⟨w3.heap.size + 1, 4, none⟩ = some (.int .i64 2) := cellB (kblk kk hb2) 4; have q5 : w4.cell? ⟨w3.heap.size + 1, 5, none⟩ = some (.int .i64 1) := cellB (kblk kk hb2) 5; have q6 : w4.cell? ⟨w3.heap.size + 1, 6, none⟩ = some (.bool false) := cellB (kblk kk hb2) 6; have q7 : w4.cell? ⟨w3.heap.size + 1, 7, none⟩ = some (.slice (some ⟨w3.heap.size, 0, none⟩) 1 1) := cellB (kblk kk hb2) 7) | (go_at_call 40; refine (C40.out _ (by first | exact kk | exact hk0)).mono ?_; clear C40; rintro e w4 ⟨rfl, kk⟩; have p0 : w4.cell? ⟨w2.heap.size + 1, 0, none⟩ = some (.int .i64 7) := cellB (kblk kk hb1) 0; have p1 : w4.cell? ⟨w2.heap.size + 1, 1, none⟩ = some (.slice none 0 0) := cellB (kblk kk hb1) 1; have p2 : w4.cell? ⟨w2.heap.size + 1, 2, none⟩ = some (.int .i64 0) := cellB (kblk kk hb1) 2; have p3 : w4.cell? ⟨w2.heap.size + 1, 3, none⟩ = some (.string ⟨#[]⟩) := cellB (kblk kk hb1) 3; have p4 : w4.cell? ⟨w2.heap.size + 1, 4, none⟩ = some (.int .i64 0) := cellB (kblk kk hb1) 4; have p5 : w4.cell? ⟨w2.heap.size + 1, 5, none⟩ = some (.int .i64 0) := cellB (kblk kk hb1) 5; have p6 : w4.cell? ⟨w2.heap.size + 1, 6, none⟩ = some (.bool false) := cellB (kblk kk hb1) 6; have p7 : w4.cell? ⟨w2.heap.size + 1, 7, none⟩ = some (.slice (some ⟨w2.heap.size, 0, none⟩) 2 2) := cellB (kblk kk hb1) 7; have q0 : w4.cell? ⟨w3.heap.size + 1, 0, none⟩ = some (.int .i64 9) := cellB (kblk kk hb2) 0; have q1 : w4.cell? ⟨w3.heap.size + 1, 1, none⟩ = some (.slice none 0 0) := cellB (kblk kk hb2) 1; have q2 : w4.cell? ⟨w3.heap.size + 1, 2, none⟩ = some (.int .i64 0) := cellB (kblk kk hb2) 2; have q3 : w4.cell? ⟨w3.heap.size + 1, 3, none⟩ = some (.string ⟨#[]⟩) := cellB (kblk kk hb2) 3; have q4 : w4.cell? ⟨w3.heap.size + 1, 4, none⟩ = some (.int .i64 2) := cellB (kblk kk hb2) 4; have q5 : w4.cell? ⟨w3.heap.size + 1, 5, none⟩ = some (.int .i64 1) := cellB (kblk kk hb2) 5; have q6 : w4.cell? ⟨w3.heap.size + 1, 6, none⟩ = some (.bool false) := cellB (kblk kk hb2) 6; have q7 : w4.cell? ⟨w3.heap.size + 1, 7, none⟩ = some (.slice (some ⟨w3.heap.size, 0, none⟩) 1 1) := cellB (kblk kk hb2) 7) | (go_at_call 34; refine (C34a.out _ kk).mono ?_; clear C34a; rintro e w4 ⟨rfl, kk⟩) | (go_at_call 34; refine (C34b.out _ kk).mono ?_; clear C34b; rintro e w4 ⟨rfl, kk⟩))
  go_ret
  exact ⟨rfl, ka2.trans kk⟩
end Go.Proofs.Ytojlhlepneefoaa
