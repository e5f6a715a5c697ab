/- Package utf: Each and its closure: the iterator's contract, for every text and every loop body that keeps what lay. -/
import Derived.RangeFuncNested
import Derived.RangeFuncBound
import Derived.RangeFuncCalls
import Derived.RangeFuncLeaves
import Derived.RangeFuncBox
import Derived.RangeFuncOne
import Derived.Shelf.Abstract
import Derived.Shelf.RegionOpen
import Derived.WalkKit
import Derived.OwnWalkIn
import Derived.TacticsInMore
import Derived.LoopNIn
import Derived.LoopIn
import Derived.Test.YtbcmjpmnljfolaaE
namespace Go.Proofs.Ytbcmjpmnljfolaa
open Go.RowKit Go.Shelf PUtfPieces Go.Proofs.YtbcmjpmnljfolaaW.PrintWords Go.Proofs.YtbcmjpmnljfolaaW.PrintLast Go.Proofs.YtbcmjpmnljfolaaW.PrintMore
set_option linter.unusedVariables false
attribute [local go_sem] Oper.semAt_some

theorem dec_bounds (s : ByteArray) (h : 0 < s.size) : 1 ≤ (dec s).2 ∧ (dec s).2 ≤ s.size ∧ (dec s).2 ≤ 4 := by
  unfold dec
  rw [if_neg (by omega)]
  by_cases h1 : bt s 0 < 128
  · rw [if_pos h1]; exact ⟨by show (1 : Int) ≤ 1; omega, by show (1 : Int) ≤ _; omega, by show (1 : Int) ≤ 4; omega⟩
  rw [if_neg h1]
  by_cases h2 : g2 s
  · rw [if_pos h2]; have := h2.1; exact ⟨by show (1 : Int) ≤ 2; omega, by show (2 : Int) ≤ _; omega, by show (2 : Int) ≤ 4; omega⟩
  rw [if_neg h2]
  by_cases h3 : g3 s
  · rw [if_pos h3]; have := h3.1; exact ⟨by show (1 : Int) ≤ 3; omega, by show (3 : Int) ≤ _; omega, by show (3 : Int) ≤ 4; omega⟩
  rw [if_neg h3]
  by_cases h4 : g4 s
  · rw [if_pos h4]; have := h4.1; exact ⟨by show (1 : Int) ≤ 4; omega, by show (4 : Int) ≤ _; omega, by show (4 : Int) ≤ 4; omega⟩
  · rw [if_neg h4]; exact ⟨by show (1 : Int) ≤ 1; omega, by show (1 : Int) ≤ _; omega, by show (1 : Int) ≤ 4; omega⟩

/-- The pieces from a place on, of at most k. -/
def pcsF (s : ByteArray) : Nat → Nat → List (Int × Int)
  | 0, _ => []
  | k + 1, a => if a < s.size then ((a : Int), (dec (s.extract a s.size)).1) :: pcsF s k (a + (dec (s.extract a s.size)).2.toNat) else []
theorem ext_size (s : ByteArray) (a : Nat) (h : a ≤ s.size) : (s.extract a s.size).size = s.size - a := by
  rw [ByteArray.size_extract]
  omega
theorem pcsF_more (s : ByteArray) : ∀ (k m a : Nat), s.size - a ≤ k → k ≤ m → pcsF s m a = pcsF s k a
  | 0, m, a, h, _ => by
    cases m with
    | zero => rfl
    | succ m =>
      show (if a < s.size then _ else _) = _
      rw [if_neg (by omega)]
      rfl
  | k + 1, m, a, h, hm => by
    obtain ⟨m, rfl⟩ : ∃ j, m = j + 1 := ⟨m - 1, by omega⟩
    rw [pcsF, pcsF]
    by_cases ha : a < s.size
    · rw [if_pos ha, if_pos ha]
      have hb := dec_bounds (s.extract a s.size) (by rw [ext_size s a (by omega)]; omega)
      rw [pcsF_more s k m _ (by omega) (by omega)]
    · rw [if_neg ha, if_neg ha]
def pcsA (s : ByteArray) (a : Nat) : List (Int × Int) := pcsF s (s.size - a) a
theorem pcsA_end (s : ByteArray) (a : Nat) (h : ¬ a < s.size) : pcsA s a = [] := by
  unfold pcsA
  rw [show s.size - a = 0 from by omega]
  rfl
def nxt (s : ByteArray) (a : Nat) : Nat := a + (dec (s.extract a s.size)).2.toNat
def run1 (s : ByteArray) (a : Nat) : Int := (dec (s.extract a s.size)).1
theorem nxt_bounds (s : ByteArray) (a : Nat) (h : a < s.size) : a < nxt s a ∧ nxt s a ≤ s.size ∧ nxt s a ≤ a + 4 ∧ (nxt s a : Int) = a + (dec (s.extract a s.size)).2 := by
  have hb := dec_bounds (s.extract a s.size) (by rw [ext_size s a (by omega)]; omega)
  rw [ext_size s a (by omega)] at hb
  unfold nxt
  omega
theorem pcsA_next (s : ByteArray) (a : Nat) (h : a < s.size) : pcsA s a = ((a : Int), run1 s a) :: pcsA s (nxt s a) := by
  have hb := nxt_bounds s a h
  unfold pcsA
  obtain ⟨k, hk⟩ : ∃ k, s.size - a = k + 1 := ⟨s.size - a - 1, by omega⟩
  rw [hk, pcsF, if_pos h]
  have := pcsF_more s (s.size - nxt s a) k (nxt s a) (by omega) (by omega)
  exact congrArg _ this
def pcs (s : ByteArray) : List (Int × Int) := pcsA s 0

/-- Block B lies as it lay. -/
def Kb (B : Nat) (W W' : World) : Prop := W'.heap[B]? = W.heap[B]?
theorem Kp.grown0 {w w' : World} (k : Kp [] w w') : w.grownBy w' none := ⟨k.os, k.tape, k.output, k.size, fun i hi _ => k.block i hi (by simp)⟩

set_option maxRecDepth 100000 in
set_option maxHeartbeats 2000000 in
theorem each1_in (n : Nat) (hn : 1 ≤ n) (l Bs : Nat) (s : ByteArray) (hsz : s.size ≤ 4611686018427387904) (J Jx : List (Int × Int) → World → Prop)
    (W : World) (hJ : AbidesFrom W.heap.size J)
    (hY : ∀ pre x W, J pre W → pre.length < (pcs s).length → YieldAt Fence.wide (n - 1) Try.prog l #[.int .i64 x.1, .int .i64 x.2] W fun e W' =>
      (e = .returned (.bool true) ∧ J (pre ++ [x]) W' ∧ Kb Bs W W') ∨ (e = .returned (.bool false) ∧ Jx (pre ++ [x]) W'))
    (hBs : W.cell? ⟨Bs, 0, none⟩ = some (.string s)) (h0 : J [] W) :
    CallsIn Fence.wide n Try.prog 28 #[.func (.yield l) #[] #[], .pointer (some ⟨Bs, 0, none⟩)] W fun e W' => (∃ v, e = .returned v) ∧
      ((∃ ys, ys = pcs s ∧ J ys W') ∨ (∃ pre, pre <+: pcs s ∧ Jx pre W')) := by
  refine callsIn_of_wp Try.func28 rfl trivial ?_ rfl
  simp only [Try.ntmps28, List.size_toArray, List.length_cons, List.length_nil, Nat.reduceAdd, Nat.reduceSub, Array.replicate_succ, Array.replicate_zero, List.push_toArray, List.append_toArray, List.nil_append, List.cons_append]
  gi_wp2
  gi_loopw [3] (fun p wr => ∃ (a : Nat) (pre : List (Int × Int)), a ≤ s.size ∧ p = .int .i64 a ∧ pcs s = pre ++ pcsA s a ∧ J pre wr ∧ wr.cell? ⟨Bs, 0, none⟩ = some (.string s))
    (fun p _ => s.size - (intOf p).toNat)
  case atStart => exact ⟨0, [], by omega, rfl, rfl, h0, hBs⟩
  case round =>
    obtain ⟨a, pre, ha, rfl, hp, hJs, hcs⟩ := hrel
    by_cases hlt : a < s.size
    · have hd : decide ((a : Int) < s.size) = true := decide_eq_true (by omega)
      have HD := Lib.hid (decode_any (s.extract a s.size) wr)
      have hnx := nxt_bounds s a hlt
      have hpn := pcsA_next s a hlt
      rw [hpn] at hp
      gi_wp2_with fail
      refine ⟨trivial, (callsIn_wide.2 HD.out).mono ?_⟩
      rintro e w1 ⟨rfl, k1⟩
      have hJ1 : J pre w1 := hJ pre wr w1 none hJs k1.grown0 (by simp)
      have hcs1 : w1.cell? ⟨Bs, 0, none⟩ = some (.string s) := (World.cell?_of_block (a := ⟨Bs, 0, none⟩) (k1.block Bs (World.block_lt_of_cell? wr _ hcs) (by simp))).trans hcs
      obtain ⟨fn, tmps, assign, body, hy, hR⟩ := hY pre ((a : Int), (dec (s.extract a s.size)).1) w1 hJ1 (by rw [hp]; simp)
      dsimp only at hy
      have hnw : IntKind.i64.wrap ((a : Int) + (dec (s.extract a s.size)).2) = ((nxt s a : Nat) : Int) := by rw [← hnx.2.2.2, IntKind.wrap_i64]; omega
      replace hp := Lib.hid hp
      replace hnx := Lib.hid hnx
      replace hpn := Lib.hid hpn
      gi_wp2_with fail
      refine hR.mono ?_
      rintro e W3 (⟨rfl, hJ3, hk3⟩ | ⟨rfl, hJx3⟩)
      · gi_wp2
        go_round
        case rel => exact ⟨nxt s a, pre ++ [((a : Int), run1 s a)], hnx.out.2.1, rfl, by rw [hp.out]; simp, hJ3, (World.cell?_of_block (a := ⟨Bs, 0, none⟩) hk3).trans hcs1⟩
        case measure => have := hnx.out; simp [intOf]; omega
      · gi_wp2
        refine bodyPost_ret (results_none rfl _ _ _) rfl ?_
        exact ⟨⟨_, rfl⟩, .inr ⟨_, ⟨pcsA s (nxt s a), by rw [hp.out]; simp [run1]⟩, hJx3⟩⟩
    · have hpe := pcsA_end s a hlt
      rw [hpe, List.append_nil] at hp
      replace hp := Lib.hid hp
      clear hpe
      gi_wp2
      go_end0
      exact ⟨⟨_, rfl⟩, .inl ⟨_, rfl, by rw [hp.out]; exact hJs⟩⟩

set_option maxHeartbeats 1000000 in
theorem each_in (n : Nat) (s : ByteArray) (w : World) :
    CallsIn Fence.wide n Try.prog 27 #[.string s] w fun e w' => e = .returned (.func (.func 28) #[] #[.pointer (some ⟨w.heap.size, 0, none⟩)]) ∧ w' = w.alloc (.cells #[.string s] 9) := by
  refine callsIn_of_wp Try.func27 rfl trivial ?_ rfl
  simp only [Try.ntmps27, List.size_toArray, List.length_cons, List.length_nil, Nat.reduceAdd, Nat.reduceSub, Array.replicate_succ, Array.replicate_zero, List.push_toArray, List.append_toArray, List.nil_append, List.cons_append]
  gi_wp2
  go_ret
  exact ⟨rfl, rfl⟩

/-- Each(s) hands back a value whose rounds are the pieces of s, all of them or a part from the front. -/
theorem each_stops (n : Nat) (hn : 1 ≤ n) (Bs : Nat) (s : ByteArray) (hsz : s.size ≤ 4611686018427387904) (w : World) (hb : Bs < w.heap.size) (hc : w.cell? ⟨Bs, 0, none⟩ = some (.string s)) :
    SeqStopsK Fence.wide n Try.prog 28 #[.pointer (some ⟨Bs, 0, none⟩)] (fun x : Int × Int => #[Value.int .i64 x.1, Value.int .i64 x.2]) (Kb Bs) (fun ys => ys = pcs s) (fun pre => pre <+: pcs s) (pcs s).length w := fun l J Jx W hW hJ _ hY h0 => by
  have hc' := (hW.cell (p := ⟨Bs, 0, none⟩) hb).trans hc
  exact each1_in n hn l Bs s hsz J Jx W hJ hY hc' h0
theorem Kb.t {B : Nat} {A C D : World} (h : Kb B A C) (k : Kb B C D) : Kb B A D := Eq.trans k h
theorem Kb.b {B : Nat} {w : World} (hB : B < w.heap.size) (W : World) (l : Nat) (o o' : Obj) (hl : w.heap.size ≤ l) (h : W.heap[l]? = some o) (_ : o.isCells = false) (_ : o.isWalk = false) : Kb B W (W.putObj l o') :=
  World.putObj_heap_other (by omega)
end Go.Proofs.Ytbcmjpmnljfolaa
