/- Package tree: the walk of walk and of Walk, an iterator over all nodes. -/
import Derived.Test.YtojlhlepneefoaaA
import Derived.RangeFuncNested
import Derived.RangeFuncBound
import Derived.RangeFuncCalls
import Derived.RangeFuncLeaves
import Derived.RangeFuncKeeps
import Derived.RangeFuncWrites
import Derived.Shelf.Abstract
import Derived.Shelf.RegionOpen
import Derived.WalkKit
import Derived.OwnWalkIn
import Derived.TacticsInMore
import Derived.LoopNIn
import Derived.LoopIn
namespace Go.Proofs.Ytojlhlepneefoaa
open Go.RowKit PAll Go.Proofs.YtojlhlepneefoaaW.PrintWords Go.Proofs.YtojlhlepneefoaaW.PrintLast Go.Proofs.YtojlhlepneefoaaW.PrintMore
open Go.Shelf
set_option linter.unusedVariables false
set_option linter.unusedSimpArgs false

attribute [local go_sem] Oper.semAt_some
theorem room_of_none {F : Fence} (hd : F.depth = none) (k : Nat) : F.room k := fun d h => by rw [hd] at h; cases h
theorem RoundIn.anyDepth {F : Fence} (hd : F.depth = none) {m m' : Nat} {P : Program} {l : Nat} {f : FuncId} {tmps : Array Value} {assign body : Code} {w : World} {R : Ending → World → Prop}
    (h : RoundIn F m P l f tmps assign body w R) : RoundIn F m' P l f tmps assign body w R := ⟨h.1, fun c cs _ => h.2 c cs (room_of_none hd _)⟩
theorem YieldAt.anyDepth {F : Fence} (hd : F.depth = none) {m : Nat} (m' : Nat) {P : Program} {l : Nat} {args : Array Value} {W : World} {R : Ending → World → Prop} (h : YieldAt F m P l args W R) : YieldAt F m' P l args W R := by
  obtain ⟨fn, tmps, assign, body, hy, hR⟩ := h
  exact ⟨fn, tmps, assign, body, hy, RoundIn.anyDepth hd hR⟩
abbrev NVok (w : World) := { v : NV // v.ok w }
/-- One step of a walk: how deep, and the node. -/
abbrev Step (w : World) := Int × NVok w
def Step.vals {w : World} (x : Step w) : Array Value := #[.int .i64 x.1, x.2.1.val]
def proj {w : World} (xs : List (Step w)) : List (Int × S25) := xs.map fun x => (x.1, x.2.1.n)
def stepsL : Nat → Int → S25 → List (Int × S25)
  | 0, _, _ => []
  | m + 1, d, n => (d, n) :: n.f7.flatMap (stepsL m (d + 1))
theorem grown_none_alloc (W : World) (o : Obj) : W.grownBy (W.alloc o) none := World.grownBy_alloc W o none
/-- What a round keeps: what lay below B, and every node's box. -/
def Kn (B : Nat) (W W' : World) : Prop := Below B W W' ∧ ∀ (k : Nat) (cs : Array Value), W.heap[k]? = some (Obj.cells cs 25 (0, 0)) → W'.heap[k]? = some (Obj.cells cs 25 (0, 0))
theorem Kn.refl (B : Nat) (W : World) : Kn B W W := ⟨Below.refl _ _, fun _ _ h => h⟩
theorem Kn.trans {B : Nat} {a b c : World} (h : Kn B a b) (k : Kn B b c) : Kn B a c := ⟨h.1.trans k.1, fun i cs hi => k.2 i cs (h.2 i cs hi)⟩
theorem Kn.ofKp {B : Nat} {W W' : World} (k : Kp [] W W') (hB : B ≤ W.heap.size) : Kn B W W' := ⟨k.below hB (by simp), fun i cs hi => kblk k hi⟩
theorem Kn.alloc {B : Nat} {W W' : World} (h : Kn B W W') (hB : B ≤ W'.heap.size) (o : Obj) : Kn B W (W'.alloc o) := h.trans (Kn.ofKp ((Kp.refl [] W').alloc o) hB)
set_option maxRecDepth 100000 in
set_option maxHeartbeats 4000000 in
theorem walk_in (l N B : Nat) (W0 : World) (J Jx : List (Step W0) → World → Prop) (hJ : AbidesFrom B J)
    (hY : ∀ m pre (x : Step W0) W, J pre W → pre.length < N → YieldAt Fence.wide m Try.prog l x.vals W fun e W' =>
      (e = .returned (.bool true) ∧ J (pre ++ [x]) W' ∧ Kn W0.heap.size W W') ∨ (e = .returned (.bool false) ∧ Jx (pre ++ [x]) W')) :
    ∀ (m : Nat) (d : Nat), d + m = 1001 → 1 ≤ d → ∀ (n : Nat) (v : NVok W0) (pre : List (Step W0)) (W : World), Below W0.heap.size W0 W → J pre W → pre.length + (stepsL m d v.1.n).length ≤ N →
      CallsIn Fence.wide n Try.prog 84 #[v.1.val, .int .i64 (d : Int), .func (.yield l) #[] #[]] W fun e W' =>
        (e = .returned (.bool true) ∧ (∃ xs, proj xs = stepsL m d v.1.n ∧ J (pre ++ xs) W') ∧ Kn W0.heap.size W W') ∨ (e = .returned (.bool false) ∧ ∃ q, proj q <+: stepsL m d v.1.n ∧ Jx (pre ++ q) W') := by
  intro m
  induction m with
  | zero =>
    intro d hd hd1 n v pre W hb hJ0 hN
    obtain ⟨⟨⟨kd, set, num, nm, mn, mx, lz, subs⟩, A1, c1, A7, c7⟩, hv⟩ := v
    dsimp only [NV.val, NV.cells]
    have dd : decide ((1000 : Int) < (d : Int)) = true := decide_eq_true (by omega)
    have hJ1 := hJ _ _ _ none hJ0 (grown_none_alloc W (.cells #[.int .i64 kd, .slice A1 set.length c1, .int .i64 num, .string nm, .int .i64 mn, .int .i64 mx, .bool lz, .slice A7 subs.length c7] 25)) (fun r e => by cases e)
    refine callsIn_of_wp Try.func84 rfl trivial ?_ rfl
    simp only [Try.ntmps84, List.size_toArray, List.length_cons, List.length_nil, Nat.reduceAdd, Nat.reduceSub, Array.replicate_succ, Array.replicate_zero, List.push_toArray, List.append_toArray, List.nil_append, List.cons_append]
    gi_wp2
    go_ret
    exact .inl ⟨rfl, ⟨[], rfl, by simpa using hJ1⟩, (Kn.refl _ _).alloc hb.size _⟩
  | succ m ih =>
    intro d hd hd1 n v pre W hb hJ0 hN
    have hv0 := v.2
    have hdd : ∀ k : Nat, (Fence.wide.depth.isSome = true → 1 ≤ k) := fun k h => by cases h
    obtain ⟨W1, hW1⟩ : ∃ W1, W1 = W.alloc (.cells v.1.cells.toArray 25) := ⟨_, rfl⟩
    have hJ1 : J pre W1 := by rw [hW1]; exact hJ _ _ _ none hJ0 (grown_none_alloc W _) (fun r e => by cases e)
    have k1 : Kn W0.heap.size W W1 := by rw [hW1]; exact (Kn.refl _ _).alloc hb.size _
    have hbox : W1.heap[W.heap.size]? = some (.cells v.1.cells.toArray 25 (0, 0)) := by rw [hW1]; exact heap_alloc_new W _
    have hlen : pre.length < N := by simp only [stepsL, List.length_cons] at hN; omega
    obtain ⟨fn, tmps, assign, body, hy, hR⟩ := hY (n - 1) pre ((d : Int), v) W1 hJ1 hlen
    dsimp only [Step.vals] at hy
    have e1 : stepsL (m + 1) (d : Int) v.1.n = ((d : Int), v.1.n) :: v.1.n.f7.flatMap (stepsL m ((d : Int) + 1)) := rfl
    rw [e1] at hN ⊢
    have dd : decide ((1000 : Int) < (d : Int)) = false := decide_eq_false (by omega)
    obtain ⟨⟨⟨kd, set, num, nm, mn, mx, lz, subs⟩, A1, c1, A7, c7⟩, hv⟩ := v
    dsimp only [NV.val, NV.cells] at hy hbox hN hW1 ⊢
    by_cases h0 : 0 < subs.length
    rotate_left
    · obtain rfl : subs = [] := List.eq_nil_of_length_eq_zero (by omega)
      have HW := Lib.hid hW1
      have HB := Lib.hid hbox
      have HR := hR.mono (R' := fun e W2 => (e = .returned (.bool true) ∧ J (pre ++ [((d : Int), (⟨⟨⟨kd, set, num, nm, mn, mx, lz, []⟩, A1, c1, A7, c7⟩, hv⟩ : NVok W0))]) W2 ∧ Kn W0.heap.size W1 W2 ∧ W2.cell? ⟨W.heap.size, 7, none⟩ = some (.slice A7 0 c7)) ∨ (e = .returned (.bool false) ∧ Jx (pre ++ [((d : Int), (⟨⟨⟨kd, set, num, nm, mn, mx, lz, []⟩, A1, c1, A7, c7⟩, hv⟩ : NVok W0))]) W2))
        (fun e W2 h => h.elim (fun ⟨he, hj, hk⟩ => .inl ⟨he, hj, hk, (cellB (hk.2 _ _ HB.out) 7).trans rfl⟩) .inr)
      clear hR hbox
      refine callsIn_of_wp Try.func84 rfl trivial ?_ rfl
      simp only [Try.ntmps84, List.size_toArray, List.length_cons, List.length_nil, Nat.reduceAdd, Nat.reduceSub, Array.replicate_succ, Array.replicate_zero, List.push_toArray, List.append_toArray, List.nil_append, List.cons_append]
      rw [hW1] at hy HR
      clear hW1
      simp only [List.length_nil] at hy HR
      gi_wp2
      refine ⟨hdd _, ?_⟩
      refine HR.mono ?_
      rintro e W2 (⟨rfl, hJ2, hk2, y7⟩ | ⟨rfl, hx2⟩)
      · gi_wp2
        gi_loopw [19] (fun i wr => i = .int .i64 0 ∧ wr = W2) (fun i _ => 0)
        case atStart => exact ⟨rfl, rfl⟩
        case round =>
          obtain ⟨rfl, rfl⟩ := hrel
          gi_wp2
          go_ret
          exact .inl ⟨rfl, ⟨_, rfl, hJ2⟩, k1.trans (by rw [HW.out]; exact hk2)⟩
      · gi_wp2
        go_ret
        exact .inr ⟨rfl, _, List.prefix_refl _, hx2⟩
    · obtain ⟨b, o, rfl, hlt, vs, hvs, hok, hc⟩ := rowOpen (show Kd.C k25 W0 A7 subs.length subs from hv.g7) h0
      have hvl : vs.length = subs.length := by rw [← hvs]; simp
      have hmax : subs.length ≤ 9223372036854775807 := hv.g7.2.1
      obtain ⟨x0, hx0⟩ : ∃ x0 : Step W0, x0 = ((d : Int), (⟨⟨⟨kd, set, num, nm, mn, mx, lz, subs⟩, A1, c1, some ⟨b, o, none⟩, c7⟩, hv⟩ : NVok W0)) := ⟨_, rfl⟩
      have hpx : ∀ xs : List (Step W0), proj (x0 :: xs) = ((d : Int), (⟨kd, set, num, nm, mn, mx, lz, subs⟩ : S25)) :: proj xs := by intro xs; rw [hx0]; rfl
      rw [← hx0] at hR
      have HPX := Lib.hid hpx
      have HW := Lib.hid hW1
      have HB := Lib.hid hbox
      have HR := hR.mono (R' := fun e W2 => (e = .returned (.bool true) ∧ J (pre ++ [x0]) W2 ∧ Kn W0.heap.size W1 W2 ∧ W2.cell? ⟨W.heap.size, 7, none⟩ = some (.slice (some ⟨b, o, none⟩) subs.length c7)) ∨ (e = .returned (.bool false) ∧ Jx (pre ++ [x0]) W2))
        (fun e W2 h => h.elim (fun ⟨he, hj, hk⟩ => .inl ⟨he, hj, hk, (cellB (hk.2 _ _ HB.out) 7).trans rfl⟩) .inr)
      have HC := Lib.hid hc
      have HVS := Lib.hid hvs
      have HOK := Lib.hid hok
      clear hR hbox hx0 hpx hc hvs
      refine callsIn_of_wp Try.func84 rfl trivial ?_ rfl
      simp only [Try.ntmps84, List.size_toArray, List.length_cons, List.length_nil, Nat.reduceAdd, Nat.reduceSub, Array.replicate_succ, Array.replicate_zero, List.push_toArray, List.append_toArray, List.nil_append, List.cons_append]
      rw [hW1] at hy HR
      clear hW1
      gi_wp2
      refine ⟨hdd _, ?_⟩
      refine HR.mono ?_
      rintro e W2 (⟨rfl, hJ2, hk2, y7⟩ | ⟨rfl, hx2⟩)
      rotate_left
      · gi_wp2
        go_ret
        exact .inr ⟨rfl, [x0], ⟨_, by rw [HPX.out]; rfl⟩, hx2⟩
      · have kW2 : Kn W0.heap.size W W2 := k1.trans (by rw [HW.out]; exact hk2)
        have hb2 : Below W0.heap.size W0 W2 := hb.trans kW2.1
        gi_wp2
        gi_loopw [19] (fun i wr => ∃ (k : Nat) (xs : List (Step W0)), i = .int .i64 k ∧ k ≤ subs.length ∧ Aside0 (proj xs = (subs.take k).flatMap (stepsL m ((d : Int) + 1))) ∧ Aside0 (J (pre ++ (x0 :: xs)) wr) ∧ Aside0 (Kn W0.heap.size W wr)) (fun i _ => subs.length - (intOf i).toNat)
        case atStart => exact ⟨0, [], rfl, by omega, ⟨rfl⟩, ⟨hJ2⟩, ⟨kW2⟩⟩
        case round =>
          obtain ⟨k, xs, rfl, hk, hxs, hJk, hKk⟩ := hrel
          by_cases hlt2 : k < subs.length
          rotate_left
          · obtain rfl : k = subs.length := by omega
            have dk : decide ((subs.length : Int) < (subs.length : Int)) = false := decide_eq_false (by omega)
            gi_wp2
            go_ret
            refine .inl ⟨rfl, ⟨x0 :: xs, ?_, hJk.out⟩, hKk.out⟩
            rw [HPX.out, hxs.out, List.take_length]
          · have dk : decide ((k : Int) < (subs.length : Int)) = true := decide_eq_true (by omega)
            have hkv : k < vs.length := by omega
            obtain ⟨vk, hvk⟩ : ∃ vk, vk = vs[k] := ⟨_, rfl⟩
            have hcell : ∀ i u, vk.cells[i]? = some u → wr.cell? ⟨b, o + k * 8 + i, none⟩ = some u := by
              intro i u hu
              rw [hvk] at hu
              exact ((hb.trans hKk.out.1).cell (p := ⟨b, o + k * 8 + i, none⟩) hlt).trans (HC.out k hkv i u hu)
            have hvok : vk.ok W0 := by rw [hvk]; exact HOK.out _ (List.getElem_mem hkv)
            have hsk : subs[k] = vk.n := by
              have h1 := HVS.out
              subst h1
              rw [hvk]; simp
            have hpl : xs.length = ((subs.take k).flatMap (stepsL m ((d : Int) + 1))).length := by rw [← hxs.out]; simp [proj]
            have htk : subs.take (k + 1) = subs.take k ++ [vk.n] := by rw [List.take_succ_eq_append_getElem hlt2, hsk]
            have hle : ((subs.take (k + 1)).flatMap (stepsL m ((d : Int) + 1))).length ≤ (subs.flatMap (stepsL m ((d : Int) + 1))).length := by
              conv => rhs; rw [← List.take_append_drop (k + 1) subs, List.flatMap_append, List.length_append]
              omega
            rw [htk, List.flatMap_append, List.length_append] at hle
            simp only [List.flatMap_cons, List.flatMap_nil, List.append_nil, List.length_cons] at hle hN
            obtain ⟨W3, hW3⟩ : ∃ W3, W3 = wr.alloc (.cells vk.cells.toArray 25) := ⟨_, rfl⟩
            have hJ3 : J (pre ++ (x0 :: xs)) W3 := by rw [hW3]; exact hJ _ _ _ none hJk.out (grown_none_alloc wr _) (fun r e => by cases e)
            have hle2 : W0.heap.size ≤ wr.heap.size := (hb.trans hKk.out.1).size
            have hK3 : Kn W0.heap.size W W3 := by rw [hW3]; exact hKk.out.alloc hle2 _
            have IH := ih (d + 1) (by omega) (by omega) (n - 1) (⟨vk, hvok⟩ : NVok W0) (pre ++ (x0 :: xs)) W3 (hb.trans hK3.1) hJ3 (by
              simp only [List.length_append, List.length_cons]
              rw [show (((d + 1 : Nat) : Int)) = (d : Int) + 1 from rfl]
              omega)
            rw [show (((d + 1 : Nat) : Int)) = (d : Int) + 1 from rfl] at IH
            obtain ⟨⟨kd', set', num', nm', mn', mx', lz', subs'⟩, A1', c1', A7', c7'⟩ := vk
            dsimp only [NV.val, NV.cells] at IH hW3 hcell
            have z0 := hcell 0 _ rfl; have z1 := hcell 1 _ rfl; have z2 := hcell 2 _ rfl; have z3 := hcell 3 _ rfl
            have z4 := hcell 4 _ rfl; have z5 := hcell 5 _ rfl; have z6 := hcell 6 _ rfl; have z7 := hcell 7 _ rfl
            simp only [Nat.add_zero] at z0
            rw [hW3] at IH
            have HIH := Lib.hid IH
            have HW3 := Lib.hid hW3
            have HHT := Lib.hid htk
            have HH3 := Lib.hid hK3
            clear hcell IH hvk hsk hpl htk hW3 hle hN hy HR
            gi_wp2_with ((try refine ⟨trivial, ?_⟩); (try refine ⟨hdd _, ?_⟩); gi_at_call 84; refine HIH.out.mono ?_; rintro e W4 (⟨rfl, ⟨ys, hys, hJ4⟩, hk4⟩ | ⟨rfl, q, hq, hx4⟩))
            · go_roundw
              case rel =>
                refine ⟨k + 1, xs ++ ys, by go_num, by omega, ⟨?_⟩, ⟨?_⟩, ⟨HH3.out.trans (by rw [HW3.out]; exact hk4)⟩⟩
                · rw [HHT.out, List.flatMap_append, proj, List.map_append, ← hxs.out]
                  simp only [List.flatMap_cons, List.flatMap_nil, List.append_nil]
                  rw [← hys]
                  rfl
                · have := hJ4
                  simp only [List.append_assoc, List.cons_append] at this ⊢
                  exact this
              case measure => simp [intOf]; omega
            · go_ret
              refine .inr ⟨rfl, x0 :: (xs ++ q), ?_, ?_⟩
              · rw [HPX.out]
                obtain ⟨r, hr⟩ := hq
                refine ⟨r ++ (subs.drop (k + 1)).flatMap (stepsL m ((d : Int) + 1)), ?_⟩
                have e2 : subs.flatMap (stepsL m ((d : Int) + 1)) = (subs.take (k + 1)).flatMap (stepsL m ((d : Int) + 1)) ++ (subs.drop (k + 1)).flatMap (stepsL m ((d : Int) + 1)) := by
                  rw [← List.flatMap_append, List.take_append_drop]
                rw [e2, HHT.out, List.flatMap_append, proj, List.map_append]
                have e3 := hxs.out
                simp only [proj] at e3 hr ⊢
                rw [e3]
                simp only [List.flatMap_cons, List.flatMap_nil, List.append_nil, List.cons_append, List.append_assoc]
                rw [← hr]
                simp only [List.append_assoc]
              · have := hx4
                simp only [List.append_assoc, List.cons_append] at this ⊢
                exact this
end Go.Proofs.Ytojlhlepneefoaa
