/- Expand and Groups, walked. -/
import Derived.Test.YtgjjkpnfnjpfgaaDoorM
namespace Go.Proofs.YtgjjkpnfnjpfgaaDoor
open Go.Shelf Go.RowKit PAll Go.Proofs.YtgjjkpnfnjpfgaaDoorW.PrintWords Go.Proofs.YtgjjkpnfnjpfgaaDoorW.PrintLast Go.Proofs.YtgjjkpnfnjpfgaaDoorW.PrintMore
set_option linter.unusedVariables false
set_option linter.unusedSimpArgs false
theorem byteCells_str (s : ByteArray) : Lib.strCells s = Lib.byteCells s.toList := by
  rw [ByteArray.toList_eq]; rfl
theorem saidT (k : Int) (t : ByteArray) (sl : List Int) (h0 : -1000000 ≤ k) (h1 : k ≤ 1000000) (hl : sl.length ≤ 4611686018427387904) : ∃ r, tmpl_said.f 1 k t sl = some r ∧ r.size ≤ t.size := by
  have hem : ((⟨#[]⟩ : ByteArray).size ≤ t.size) := Nat.zero_le _
  unfold tmpl_said.f
  rw [tmpl_said.j0, tmpl_said.j0]
  by_cases hk : k < 0
  · rw [if_pos hk, if_pos rfl]
    exact ⟨_, rfl, hem⟩
  · rw [if_neg hk]
    by_cases hd : k ≥ wrap64 ((sl.length : Int) / 2)
    · rw [decide_eq_true hd, if_pos rfl]
      exact ⟨_, rfl, hem⟩
    · rw [decide_eq_false hd, if_neg (by simp)]
      rw [w64 _ (by omega) (by omega)] at hd
      rw [w64 (2 * k) (by omega) (by omega), w64 (2 * k + 1) (by omega) (by omega)]
      rw [if_pos (by omega), if_pos (by omega), if_pos (by omega), if_pos (by omega)]
      generalize rd sl (2 * k) = a
      generalize rd sl (2 * k + 1) = b
      by_cases h1 : a < 0
      · rw [if_pos h1]; exact ⟨_, rfl, hem⟩
      · rw [if_neg h1]
        by_cases h2 : b < a
        · rw [if_pos h2]; exact ⟨_, rfl, hem⟩
        · rw [if_neg h2]
          by_cases h3 : b > (t.size : Int)
          · rw [if_pos h3]; exact ⟨_, rfl, hem⟩
          · rw [if_neg h3, if_pos (by omega), if_pos (by omega), if_pos (by omega)]
            refine ⟨_, rfl, ?_⟩
            rw [ByteArray.size_extract]
            omega
/-- What a group says. -/
def saidL (t : ByteArray) (sl : List Int) (k : Int) : List UInt8 := ((tmpl_said.f 1 k t sl).getD ⟨#[]⟩).toList
def expL (t : ByteArray) (sl : List Int) : List Pc → List UInt8
  | [] => []
  | .t l :: m => l ++ expL t sl m
  | .g k :: m => saidL t sl k ++ expL t sl m
def groupsL : List Pc → List Int
  | [] => []
  | .t _ :: m => groupsL m
  | .g k :: m => k :: groupsL m
theorem gr_ne : ∀ (m : List Pc) (k : Int), Pc.g k ∈ m → ¬ groupsL m = []
  | [], k, h => by cases h
  | .t l :: m, k, h => by
    simp only [List.mem_cons, reduceCtorEq, false_or] at h
    exact gr_ne m k h
  | .g j :: m, k, h => by simp [groupsL]
theorem TBox.open' {b : Nat} {xs : List Value} {u : Value} {w : World} (h : TBox b xs u w) (hn : xs ≠ []) : ∃ g cap, u = .slice (some ⟨g, 0, none⟩) xs.length cap ∧ b < g ∧ g < w.heap.size ∧ (∀ w' : World, w'.heap[g]? = w.heap[g]? → ∀ j (hj : j < xs.length), w'.cell? ⟨g, j, none⟩ = some xs[j]) := by
  rcases h.row.2 with ⟨_, h0⟩ | ⟨g, cap, cur, hv, hb, hg, hc, hm, hs, ht⟩
  · exact absurd (List.length_eq_zero_iff.1 h0) hn
  · refine ⟨g, cap, hv, by omega, ltB hg, fun w' hw j hj => ?_⟩
    rw [cellB (hw.trans hg)]
    rw [Nat.mul_one] at ht hs
    have hj2 : j < cur.size := by rw [hs]; omega
    rw [Array.getElem?_eq_getElem hj2]
    congr 1
    have hh : cur.toList[j]? = some xs[j] := by
      rw [← List.getElem?_take_of_lt (show j < xs.length from hj), ht, List.getElem?_eq_getElem hj]
    rw [Array.getElem?_toList, Array.getElem?_eq_getElem hj2] at hh
    exact Option.some.inj hh
def ExpI (w W1 : World) (b B : Nat) (t : ByteArray) (sl : List Int) (m : List Pc) (iv : Value) (wr : World) : Prop :=
  ∃ i : Nat, iv = .int .i64 i ∧ i ≤ m.length ∧ Lib.IsBuilder 50 5 B B (Lib.byteCells (expL t sl (m.take i))) wr ∧ Below B W1 wr ∧ Aside0 ((expL t sl (m.take i)).length ≤ i * 1100000)
theorem expL_snoc (t : ByteArray) (sl : List Int) (p : Pc) : ∀ m : List Pc, expL t sl (m ++ [p]) = expL t sl m ++ expL t sl [p]
  | [] => by simp [expL]
  | .t l :: m => by simp [expL, expL_snoc t sl p m]
  | .g k :: m => by simp [expL, expL_snoc t sl p m]
theorem expL_app (t : ByteArray) (sl : List Int) (n : List Pc) : ∀ m : List Pc, expL t sl (m ++ n) = expL t sl m ++ expL t sl n
  | [] => by simp [expL]
  | .t l :: m => by simp [expL, expL_app t sl n m]
  | .g k :: m => by simp [expL, expL_app t sl n m]
theorem byteCells_app (a b : List UInt8) : Lib.byteCells a ++ Lib.byteCells b = Lib.byteCells (a ++ b) := by simp [Lib.byteCells]
def okPc : Pc → Prop
  | .t l => l.length ≤ 1100000
  | .g k => -1000000 ≤ k ∧ k ≤ 1000000
theorem drewB {b B : Nat} {l : List Value} {w : World} (h : Lib.IsBuilder 50 5 B b l w) (n : Nat) : Lib.IsBuilder 50 5 B b l (w.drewN n) := h
theorem as45 (v : Value) (w : World) : (Instr.typeAssert (.iface 41 v) 51 41 true).run Tryd.prog w = .ok (.tuple #[v, .bool true]) w := by
  simp [Instr.typeAssert, run_underlying Tryd.underlying41, go_sem, Result.andThen, Tryd.zeroValue41]
theorem as48 (v : Value) (w : World) : (Instr.typeAssert (.iface 44 v) 51 44 true).run Tryd.prog w = .ok (.tuple #[v, .bool true]) w := by
  simp [Instr.typeAssert, run_underlying Tryd.underlying44, go_sem, Result.andThen, Tryd.zeroValue44]
theorem as4845 (v : Value) (w : World) : (Instr.typeAssert (.iface 44 v) 51 41 true).run Tryd.prog w = .ok (.tuple #[.string ⟨#[]⟩, .bool false]) w := by
  simp [Instr.typeAssert, run_underlying Tryd.underlying41, go_sem, Result.andThen, Tryd.zeroValue41]
theorem as4548 (v : Value) (w : World) : (Instr.typeAssert (.iface 41 v) 51 44 true).run Tryd.prog w = .ok (.tuple #[.int .i64 0, .bool false]) w := by
  simp [Instr.typeAssert, run_underlying Tryd.underlying44, go_sem, Result.andThen, Tryd.zeroValue44]
attribute [local go_sem] as4548 as45 as48 as4845
set_option maxRecDepth 100000 in
set_option maxHeartbeats 4000000 in
theorem expand_calls (b : Nat) (m : List Pc) (u : Value) (t : ByteArray) (A : Option Addr) (c : Nat) (sl : List Int) (w : World) (hT : TBox b (m.map Pc.val) u w) (hm : m ≠ []) (hml : m.length ≤ 100000) (ht : (t.size ≤ 1100000 ∧ sl.length ≤ 4611686018427387904) ∨ groupsL m = []) (hc : sl.length ≤ c)
    (hr : Kd.C (Kd.int .i64) w A sl.length sl) (hok : ∀ p ∈ m, okPc p) :
    Calls Tryd.prog 7 #[.pointer (some ⟨b, 0, none⟩), .string t, .slice A sl.length c] w fun e w' => e = .returned (.string ⟨(expL t sl m).toArray⟩) ∧ Below w.heap.size w w' := by
  obtain ⟨g, cap, rfl, hbg, hg, hcell⟩ := hT.open' (by simpa using hm)
  have hb := hT.box
  have z0 : w.cell? ⟨b, 0, none⟩ = some (.slice (some ⟨g, 0, none⟩) (m.map Pc.val).length cap) := cellB hb 0
  rw [List.length_map] at z0
  have hbl := ltB hb
  have WS := Lib.hid ws_calls
  have BS := Lib.hid Tryd.Builder_String_any
  have HC := Lib.hid hcell
  have HO := Lib.hid hok
  have SC := Lib.hid (fun k r w' h => tmpl_said.calls 1 k t A c sl r w' h hc)
  replace hr := Lib.hid hr
  have HC0 := Lib.hid ht
  clear hcell hok hT hb ht
  go_enter Tryd.func7, Tryd.ntmps7
  go_wp2_with fail
  obtain ⟨B, hB⟩ : ∃ B, B = w.heap.size := ⟨_, rfl⟩
  obtain ⟨W1, hW1⟩ : ∃ W1, W1 = w.alloc (.cells #[.pointer none, .slice none 0 0] 50) := ⟨_, rfl⟩
  have hI0 : Lib.IsBuilder 50 5 B B (Lib.byteCells (expL t sl (m.take 0))) W1 := by rw [hW1, hB]; exact Lib.fresh_isBuilder 50 5 w
  have k0 : Below B w W1 := by rw [hW1, hB]; exact (Below.refl _ _).alloc (Nat.le_refl _) _
  have hBw : B ≤ w.heap.size := by rw [hB]; exact Nat.le_refl _
  have hgB : g < B := by rw [hB]; exact hg
  rw [← hB, ← hW1]
  have HB := Lib.hid hB
  have HR2 : ∀ wr, Below B W1 wr → Kd.C (Kd.int .i64) wr A sl.length sl := fun wr hb => Kd.C_below hr.out (by have := k0.trans hb; rwa [HB.out] at this)
  replace HR2 := Lib.hid HR2
  clear hB hW1 hr
  go_loopw [17] (fun iv wr => ExpI w W1 b B t sl m iv wr) (fun iv _ => m.length - (intOf iv).toNat)
  case atStart => exact ⟨0, rfl, by omega, hI0, Below.refl _ _, ⟨by simp [expL]⟩⟩
  case round =>
    obtain ⟨i, rfl, hi, hIB, hbw, hlen⟩ := hrel
    clear hI0
    have hBr : B ≤ wr.heap.size := Nat.le_trans hBw (Nat.le_trans k0.size hbw.size)
    by_cases hlt : i < m.length
    · have di : decide ((i : Int) < (m.length : Int)) = true := decide_eq_true (by omega)
      have hgr : wr.heap[g]? = w.heap[g]? := (hbw.block g hgB).trans (k0.block g hgB)
      have hbg2 : g < wr.heap.size := by omega
      have hcl := HC.out wr hgr i (by simpa using hlt)
      rw [List.getElem_map] at hcl
      have hwi : IntKind.i64.wrap ((i : Int) + 1) = (i : Int) + 1 := IntWalk.i64_in _ (by omega)
      have hpk := HO.out m[i] (List.getElem_mem _)
      have hsn : expL t sl (m.take (i + 1)) = expL t sl (m.take i) ++ expL t sl [m[i]] := by
        rw [← List.take_append_getElem hlt, expL_snoc]
      have hcn := hlen.out
      replace hlen := Lib.hid hlen
      cases hp : m[i] with
      | t l =>
        rw [hp] at hcl hpk hsn
        have hpk' : l.length ≤ 1100000 := hpk
        have hsl : (bs l).size = l.length := bs_size l
        have hw : IntKind.i64.wrap 0 = 0 := rfl
        have W1' := Lib.hid (WS.out B B (Lib.byteCells (expL t sl (m.take i))) (bs l) wr hIB (by rw [hsl]; simp only [Lib.byteCells, List.length_map]; omega) hBr)
        replace hsn := Lib.hid hsn
        replace hp := Lib.hid hp
        replace hsl := Lib.hid hsl
        replace hcn := Lib.hid hcn
        dsimp only [Pc.val] at hcl
        go_wp2_with (go_at_call 14; refine (W1'.out).mono ?_; rintro e w2 ⟨rfl, hP, kb2, _⟩)
        have hl1 : (expL t sl [Pc.t l]).length = l.length := by simp [expL]
        go_round
        case rel =>
          refine ⟨i + 1, rfl, hlt, .inr ?_, hbw.trans kb2, ⟨?_⟩⟩
          · rw [hsn.out, ← byteCells_app]
            rw [byteCells_str, bs_list] at hP
            simpa [expL] using hP
          · rw [hsn.out, List.length_append, hl1]
            have := hcn.out
            omega
        case measure => simp [intOf]; omega
      | g k =>
        rw [hp] at hcl hpk hsn
        have hpk' : -1000000 ≤ k ∧ k ≤ 1000000 := hpk
        have hno : ¬ groupsL m = [] := gr_ne m k (by rw [← hp]; exact List.getElem_mem _)
        have ht := (HC0.out.resolve_right hno).1
        have hcl0 := (HC0.out.resolve_right hno).2
        obtain ⟨r, hr1, hr2⟩ := saidT k t sl hpk'.1 hpk'.2 hcl0
        have hse : saidL t sl k = r.toList := by unfold saidL; rw [hr1]; rfl
        have hrl : r.toList.length = r.size := by rw [ByteArray.toList_eq, Array.length_toList]; rfl
        have W1' := Lib.hid (fun n => WS.out B B (Lib.byteCells (expL t sl (m.take i))) r (wr.drewN n) (drewB hIB n) (by simp only [Lib.byteCells, List.length_map]; omega) hBr)
        have S1 := Lib.hid (fun w' h => SC.out k r w' h hr1)
        have R1 := Lib.hid (HR2.out wr hbw)
        replace hsn := Lib.hid hsn
        replace hp := Lib.hid hp
        replace hcn := Lib.hid hcn
        replace hse := Lib.hid hse
        replace hrl := Lib.hid hrl
        replace hr1 := Lib.hid hr1
        dsimp only [Pc.val] at hcl
        go_wp2_with (first | (go_at_call 15; refine (S1.out _ R1.out).mono ?_; rintro e w3 ⟨rfl, n3, rfl⟩) | (go_at_call 14; refine (W1'.out n3).mono ?_; rintro e w2 ⟨rfl, hP, kb2, _⟩))
        have hl1 : (expL t sl [Pc.g k]).length = r.size := by simp [expL, hse.out, hrl.out]
        go_round
        case rel =>
          refine ⟨i + 1, rfl, hlt, .inr ?_, hbw.trans ⟨kb2.os, kb2.tape, kb2.output, kb2.size, kb2.block⟩, ⟨?_⟩⟩
          · rw [hsn.out, ← byteCells_app]
            rw [byteCells_str] at hP
            simpa [expL, hse.out] using hP
          · rw [hsn.out, List.length_append, hl1]
            have := hcn.out
            omega
        case measure => simp [intOf]; omega
    · have : i = m.length := by omega
      subst this
      have di : decide ((m.length : Int) < (m.length : Int)) = false := decide_eq_false (by omega)
      rw [List.take_length] at hIB
      have B1 := Lib.hid (BS.out B B (expL t sl m) wr hIB hBr)
      go_wp2_with (go_at_call 16; refine (B1.out).mono ?_; rintro e w3 ⟨rfl, kb3⟩)
      go_ret
      exact ⟨rfl, by rw [← HB.out]; exact (k0.trans hbw).trans kb3⟩
/-- A row of groups in a row of its own. -/
def GrI (w : World) (b : Nat) (m : List Pc) (ov iv : Value) (wr : World) : Prop :=
  ∃ i : Nat, iv = .int .i64 i ∧ i ≤ m.length ∧ wr.ownsRow w.heap.size 3 1 ov (groupsL (m.take i)).length ((groupsL (m.take i)).map fun k => .int .i64 k) ∧ Kp [] w wr
theorem groupsL_snoc (p : Pc) : ∀ m : List Pc, groupsL (m ++ [p]) = groupsL m ++ groupsL [p]
  | [] => by simp [groupsL]
  | .t l :: m => by simp [groupsL, groupsL_snoc p m]
  | .g k :: m => by simp [groupsL, groupsL_snoc p m]
theorem groupsL_app (n : List Pc) : ∀ m : List Pc, groupsL (m ++ n) = groupsL m ++ groupsL n
  | [] => by simp [groupsL]
  | .t l :: m => by simp [groupsL, groupsL_app n m]
  | .g k :: m => by simp [groupsL, groupsL_app n m]
theorem groupsL_le : ∀ m : List Pc, (groupsL m).length ≤ m.length
  | [] => by simp [groupsL]
  | .t l :: m => by have := groupsL_le m; simp only [groupsL, List.length_cons]; omega
  | .g k :: m => by have := groupsL_le m; simp only [groupsL, List.length_cons]; omega
theorem info3 : (Tryd.prog.info? 3).map (fun i => (i.zero, i.size, i.bytes)) = some (some (.int .i64 0), 1, 8) := by kernel_rfl
set_option maxRecDepth 100000 in
set_option maxHeartbeats 4000000 in
theorem groups_calls (b : Nat) (m : List Pc) (u : Value) (w : World) (hT : TBox b (m.map Pc.val) u w) (hm : m ≠ []) (hml : m.length ≤ 100000) :
    Calls Tryd.prog 8 #[.pointer (some ⟨b, 0, none⟩)] w fun e w' => ∃ v, e = .returned v ∧ w'.ownsRow w.heap.size 3 1 v (groupsL m).length ((groupsL m).map fun k => .int .i64 k) ∧ Kp [] w w' := by
  obtain ⟨i0, hi0, hz0, hz1, hz2⟩ := info_parts info3
  obtain ⟨g, cap, rfl, hbg, hg, hcell⟩ := hT.open' (by simpa using hm)
  have hb := hT.box
  have z0 : w.cell? ⟨b, 0, none⟩ = some (.slice (some ⟨g, 0, none⟩) (m.map Pc.val).length cap) := cellB hb 0
  rw [List.length_map] at z0
  have hbl := ltB hb
  have HC := Lib.hid hcell
  clear hcell hT hb
  go_enter Tryd.func8, Tryd.ntmps8
  go_wp2_with fail
  go_loopw [3, 13] (fun ov iv wr => GrI w b m ov iv wr) (fun _ iv _ => m.length - (intOf iv).toNat)
  case atStart => exact ⟨0, rfl, by omega, by simpa [groupsL] using World.ownsRow_nil _ _ _ _, Kp.refl _ _⟩
  case round =>
    obtain ⟨i, rfl, hi, hO, kk⟩ := hrel
    by_cases hlt : i < m.length
    · have di : decide ((i : Int) < (m.length : Int)) = true := decide_eq_true (by omega)
      have hgr : wr.heap[g]? = w.heap[g]? := kk.block g hg (by simp)
      have hbg2 : g < wr.heap.size := Nat.lt_of_lt_of_le hg kk.size
      have hcl := HC.out wr hgr i (by simpa using hlt)
      rw [List.getElem_map] at hcl
      have hwi : IntKind.i64.wrap ((i : Int) + 1) = (i : Int) + 1 := IntWalk.i64_in _ (by omega)
      have hsn : groupsL (m.take (i + 1)) = groupsL (m.take i) ++ groupsL [m[i]] := by
        rw [← List.take_append_getElem hlt, groupsL_snoc]
      have hle := groupsL_le (m.take i)
      rw [List.length_take] at hle
      cases hp : m[i] with
      | t l =>
        rw [hp] at hcl hsn
        replace hsn := Lib.hid hsn
        replace hp := Lib.hid hp
        dsimp only [Pc.val] at hcl
        go_wp2_with fail
        go_round
        case rel => exact ⟨i + 1, rfl, hlt, by rw [hsn.out]; simpa [groupsL] using hO, kk⟩
        case measure => simp [intOf]; omega
      | g k =>
        rw [hp] at hcl hsn
        generalize groupsL (m.take i) = gs at *
        replace hsn := Lib.hid hsn
        replace hp := Lib.hid hp
        dsimp only [Pc.val] at hcl
        go_wp2_with (at_builtin; refine wpList_append_own_at _ rfl _ _ 22 rfl w.heap.size 3 i0 (.int .i64 0) 1 8 Tryd.underlying22 hi0 hz0 hz1 hz2 rfl (by decide) _ _ _ rfl (hO.kept (row := none) ⟨rfl, rfl, rfl, by simp, fun q hq _ => Below.heap_alloc _ _ q hq⟩ (Classical.em _)) ⟨wr.heap.size, 0, none⟩ 1 1 [.int .i64 k] rfl rfl (fun j v hv => by cases j with | zero => (simp at hv; subst hv; exact cell_new1 _ _ _ rfl) | succ j => simp at hv) (by simp [Value.oneCell']) (by unfold maxLen; omega) (by omega) (by have := kk.size; simp; omega) ?_; intro v' w1 hown hgrow _ hat)
        go_round
        case rel => exact ⟨i + 1, rfl, hlt, by rw [hsn.out]; simpa [groupsL] using hown, (kk.alloc _).grown hgrow (fun q hq => .inr (hO.lt q hq).1)⟩
        case measure => simp [intOf]; omega
    · have : i = m.length := by omega
      subst this
      have di : decide ((m.length : Int) < (m.length : Int)) = false := decide_eq_false (by omega)
      rw [List.take_length] at hO
      go_wp2_with fail
      go_ret
      exact ⟨_, rfl, hO, kk⟩
end Go.Proofs.YtgjjkpnfnjpfgaaDoor
