/- Package wire: the walk of WireOne. -/
import Derived.Test.YtkjkkebaafmheaaS
import Derived.Lib.ConvBytes
namespace Go.Proofs.Ytkjkkebaafmheaa
open Go.RowKit PWireCodes Go.Proofs.YtkjkkebaafmheaaW.PrintWords Go.Proofs.YtkjkkebaafmheaaW.PrintLast Go.Proofs.YtkjkkebaafmheaaW.PrintMore
open Go.Shelf
set_option linter.unusedVariables false
set_option linter.unusedSimpArgs false
theorem genW {P : Program} {c : Code} {Q : Exit → Act → World → Prop} {a : Act} {w : World} (C : World → Prop) (hC : C w) (h : ∀ w, C w → Code.wp P c Q a w) : Code.wp P c Q a w := h w hC
def YU (w : World) (yb : Nat) (l : List UInt8) (rest : List Value) : Prop := w.heap[yb]? = some (.cells ((l.map fun b => Value.int .u8 (b.toNat : Int)) ++ rest).toArray 5 ((l.length + rest.length), (l.length + rest.length) + 1))
theorem frozC {w : World} {b m : Nat} {cs : Array Value} {t : TypeId} (h : w.heap[b]? = some (.cells cs t (m, m + 1))) (o : Nat) (ho : o < m) : w.frozen? ⟨b, o, none⟩ = false := by
  unfold World.frozen?; simp [h]; omega
theorem yu_new (w : World) (l : List UInt8) : ∃ rest, YU (Lib.bytesWorld w 5 ⟨l.toArray⟩) w.heap.size l rest := by
  refine ⟨List.replicate (grownCap w (⟨l.toArray⟩ : ByteArray).size 0 5 - (⟨l.toArray⟩ : ByteArray).size) (.int .u8 0), ?_⟩
  unfold YU
  rw [Lib.bytesWorld_at_new]
  have e : (Lib.bytesCells w 5 ⟨l.toArray⟩) = ((l.map fun b => Value.int .u8 (b.toNat : Int)) ++ List.replicate (grownCap w (⟨l.toArray⟩ : ByteArray).size 0 5 - (⟨l.toArray⟩ : ByteArray).size) (Value.int .u8 0)).toArray := by
    apply Array.toList_inj.1
    simp [Lib.bytesCells, Function.comp_def]
  rw [e]
  simp
theorem kp_bytes (w : World) (s : ByteArray) : Kp [] w (Lib.bytesWorld w 5 s) :=
  ⟨rfl, rfl, rfl, by rw [Lib.bytesWorld_size]; omega, fun k hk _ => Lib.bytesWorld_at_old w 5 s k hk⟩
theorem yu_cell {w : World} {yb : Nat} {l : List UInt8} {rest : List Value} (h : YU w yb l rest) (i : Nat) (hi : i < l.length) : w.cell? ⟨yb, i, none⟩ = some (.int .u8 (l[i].toNat : Int)) := by
  rw [cellB h]; simp [List.getElem?_append_left, hi]
theorem yu_set {w : World} {yb : Nat} {l : List UInt8} {rest : List Value} (h : YU w yb l rest) (i : Nat) (hi : i < l.length) (c : UInt8) : YU (w.setCell ⟨yb, i, none⟩ (.int .u8 (c.toNat : Int))) yb (l.set i c) rest := by
  unfold YU
  rw [setB h]
  have : ((l.map fun b => Value.int .u8 (b.toNat : Int)) ++ rest).toArray.setIfInBounds i (.int .u8 (c.toNat : Int)) = (((l.set i c).map fun b => Value.int .u8 (b.toNat : Int)) ++ rest).toArray := by
    simp only [List.setIfInBounds_toArray]
    rw [List.set_append_left _ _ (by simpa using hi), List.map_set]
  rw [this, List.length_set]
theorem xorU (a c : UInt8) : bits .xor .u8 (a.toNat : Int) (c.toNat : Int) = ((a ^^^ c).toNat : Int) := by rw [u8_xor_nat _ _ (UInt8.toNat_lt _) (UInt8.toNat_lt _), ← UInt8.toNat_xor]
set_option maxRecDepth 100000 in
set_option maxHeartbeats 8000000 in
theorem one_walk (W : World) (A : Option Addr) (cap : Nat) (l : List S40) (s q n y : Int) (h : IsInsts W A cap l) (hn : -9223372036854775808 ≤ n ∧ n < 9223372036854775808) (hy : 0 ≤ y ∧ y < 256) :
    Calls Try.prog 4 #[.agg #[.slice A l.length cap, .int .i64 s, .int .i64 q], .int .i64 n, .int .u8 y] W fun e w' => e = .returned (.bool true) ∧ Below W.heap.size W w' := by
  have kk := (Kp.refl [] W).alloc (.cells #[.slice A l.length cap, .int .i64 s, .int .i64 q] 24)
  have hb := heap_alloc_new W (.cells #[.slice A l.length cap, .int .i64 s, .int .i64 q] 24)
  have CW := Lib.hid works_calls
  have CE := Lib.hid (fun W2 hC => encode_calls A cap l s q W2 hC h.2.1)
  obtain ⟨hC, hcap, hmax⟩ := h
  have fin : ∀ {w'}, Kp [] W w' → Below W.heap.size W w' := fun k => k.below (Nat.le_refl _) (by simp)
  by_cases h5 : 100 < l.length
  · have d5 : decide ((100 : Int) < (l.length : Int)) = true := decide_eq_true (by omega)
    go_enter Try.func4, Try.ntmps4
    go_wp2_with (go_at_call 7; refine (CW.out _).mono ?_; rintro e w1 ⟨rfl, k1⟩; replace kk := kk.trans k1; replace hb := kblk k1 hb; have p0 := cellB hb 0; simp at p0)
    go_ret
    exact ⟨rfl, fin kk⟩
  have d5 : decide ((100 : Int) < (l.length : Int)) = false := decide_eq_false (by omega)
  by_cases h6 : y = 0
  · subst h6
    go_enter Try.func4, Try.ntmps4
    go_wp2_with (go_at_call 7; refine (CW.out _).mono ?_; rintro e w1 ⟨rfl, k1⟩; replace kk := kk.trans k1; replace hb := kblk k1 hb; have p0 := cellB hb 0; simp at p0)
    go_ret
    exact ⟨rfl, fin kk⟩
  have d6 : (y == 0) = false := by rw [beq_eq_false_iff_ne]; exact h6
  obtain ⟨c, hcy⟩ : ∃ c : UInt8, y = (c.toNat : Int) := ⟨UInt8.ofNat y.toNat, by simp [UInt8.toNat_ofNat']; omega⟩
  subst hcy
  have hcz : Hid (c ≠ 0) := fun e => h6 (by rw [e]; rfl)
  rcases check_or l s q with hc | hc
  · obtain ⟨-, n2, n3, -, n5, -, -⟩ := check_zero hc
    obtain ⟨s0, rfl⟩ := Int.eq_ofNat_of_zero_le n3
    obtain ⟨q0, rfl⟩ := Int.eq_ofNat_of_zero_le n5
    obtain ⟨m1, m2⟩ := short_len l s0 q0 hc
    rw [encS, if_pos hc] at CE
    have hnone := one_none l s0 q0
    obtain ⟨t, ht⟩ : ∃ t, t = writtenL l s0 q0 := ⟨_, rfl⟩
    rw [← ht] at CE m1 m2 hnone
    replace hc := Lib.hid hc
    have hsz : (⟨t.toArray⟩ : ByteArray).size = t.length := by simp [ByteArray.size]
    have HN := Lib.hid hnone
    clear hnone ht
    have CB := Lib.hid (fun w => below_calls n (t.length : Int) (by omega) hn (by omega) w)
    go_enter Try.func4, Try.ntmps4
    go_upto_region 9 with (first | (go_at_call 7; refine (CW.out _).mono ?_; rintro e w1 ⟨rfl, k1⟩; replace kk := kk.trans k1; replace hb := kblk k1 hb; have p0 := cellB hb 0; have p1 := cellB hb 1; have p2 := cellB hb 2; simp at p0 p1 p2) | (go_at_call 8; refine (CE.out _ (Kd.C_below hC (kk.below (Nat.le_refl _) (by simp)))).mono ?_; rintro e w2 ⟨rfl, k2⟩; replace kk := kk.trans k2; replace hb := kblk k2 hb; clear p0 p1 p2; have HCV := Lib.run_convert_string_bytes (P := Try.prog) w2 9 34 5 ⟨t.toArray⟩ Try.underlying9 Try.underlying34 Try.underlying5))
    refine genW (fun ws => Kp [] w2 ws ∧ ∃ rest, YU ws w2.heap.size t rest) ⟨kp_bytes _ _, yu_new _ _⟩ ?_
    rintro ws ⟨kb, rest, hy⟩
    clear HCV
    go_upto_region 10 with (go_at_call 14; refine (CB.out _).mono ?_; rintro e w3 ⟨⟨i, i0, i1, rfl⟩, rfl⟩; obtain ⟨j, rfl⟩ := Int.eq_ofNat_of_zero_le i0; have hj : j < t.length := (by omega); have b0 := yu_cell hy j hj; have fz := frozC hy j (by omega); have hx := xorU t[j] c; have hset := yu_set hy j hj (t[j] ^^^ c))
    refine genW (fun ws2 => Kp [] w2 ws2 ∧ YU ws2 w2.heap.size (t.set j (t[j] ^^^ c)) rest) ⟨kb.setNew (Nat.le_refl _) _, hset⟩ ?_
    rintro ws2 ⟨kb2, hy2⟩
    have HB := run_convert_bytes_back (P := Try.prog) ws2 34 9 5 ⟨w2.heap.size, 0, none⟩ (grownCap w2 t.length 0 5) (t.set j (t[j] ^^^ c)) Try.underlying34 Try.underlying5 Try.underlying9 (fun k hk => by rw [addNone, Nat.zero_add]; exact yu_cell hy2 k hk)
    rw [List.length_set] at HB
    have CD : Hid (∀ W, Calls Try.prog 10 #[.string ⟨(t.set j (t[j] ^^^ c)).toArray⟩] W fun e w' => e = .returned (.tuple #[.agg #[.slice none 0 0, .int .i64 0, .int .i64 0], .int .i64 140]) ∧ Kp [] W w') := by
      intro W'
      refine (decode_calls _ (by rw [List.length_set]; omega) W').mono ?_
      intro e w' h
      unfold DecPost at h
      rw [HN.out j hj c hcz.out] at h
      exact h
    have HY := Lib.hid hy2
    clear hy hset hx b0 fz hy2
    go_wp2_with (go_at_call 10; refine (CD.out _).mono ?_; rintro e w5 ⟨rfl, k5⟩)
    go_ret
    exact ⟨rfl, fin (((kk.trans kb2).trans k5).alloc _)⟩
  · rw [encS, if_neg (by rw [hc]; decide), hc] at CE
    replace hc := Lib.hid hc
    go_enter Try.func4, Try.ntmps4
    go_wp2_with (first | (go_at_call 7; refine (CW.out _).mono ?_; rintro e w1 ⟨rfl, k1⟩; replace kk := kk.trans k1; replace hb := kblk k1 hb; have p0 := cellB hb 0; have p1 := cellB hb 1; have p2 := cellB hb 2; simp at p0 p1 p2) | (go_at_call 8; refine (CE.out _ (Kd.C_below hC (kk.below (Nat.le_refl _) (by simp)))).mono ?_; rintro e w2 ⟨rfl, k2⟩; replace kk := kk.trans k2; replace hb := kblk k2 hb; clear p0 p1 p2))
    go_ret
    exact ⟨rfl, fin kk⟩
theorem one_walk' (W : World) (A : Option Addr) (cap : Nat) (l : List S40) (s q n y : Int) (h : IsInsts W A cap l) (hn : (Lit.int .i64 n).wf = true) (hy : (Lit.int .u8 y).wf = true) :
    Calls Try.prog 4 #[.agg #[.slice A l.length cap, .int .i64 s, .int .i64 q], .int .i64 n, .int .u8 y] W fun e w' => e = .returned (.bool true) ∧ Below W.heap.size W w' := by
  simp [Lit.wf, IntKind.min, IntKind.max, IntKind.signed, IntKind.bits] at hn hy
  exact one_walk W A cap l s q n y h (by omega) (by omega)
end Go.Proofs.Ytkjkkebaafmheaa
