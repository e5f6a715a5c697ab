/- works: the chapter's example. -/
import Derived.Test.YtgjjkpnfnjpfgaaDoorO
namespace Go.Proofs.YtgjjkpnfnjpfgaaDoor
open Go.Shelf Go.RowKit PAll Go.Proofs.YtgjjkpnfnjpfgaaDoorW.PrintWords Go.Proofs.YtgjjkpnfnjpfgaaDoorW.PrintLast Go.Proofs.YtgjjkpnfnjpfgaaDoorW.PrintMore
set_option linter.unusedVariables false
set_option linter.unusedSimpArgs false
theorem Kp.bel {w w' : World} (h : Kp [] w w') : Below w.heap.size w w' := h.below (Nat.le_refl _) (by simp)
theorem Kp.ofBel {w w' : World} (h : Below w.heap.size w w') : Kp [] w w' := ⟨h.os, h.tape, h.output, h.size, fun k hk _ => h.block k hk⟩
theorem lits {α : Type} {enc : α → Value} (d : α) {h1 : ∀ x, (enc x).oneCell' = true} {w : World} {g : Nat} {t : TypeId} {fz : Nat × Nat} (l : List α) (hl : l.length ≤ 1000000) (h : w.heap[g]? = some (.cells (l.map enc).toArray t fz)) : (Kd.scalar enc h1).C w (some ⟨g, 0, none⟩) l.length l := by
  refine Kd.C_of_reads (d := d) ⟨rfl, by omega, fun _ => ⟨_, rfl, fun j hj => ?_⟩⟩
  have e : (⟨g, 0, none⟩ : Addr).add j = ⟨g, j, none⟩ := by unfold Addr.add; split <;> simp_all
  rw [e, cellB h]
  simp [hj, List.getD_eq_getElem?_getD]
theorem saidIn (t : List UInt8) (sl : List Int) (k a b : Nat) (hk : 2 * k + 1 < sl.length) (hl : sl.length ≤ 1000000) (ha : sl.getD (2 * k) 0 = a) (hb : sl.getD (2 * k + 1) 0 = b) (h1 : a ≤ b) (h2 : b ≤ t.length) : saidL (bs t) sl k = (t.take b).drop a := by
  unfold saidL tmpl_said.f
  rw [tmpl_said.j0, tmpl_said.j0, if_neg (by omega)]
  rw [w64 ((sl.length : Int) / 2) (by omega) (by omega), decide_eq_false (by omega), if_neg (by simp)]
  rw [w64 (2 * (k : Int)) (by omega) (by omega), w64 (2 * (k : Int) + 1) (by omega) (by omega)]
  have r1 : rd sl (2 * (k : Int)) = a := by unfold rd; rw [← ha]; congr 1
  have r2 : rd sl (2 * (k : Int) + 1) = b := by unfold rd; rw [← hb]; congr 1
  rw [r1, r2, bs_size]
  rw [if_pos (by omega), if_pos (by omega), if_pos (by omega), if_pos (by omega), if_neg (by omega), if_neg (by omega), if_neg (by omega), if_pos (by omega), if_pos (by omega), if_pos (by omega), bs_ext]
  simp [bs_list]
theorem saidNo (t : ByteArray) (sl : List Int) (k : Nat) (hl : sl.length ≤ 1000000) (h : sl.length < 2 * k + 2 ∨ sl.getD (2 * k) 0 < 0) : saidL t sl k = [] := by
  unfold saidL tmpl_said.f
  rw [tmpl_said.j0, tmpl_said.j0, if_neg (by omega)]
  rw [w64 ((sl.length : Int) / 2) (by omega) (by omega)]
  by_cases h0 : (k : Int) ≥ (sl.length : Int) / 2
  · rw [decide_eq_true h0, if_pos rfl]; simp [ByteArray.toList_eq]
  · rw [decide_eq_false h0, if_neg (by simp)]
    rw [w64 (2 * (k : Int)) (by omega) (by omega), w64 (2 * (k : Int) + 1) (by omega) (by omega)]
    have r1 : rd sl (2 * (k : Int)) < 0 := by
      rcases h with h | h
      · omega
      · unfold rd
        have : (2 * (k : Int)).toNat = 2 * k := by omega
        rw [this]; exact h
    rw [if_pos (by omega), if_pos (by omega), if_pos (by omega), if_pos (by omega), if_pos r1]
    simp [ByteArray.toList_eq]
def wk1 : List Pc := [.t [], .g 1, .t [45], .g 2, .t [], .t [36], .t []]
theorem wk1_new : newL [⟨#[]⟩, ⟨#[98]⟩] (([36, 49, 45, 36, 98, 36, 36] : List UInt8).length + 1) [36, 49, 45, 36, 98, 36, 36] = .inr wk1 := by rfl
theorem wk2_new : newL [] (([97, 36] : List UInt8).length + 1) [97, 36] = .inl 1 := by rfl
theorem wk1_exp : expL ⟨#[120, 121]⟩ [0, 2, 0, 1, 1, 2] wk1 = [120, 45, 121, 36] := by
  have h1 : saidL (bs [120, 121]) [0, 2, 0, 1, 1, 2] 1 = [120] := saidIn [120, 121] _ 1 0 1 (by decide) (by decide) rfl rfl (by decide) (by decide)
  have h2 : saidL (bs [120, 121]) [0, 2, 0, 1, 1, 2] 2 = [121] := saidIn [120, 121] _ 2 1 2 (by decide) (by decide) rfl rfl (by decide) (by decide)
  rw [bs_eq] at h1 h2
  show ([] : List UInt8) ++ (saidL ⟨[120, 121].toArray⟩ [0, 2, 0, 1, 1, 2] 1 ++ ([45] ++ (saidL ⟨[120, 121].toArray⟩ [0, 2, 0, 1, 1, 2] 2 ++ ([] ++ ([36] ++ ([] ++ [])))))) = _
  rw [h1, h2]
  rfl
set_option maxRecDepth 100000 in
set_option maxHeartbeats 4000000 in
theorem works_calls (w : World) : Calls Tryd.prog 4 #[] w fun e w' => e = .returned (.bool true) ∧ Kp [] w w' := by
  have N1 := Lib.hid (show ∀ (g : Nat) (W : World), W.heap[g]? = some (.cells #[.string ⟨#[]⟩, .string ⟨#[98]⟩] 9 (0, 0)) → Calls Tryd.prog 5 #[.string ⟨#[36, 49, 45, 36, 98, 36, 36]⟩, .slice (some ⟨g, 0, none⟩) 2 2] W fun e w' => NewPost W (.inr wk1) e w' from fun g W h => by
    have hC : Kd.C Kd.string W (some ⟨g, 0, none⟩) 2 [⟨#[]⟩, ⟨#[98]⟩] := lits (enc := Value.string) ⟨#[]⟩ [⟨#[]⟩, ⟨#[98]⟩] (by decide) h
    have := new_calls (some ⟨g, 0, none⟩) 2 [⟨#[]⟩, ⟨#[98]⟩] [36, 49, 45, 36, 98, 36, 36] W (by decide) (by decide) (by decide) (fun w' k => Kd.C_below hC k.bel)
    rw [wk1_new, bs_eq] at this
    exact this)
  have N2 := Lib.hid (show ∀ (W : World), Calls Tryd.prog 5 #[.string ⟨#[97, 36]⟩, .slice none 0 0] W fun e w' => NewPost W (.inl 1) e w' from fun W => by
    have := new_calls none 0 [] [97, 36] W (by decide) (by decide) (by decide) (fun w' k => Kd.C_nil _ _)
    rw [wk2_new, bs_eq] at this
    exact this)
  have X1 := Lib.hid (show ∀ (b g : Nat) (u : Value) (W : World), TBox b (wk1.map Pc.val) u W → W.heap[g]? = some (.cells #[.int .i64 0, .int .i64 2, .int .i64 0, .int .i64 1, .int .i64 1, .int .i64 2] 3 (0, 0)) → Calls Tryd.prog 7 #[.pointer (some ⟨b, 0, none⟩), .string ⟨#[120, 121]⟩, .slice (some ⟨g, 0, none⟩) 6 6] W fun e w' => e = .returned (.string ⟨#[120, 45, 121, 36]⟩) ∧ Below W.heap.size W w' from fun b g u W hT h => by
    have hC : Kd.C (Kd.int .i64) W (some ⟨g, 0, none⟩) 6 [0, 2, 0, 1, 1, 2] := lits (enc := Value.int .i64) 0 [0, 2, 0, 1, 1, 2] (by decide) h
    have := expand_calls b wk1 u ⟨#[120, 121]⟩ (some ⟨g, 0, none⟩) 6 [0, 2, 0, 1, 1, 2] W hT (by decide) (by decide) (.inl ⟨by decide, by decide⟩) (by decide) hC (by simp [wk1, okPc])
    rw [wk1_exp] at this
    exact this)
  go_enter Tryd.func4, Tryd.ntmps4
  go_upto_region 2 with (go_at_call 5; refine (N1.out _ _ (heap_alloc_new _ _)).mono ?_; rintro e w1 ⟨b, u, rfl, hb, hT, k1⟩; replace k1 := ((Kp.refl [] w).alloc _).trans k1)
  clear hb N1
  go_upto_region 3 with (go_at_call 5; refine (N2.out _).mono ?_; rintro e w2 ⟨rfl, k2⟩; have hT2 := hT.kp k2; have hbx := ltB hT2.box; have k12 := k1.trans k2)
  clear N2 k1 k2 hT
  go_wp2_with (go_at_call 7; refine (X1.out b _ u _ (hT2.alloc _) (heap_alloc_new _ _)).mono ?_; rintro e w3 ⟨rfl, kb3⟩)
  go_ret
  exact ⟨rfl, (k12.alloc _).trans (Kp.ofBel kb3)⟩
end Go.Proofs.YtgjjkpnfnjpfgaaDoor
