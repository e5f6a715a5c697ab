/- The law TreeWalks, walked. -/
import Derived.Test.YtojlhlepneefoaaSW
namespace Go.Proofs.Ytojlhlepneefoaa
open Go.RowKit PAll Go.Proofs.YtojlhlepneefoaaW.PrintWords Go.Proofs.YtojlhlepneefoaaW.PrintLast Go.Proofs.YtojlhlepneefoaaW.PrintMore
open Go.Shelf
set_option linter.unusedVariables false
set_option linter.unusedSimpArgs false

theorem eqR_f2 (a b : List S103) (hm : b.length ≤ 200) (k : Nat) (hk : 300 ≤ k) : burinbook_SameRanges.f k a b = some (eqB a b) := by
  by_cases h : a.length = b.length
  · exact eqR_f a b (by omega) k (by omega)
  · obtain ⟨j, rfl⟩ : ∃ j, k = j + 1 := ⟨k - 1, by omega⟩
    unfold burinbook_SameRanges.f
    rw [show ((a.length : Int) == (b.length : Int)) = false by rw [beq_eq_false_iff_ne]; omega, eqB_ne (fun e => h (by rw [e])), burinbook_SameRanges.l0, if_neg (by decide)]
theorem sn_thin2 : ∀ (d : Nat) (b : S25), Thin d b → ∀ (m : Nat), d ≤ m → m < 1000 → ∀ a : S25, ∃ K, ∀ k, K ≤ k → sn_f k a b (m : Int) = some (eqB a b)
  | 0, _, h, _, _, _, _ => h.elim
  | d + 1, b, h, m, hm, hm2, a => by
    obtain ⟨m, rfl⟩ : ∃ j, m = j + 1 := ⟨m - 1, by omega⟩
    obtain ⟨K, hK⟩ : ∃ K, ∀ p ∈ a.f7.zip b.f7, ∀ k, K ≤ k → sn_f k p.1 p.2 (m : Int) = some (eqB p.1 p.2) :=
      kmaxA (a.f7.zip b.f7) (fun p k => sn_f k p.1 p.2 (m : Int) = some (eqB p.1 p.2)) (fun p hp => sn_thin2 d p.2 (h.2.1 p.2 (List.of_mem_zip hp).2) m (by omega) (by omega) p.1)
    refine ⟨K + 2 * b.f7.length + 306, fun k hk => ?_⟩
    obtain ⟨k, rfl⟩ : ∃ j, k = j + 2 := ⟨k - 2, by omega⟩
    have jT : ∀ k, burinbook_SameNode.j0 (k + 1) ((m + 1 : Nat) : Int) true a.f0 a.f1 a.f2 a.f3 a.f4 a.f5 a.f6 a.f7 b.f0 b.f1 b.f2 b.f3 b.f4 b.f5 b.f6 b.f7 = some false := fun k => by rw [burinbook_SameNode.j0, if_pos rfl]
    unfold sn_f
    rw [burinbook_SameNode.f, if_neg (by omega), node_eq]
    by_cases c0 : a.f0 = b.f0
    · rw [if_pos c0]
      by_cases c2 : a.f2 = b.f2
      · rw [if_pos c2]
        by_cases c3 : a.f3 = b.f3
        · rw [if_pos (str_toList.2 c3)]
          by_cases c4 : a.f4 = b.f4
          · rw [if_pos c4]
            by_cases c5 : a.f5 = b.f5
            · rw [if_pos c5]
              by_cases c6 : a.f6 = b.f6
              · rw [if_neg (by rw [c6]; simp), eqR_f2 a.f1 b.f1 h.2.2.1 (k + 1) (by omega), Option.bind_some]
                by_cases c1 : a.f1 = b.f1
                · have hh : headB a b = true := headB_iff.2 ⟨c0, c2, c3, c4, c5, c6, c1⟩
                  rw [eqB_iff.2 c1, if_pos rfl, hh, Bool.true_and]
                  by_cases c7 : a.f7.length = b.f7.length
                  · rw [show ((a.f7.length : Int) != (b.f7.length : Int)) = false by simp [c7], burinbook_SameNode.j0, if_neg (by decide)]
                    have := sn_l m (by omega) a b c7 (by rw [c7]; exact h.1) K (fun i hi k hk => hK (a.f7[i], b.f7[i]'(by omega)) (by
                      rw [List.mem_iff_getElem]
                      exact ⟨i, by simp; omega, by simp⟩) k hk) a.f7.length 0 (by omega) (by omega) k (by omega)
                    simpa using this
                  · rw [show ((a.f7.length : Int) != (b.f7.length : Int)) = true by simp; omega, jT, eqB_ne (fun e => c7 (by rw [e]))]
                · rw [eqB_ne c1, if_neg (by decide), jT, show headB a b = false from by rw [← Bool.not_eq_true, headB_iff]; exact fun h => c1 h.2.2.2.2.2.2, Bool.false_and]
              · rw [if_pos (by simpa using c6), jT, show headB a b = false from by rw [← Bool.not_eq_true, headB_iff]; exact fun h => c6 h.2.2.2.2.2.1, Bool.false_and]
            · rw [if_neg c5, jT, show headB a b = false from by rw [← Bool.not_eq_true, headB_iff]; exact fun h => c5 h.2.2.2.2.1, Bool.false_and]
          · rw [if_neg c4, jT, show headB a b = false from by rw [← Bool.not_eq_true, headB_iff]; exact fun h => c4 h.2.2.2.1, Bool.false_and]
        · rw [if_neg (fun e => c3 (str_toList.1 e)), jT, show headB a b = false from by rw [← Bool.not_eq_true, headB_iff]; exact fun h => c3 h.2.2.1, Bool.false_and]
      · rw [if_neg c2, jT, show headB a b = false from by rw [← Bool.not_eq_true, headB_iff]; exact fun h => c2 h.2.1, Bool.false_and]
    · rw [if_neg c0, jT, show headB a b = false from by rw [← Bool.not_eq_true, headB_iff]; exact fun h => c0 h.1, Bool.false_and]
theorem samenode2_calls (va vb : NV) (w : World) (ha : va.ok w) (hb : vb.ok w) (ht : Thin 40 vb.n) : Calls Try.prog 50 #[va.val, vb.val, .int .i64 50] w fun e w' => e = .returned (.bool (eqB va.n vb.n)) ∧ Kp [] w w' := by
  obtain ⟨K, hK⟩ := sn_thin2 40 vb.n ht 50 (by omega) (by omega) va.n
  exact (burinbook_SameNode.calls K va.n.f0 va.A1 va.c1 va.n.f1 va.n.f2 va.n.f3 va.n.f4 va.n.f5 va.n.f6 va.A7 va.c7 va.n.f7 vb.n.f0 vb.A1 vb.c1 vb.n.f1 vb.n.f2 vb.n.f3 vb.n.f4 vb.n.f5 vb.n.f6 vb.A7 vb.c7 vb.n.f7 50 _ w ha.g1 ha.l1 ha.g7 ha.l7 hb.g1 hb.l1 hb.g7 hb.l7 (hK K (Nat.le_refl _))).mono fun e w' ⟨h, q⟩ => ⟨h, Kp.ofBelow q⟩
theorem thin_steps2 : ∀ (d : Nat) (n : S25), Thin d n → ∀ (m : Nat) (e : Int), ∀ x ∈ stepsL m e n, Thin d x.2
  | 0, _, h, _, _, _, _ => h.elim
  | d + 1, n, h, 0, e, x, hx => by cases hx
  | d + 1, n, h, m + 1, e, x, hx => by
    simp only [stepsL, List.mem_cons, List.mem_flatMap] at hx
    rcases hx with rfl | ⟨y, hy, hx⟩
    · exact h
    · exact Thin.mono (by omega) (thin_steps2 d y (h.2.1 y hy) m (e + 1) x hx)
set_option maxRecDepth 100000 in
set_option maxHeartbeats 4000000 in
theorem same_calls51 (va vb : NV) (w : World) (ha : va.ok w) (hb : vb.ok w) : Calls Try.prog 51 #[va.val, vb.val] w fun e w' => e = .returned (.bool (sameP 1000 va.n vb.n)) ∧ Kp [] w w' := by
  obtain ⟨W1, hW1⟩ : ∃ W1, W1 = (w.alloc (.cells va.cells.toArray 25)).alloc (.cells vb.cells.toArray 25) := ⟨_, rfl⟩
  have k1 : Kp [] w W1 := by rw [hW1]; exact ((Kp.refl [] w).alloc _).alloc _
  have CC := same86 1000 (by omega) va vb W1 (ha.kp k1) (hb.kp k1)
  obtain ⟨r, hr⟩ : ∃ r, r = sameP 1000 va.n vb.n := ⟨_, rfl⟩
  rw [← hr] at CC ⊢
  have K1 := Lib.hid k1
  replace hr := Lib.hid hr
  clear k1 ha hb
  obtain ⟨⟨kd, set, num, nm, mn, mx, lz, subs⟩, A1, c1, A7, c7⟩ := va
  obtain ⟨⟨kd', set', num', nm', mn', mx', lz', subs'⟩, A1', c1', A7', c7'⟩ := vb
  dsimp only [NV.val, NV.cells] at CC hW1 ⊢
  have CC2 : Calls Try.prog 86 #[.agg #[.int .i64 kd, .slice A1 set.length c1, .int .i64 num, .string nm, .int .i64 mn, .int .i64 mx, .bool lz, .slice A7 subs.length c7], .agg #[.int .i64 kd', .slice A1' set'.length c1', .int .i64 num', .string nm', .int .i64 mn', .int .i64 mx', .bool lz', .slice A7' subs'.length c7'], .int .i64 1000] W1 fun e w' => e = .returned (.bool r) ∧ Kp [] W1 w' := CC
  replace CC2 := Lib.hid CC2
  clear CC
  go_enter Try.func51, Try.ntmps51
  go_wp2_with (rw [← hW1]; go_at_call 86; refine (CC2.out).mono ?_; clear CC2; rintro e w6 ⟨rfl, k6⟩)
  go_ret
  exact ⟨rfl, K1.out.trans k6⟩

end Go.Proofs.Ytojlhlepneefoaa
