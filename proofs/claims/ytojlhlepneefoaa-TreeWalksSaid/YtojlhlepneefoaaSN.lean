/- Two trees the same: plain laws; the walk of Same. -/
import Derived.Test.YtojlhlepneefoaaTree3
import Derived.Test.YtojlhlepneefoaaPAllx19
import Derived.Test.YtojlhlepneefoaaPAllx20
import Derived.Test.YtojlhlepneefoaaPAllx21
import Derived.IntWalk
import Derived.Laws.EntriesVeiled
namespace Go.Proofs.Ytojlhlepneefoaa
open Go.RowKit PAll Go.Proofs.YtojlhlepneefoaaW.PrintWords Go.Proofs.YtojlhlepneefoaaW.PrintLast Go.Proofs.YtojlhlepneefoaaW.PrintMore
open Go.Shelf
set_option linter.unusedVariables false
set_option linter.unusedSimpArgs false

open Classical in
noncomputable def eqB {α : Type} (a b : α) : Bool := decide (a = b)
theorem eqB_self {α : Type} (a : α) : eqB a a = true := by simp [eqB]
theorem eqB_ne {α : Type} {a b : α} (h : a ≠ b) : eqB a b = false := by simp [eqB, h]
theorem eqB_iff {α : Type} {a b : α} : eqB a b = true ↔ a = b := by simp [eqB]
theorem eqB_cons {α : Type} (a b : α) (l m : List α) : eqB (a :: l) (b :: m) = (eqB a b && eqB l m) := by
  rw [Bool.eq_iff_iff, Bool.and_eq_true, eqB_iff, eqB_iff, eqB_iff, List.cons.injEq]
theorem s103_eq (x y : S103) : eqB x y = (x.f0 == y.f0 && x.f1 == y.f1) := by
  rw [Bool.eq_iff_iff, Bool.and_eq_true, eqB_iff, beq_iff_eq, beq_iff_eq]
  cases x; cases y; simp
theorem eq114_l (a b : List S103) (hl : a.length = b.length) (hm : a.length ≤ 9223372036854775807) : ∀ (n i k : Nat), a.length - i ≤ n → i ≤ a.length → api_Range_114.l0 (n + k + 1) a b (a.length : Int) (i : Int) = some (eqB (a.drop i) (b.drop i))
  | 0, i, k, hn, hi => by rw [api_Range_114.l0, if_neg (by omega), List.drop_eq_nil_of_le (by omega), List.drop_eq_nil_of_le (by omega), eqB_self]
  | n + 1, i, k, hn, hi => by
    by_cases h : i < a.length
    · rw [show n + 1 + k + 1 = (n + k + 1) + 1 by omega, api_Range_114.l0, if_pos (by omega), if_pos (by omega), if_pos (by omega), if_pos (by omega), rd103 a i h, rd103 b i (by omega), show wrap64 ((i : Int) + 1) = ((i + 1 : Nat) : Int) by unfold wrap64; omega, eq114_l a b hl hm n (i + 1) k (by omega) (by omega), List.drop_eq_getElem_cons h, List.drop_eq_getElem_cons (by omega : i < b.length), eqB_cons, s103_eq]
      generalize a[i].f0 = p; generalize b[i].f0 = q; generalize a[i].f1 = r; generalize b[i].f1 = t
      cases h1 : (p == q) <;> cases h2 : (r == t) <;> simp
    · obtain rfl : i = a.length := by omega
      rw [api_Range_114.l0, if_neg (by omega), List.drop_length, hl, List.drop_length, eqB_self]
theorem eq114_f (a b : List S103) (hm : a.length ≤ 9223372036854775807) (k : Nat) (hk : a.length + 1 ≤ k) : api_Range_114.f k a b = some (eqB a b) := by
  obtain ⟨j, rfl⟩ : ∃ j, k = a.length + j + 1 := ⟨k - (a.length + 1), by omega⟩
  unfold api_Range_114.f
  by_cases h : a.length = b.length
  · rw [if_pos (by omega)]
    have := eq114_l a b h hm a.length 0 j (by omega) (by omega)
    simpa using this
  · rw [if_neg (by omega), eqB_ne (fun e => h (by rw [e]))]
theorem eqR_l (a b : List S103) (hl : a.length = b.length) (hm : a.length ≤ 9223372036854775807) : ∀ (n i k : Nat), a.length - i ≤ n → i ≤ a.length → burinbook_SameRanges.l0 (n + k + 2) a b true (i : Int) = some (eqB (a.drop i) (b.drop i))
  | 0, i, k, hn, hi => by rw [show 0 + k + 2 = (k + 1) + 1 by omega, burinbook_SameRanges.l0, if_pos rfl, if_neg (by omega), List.drop_eq_nil_of_le (by omega), List.drop_eq_nil_of_le (by omega), eqB_self]
  | n + 1, i, k, hn, hi => by
    by_cases h : i < a.length
    · rw [show n + 1 + k + 2 = (n + k + 2) + 1 by omega, burinbook_SameRanges.l0, if_pos rfl, if_pos (by omega), if_pos (by omega), if_pos (by omega), rd103 a i h, rd103 b i (by omega), show wrap64 ((i : Int) + 1) = ((i + 1 : Nat) : Int) by unfold wrap64; omega, List.drop_eq_getElem_cons h, List.drop_eq_getElem_cons (by omega : i < b.length), eqB_cons, s103_eq]
      have ih := eqR_l a b hl hm n (i + 1) k (by omega) (by omega)
      cases hc : (a[i].f0 == b[i].f0 && a[i].f1 == b[i].f1)
      · rw [show n + k + 2 = (n + k + 1) + 1 by omega, burinbook_SameRanges.l0, if_neg (by decide), Bool.false_and]
      · rw [ih, Bool.true_and]
    · obtain rfl : i = a.length := by omega
      rw [show n + 1 + k + 2 = (n + k + 2) + 1 by omega, burinbook_SameRanges.l0, if_pos rfl, if_neg (by omega), List.drop_length, hl, List.drop_length, eqB_self]
theorem eqR_f (a b : List S103) (hm : a.length ≤ 9223372036854775807) (k : Nat) (hk : a.length + 2 ≤ k) : burinbook_SameRanges.f k a b = some (eqB a b) := by
  obtain ⟨j, rfl⟩ : ∃ j, k = a.length + j + 2 := ⟨k - (a.length + 2), by omega⟩
  unfold burinbook_SameRanges.f
  by_cases h : a.length = b.length
  · rw [show ((a.length : Int) == (b.length : Int)) = true by rw [beq_iff_eq]; omega]
    have := eqR_l a b h hm a.length 0 j (by omega) (by omega)
    simpa using this
  · rw [show ((a.length : Int) == (b.length : Int)) = false by rw [beq_eq_false_iff_ne]; omega, eqB_ne (fun e => h (by rw [e])), show a.length + j + 2 = (a.length + j + 1) + 1 by omega, burinbook_SameRanges.l0, if_neg (by decide)]
/-- Fields alike, but for the parts. -/
noncomputable def headB (a b : S25) : Bool := eqB a.f0 b.f0 && (eqB a.f2 b.f2 && (eqB a.f3 b.f3 && (eqB a.f4 b.f4 && (eqB a.f5 b.f5 && (eqB a.f6 b.f6 && eqB a.f1 b.f1)))))
theorem headB_iff {a b : S25} : headB a b = true ↔ a.f0 = b.f0 ∧ a.f2 = b.f2 ∧ a.f3 = b.f3 ∧ a.f4 = b.f4 ∧ a.f5 = b.f5 ∧ a.f6 = b.f6 ∧ a.f1 = b.f1 := by
  simp only [headB, Bool.and_eq_true, eqB_iff]
theorem node_eq (a b : S25) : eqB a b = (headB a b && eqB a.f7 b.f7) := by
  rw [Bool.eq_iff_iff, Bool.and_eq_true, eqB_iff, headB_iff, eqB_iff]
  cases a; cases b
  simp only [S25.mk.injEq]
  constructor
  · rintro ⟨h0, h1, h2, h3, h4, h5, h6, h7⟩; exact ⟨⟨h0, h2, h3, h4, h5, h6, h1⟩, h7⟩
  · rintro ⟨⟨h0, h2, h3, h4, h5, h6, h1⟩, h7⟩; exact ⟨h0, h1, h2, h3, h4, h5, h6, h7⟩
theorem str_toList {a b : ByteArray} : a.toList = b.toList ↔ a = b := ⟨fun e => bytes_inj (by rw [ByteArray.toList_eq, ByteArray.toList_eq] at e; exact e), fun e => by rw [e]⟩
abbrev sn_f (k : Nat) (a b : S25) (m : Int) := burinbook_SameNode.f k a.f0 a.f1 a.f2 a.f3 a.f4 a.f5 a.f6 a.f7 b.f0 b.f1 b.f2 b.f3 b.f4 b.f5 b.f6 b.f7 m
theorem sn_l (m : Nat) (hm : m < 1000) (a b : S25) (hl : a.f7.length = b.f7.length) (h200 : a.f7.length ≤ 200) (K : Nat) (hK : ∀ i (h : i < a.f7.length), ∀ k, K ≤ k → sn_f k a.f7[i] (b.f7[i]'(by omega)) (m : Int) = some (eqB a.f7[i] (b.f7[i]'(by omega)))) :
    ∀ (n i : Nat), a.f7.length - i ≤ n → i ≤ a.f7.length → ∀ k, K + 2 * n + 2 ≤ k → burinbook_SameNode.l0 k ((m + 1 : Nat) : Int) (i : Int) a.f0 a.f1 a.f2 a.f3 a.f4 a.f5 a.f6 a.f7 b.f0 b.f1 b.f2 b.f3 b.f4 b.f5 b.f6 b.f7 = some (eqB (a.f7.drop i) (b.f7.drop i)) := by
  intro n
  induction n with
  | zero =>
    intro i h1 h2 k hk
    obtain ⟨k, rfl⟩ : ∃ j, k = j + 2 := ⟨k - 2, by omega⟩
    rw [burinbook_SameNode.l0, if_neg (by omega), burinbook_SameNode.j2, if_neg (by decide), List.drop_eq_nil_of_le (by omega), List.drop_eq_nil_of_le (by omega), eqB_self]
  | succ n ih =>
    intro i h1 h2 k hk
    obtain ⟨k, rfl⟩ : ∃ j, k = j + 2 := ⟨k - 2, by omega⟩
    by_cases h : i < a.f7.length
    · have e1 : wrap64 (((m + 1 : Nat) : Int) - 1) = (m : Int) := by unfold wrap64; omega
      rw [burinbook_SameNode.l0, if_pos (by omega), decide_eq_true (by omega), burinbook_SameNode.j2, if_pos rfl, if_pos (by omega), if_pos (by omega), if_pos (by omega), rd_at a.f7 i h, rd_at b.f7 i (by omega), e1, show wrap64 ((i : Int) + 1) = ((i + 1 : Nat) : Int) by unfold wrap64; omega]
      have hk1 := hK i h k (by omega)
      unfold sn_f at hk1
      rw [hk1, Option.bind_some, List.drop_eq_getElem_cons h, List.drop_eq_getElem_cons (by omega : i < b.f7.length), eqB_cons, ih (i + 1) (by omega) (by omega) k (by omega)]
      cases eqB a.f7[i] (b.f7[i]'(by omega)) <;> simp
    · obtain rfl : i = a.f7.length := by omega
      rw [burinbook_SameNode.l0, if_neg (by omega), burinbook_SameNode.j2, if_neg (by decide), List.drop_length, hl, List.drop_length, eqB_self]
theorem kmaxA {α : Type} (l : List α) (P : α → Nat → Prop) (h : ∀ x ∈ l, ∃ K, ∀ k, K ≤ k → P x k) : ∃ K, ∀ x ∈ l, ∀ k, K ≤ k → P x k := by
  induction l with
  | nil => exact ⟨0, fun x hx => by cases hx⟩
  | cons y l ih =>
    obtain ⟨K1, h1⟩ := h y (by simp)
    obtain ⟨K2, h2⟩ := ih (fun x hx => h x (by simp [hx]))
    refine ⟨max K1 K2, fun x hx k hk => ?_⟩
    rcases List.mem_cons.1 hx with rfl | hx
    · exact h1 k (by omega)
    · exact h2 x hx k (by omega)
theorem sn_thin : ∀ (d : Nat) (a : S25), Thin d a → ∀ (m : Nat), d ≤ m → m < 1000 → ∀ b : S25, ∃ K, ∀ k, K ≤ k → sn_f k a b (m : Int) = some (eqB a b)
  | 0, _, h, _, _, _, _ => h.elim
  | d + 1, a, h, m, hm, hm2, b => by
    obtain ⟨m, rfl⟩ : ∃ j, m = j + 1 := ⟨m - 1, by omega⟩
    obtain ⟨K, hK⟩ : ∃ K, ∀ p ∈ a.f7.zip b.f7, ∀ k, K ≤ k → sn_f k p.1 p.2 (m : Int) = some (eqB p.1 p.2) :=
      kmaxA (a.f7.zip b.f7) (fun p k => sn_f k p.1 p.2 (m : Int) = some (eqB p.1 p.2)) (fun p hp => sn_thin d p.1 (h.2.1 p.1 (List.of_mem_zip hp).1) m (by omega) (by omega) p.2)
    refine ⟨K + 2 * a.f7.length + a.f1.length + 6, fun k hk => ?_⟩
    obtain ⟨k, rfl⟩ : ∃ j, k = j + 2 := ⟨k - 2, by omega⟩
    have jT : ∀ k, burinbook_SameNode.j0 (k + 1) ((m + 1 : Nat) : Int) true a.f0 a.f1 a.f2 a.f3 a.f4 a.f5 a.f6 a.f7 b.f0 b.f1 b.f2 b.f3 b.f4 b.f5 b.f6 b.f7 = some false := fun k => by rw [burinbook_SameNode.j0, if_pos rfl]
    unfold sn_f
    rw [burinbook_SameNode.f, if_neg (by omega), node_eq]
    by_cases c0 : a.f0 = b.f0
    · rw [if_pos c0]
      by_cases c2 : a.f2 = b.f2
      · rw [if_pos c2]
        by_cases c3 : a.f3 = b.f3
        · rw [if_pos (str_toList.2 c3)]
          by_cases c4 : a.f4 = b.f4
          · rw [if_pos c4]
            by_cases c5 : a.f5 = b.f5
            · rw [if_pos c5]
              by_cases c6 : a.f6 = b.f6
              · rw [if_neg (by rw [c6]; simp), eqR_f a.f1 b.f1 (by have := h.2.2.1; omega) (k + 1) (by omega), Option.bind_some]
                by_cases c1 : a.f1 = b.f1
                · have hh : headB a b = true := headB_iff.2 ⟨c0, c2, c3, c4, c5, c6, c1⟩
                  rw [eqB_iff.2 c1, if_pos rfl, hh, Bool.true_and]
                  by_cases c7 : a.f7.length = b.f7.length
                  · rw [show ((a.f7.length : Int) != (b.f7.length : Int)) = false by simp [c7], burinbook_SameNode.j0, if_neg (by decide)]
                    have := sn_l m (by omega) a b c7 h.1 K (fun i hi k hk => hK (a.f7[i], b.f7[i]'(by omega)) (by
                      rw [List.mem_iff_getElem]
                      exact ⟨i, by simp; omega, by simp⟩) k hk) a.f7.length 0 (by omega) (by omega) k (by omega)
                    simpa using this
                  · rw [show ((a.f7.length : Int) != (b.f7.length : Int)) = true by simp; omega, jT, eqB_ne (fun e => c7 (by rw [e]))]
                · rw [eqB_ne c1, if_neg (by decide), jT, show headB a b = false from by rw [← Bool.not_eq_true, headB_iff]; exact fun h => c1 h.2.2.2.2.2.2, Bool.false_and]
              · rw [if_pos (by simpa using c6), jT, show headB a b = false from by rw [← Bool.not_eq_true, headB_iff]; exact fun h => c6 h.2.2.2.2.2.1, Bool.false_and]
            · rw [if_neg c5, jT, show headB a b = false from by rw [← Bool.not_eq_true, headB_iff]; exact fun h => c5 h.2.2.2.2.1, Bool.false_and]
          · rw [if_neg c4, jT, show headB a b = false from by rw [← Bool.not_eq_true, headB_iff]; exact fun h => c4 h.2.2.2.1, Bool.false_and]
        · rw [if_neg (fun e => c3 (str_toList.1 e)), jT, show headB a b = false from by rw [← Bool.not_eq_true, headB_iff]; exact fun h => c3 h.2.2.1, Bool.false_and]
      · rw [if_neg c2, jT, show headB a b = false from by rw [← Bool.not_eq_true, headB_iff]; exact fun h => c2 h.2.1, Bool.false_and]
    · rw [if_neg c0, jT, show headB a b = false from by rw [← Bool.not_eq_true, headB_iff]; exact fun h => c0 h.1, Bool.false_and]
theorem samenode_calls (va vb : NV) (w : World) (ha : va.ok w) (hb : vb.ok w) (ht : Thin 40 va.n) : Calls Try.prog 50 #[va.val, vb.val, .int .i64 50] w fun e w' => e = .returned (.bool (eqB va.n vb.n)) ∧ Kp [] w w' := by
  obtain ⟨K, hK⟩ := sn_thin 40 va.n ht 50 (by omega) (by omega) vb.n
  exact (burinbook_SameNode.calls K va.n.f0 va.A1 va.c1 va.n.f1 va.n.f2 va.n.f3 va.n.f4 va.n.f5 va.n.f6 va.A7 va.c7 va.n.f7 vb.n.f0 vb.A1 vb.c1 vb.n.f1 vb.n.f2 vb.n.f3 vb.n.f4 vb.n.f5 vb.n.f6 vb.A7 vb.c7 vb.n.f7 50 _ w ha.g1 ha.l1 ha.g7 ha.l7 hb.g1 hb.l1 hb.g7 hb.l7 (hK K (Nat.le_refl _))).mono fun e w' ⟨h, q⟩ => ⟨h, Kp.ofBelow q⟩
/-- What Same reckons. -/
noncomputable def sameP : Nat → S25 → S25 → Bool
  | 0, _, _ => false
  | m + 1, a, b => headB a b && (decide (a.f7.length = b.f7.length) && (a.f7.zip b.f7).all fun p => sameP m p.1 p.2)
theorem sameP_eq : ∀ (m : Nat) (a b : S25), sameP m a b = true → a = b
  | 0, _, _, h => by simp [sameP] at h
  | m + 1, a, b, h => by
    rw [sameP, Bool.and_eq_true, Bool.and_eq_true, decide_eq_true_iff, List.all_eq_true] at h
    rw [← eqB_iff, node_eq, h.1, Bool.true_and, eqB_iff]
    refine List.ext_getElem h.2.1 fun i h1 h2 => ?_
    exact sameP_eq m _ _ (h.2.2 (a.f7[i], b.f7[i]) (by rw [List.mem_iff_getElem]; exact ⟨i, by simp; omega, by simp⟩))
theorem sameP_self : ∀ (d : Nat) (a : S25), Thin d a → ∀ m, d ≤ m → sameP m a a = true
  | 0, _, h, _, _ => h.elim
  | d + 1, a, h, m, hm => by
    obtain ⟨m, rfl⟩ : ∃ j, m = j + 1 := ⟨m - 1, by omega⟩
    rw [sameP, Bool.and_eq_true, Bool.and_eq_true, decide_eq_true_iff, List.all_eq_true]
    refine ⟨headB_iff.2 ⟨rfl, rfl, rfl, rfl, rfl, rfl, rfl⟩, rfl, fun p hp => ?_⟩
    obtain ⟨i, hi, e⟩ := List.mem_iff_getElem.1 hp
    simp at e
    rw [← e]
    have : i < a.f7.length := by simp at hi; exact hi
    exact sameP_self d _ (h.2.1 _ (List.getElem_mem this)) m (by omega)
theorem sameP_thin {d : Nat} {a : S25} (h : Thin d a) (m : Nat) (hm : d ≤ m) (b : S25) : sameP m a b = eqB a b := by
  by_cases e : a = b
  · subst e; rw [sameP_self d a h m hm, eqB_self]
  · rw [eqB_ne e]
    cases hs : sameP m a b
    · rfl
    · exact absurd (sameP_eq m a b hs) e

end Go.Proofs.Ytojlhlepneefoaa
