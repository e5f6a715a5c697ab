/- The document's Check of ranges, Name, Fits as plain functions. -/
import Derived.Test.YtojlhlepneefoaaU
import Derived.Test.YtojlhlepneefoaaPAllx10
import Derived.Test.YtojlhlepneefoaaPAllx11
import Derived.Test.YtojlhlepneefoaaPAllx12
import Derived.Test.YtojlhlepneefoaaL
namespace Go.Proofs.Ytojlhlepneefoaa
open Go.RowKit PAll Go.Proofs.YtojlhlepneefoaaW.PrintWords Go.Proofs.YtojlhlepneefoaaW.PrintLast Go.Proofs.YtojlhlepneefoaaW.PrintMore
open Go.Shelf
set_option linter.unusedVariables false
set_option linter.unusedSimpArgs false

theorem rchk_l (l : List S103) (hl : l.length ≤ 9223372036854775807) : ∀ (n i k : Nat) (last : Int), l.length - i ≤ n → i ≤ l.length → (i = 0 → last = -2) → (∀ h : i - 1 < l.length, 0 < i → last = l[i-1].f1 ∧ 0 ≤ last) →
    burinref02_Check.l0 (2 * n + k + 1) l (i : Int) = some (chkR last (l.drop i))
  | 0, i, k, last, hn, hi, h0, h1 => by
    rw [show 2 * 0 + k + 1 = k + 1 by omega, burinref02_Check.l0, if_neg (by omega), List.drop_eq_nil_of_le (by omega)]
    rfl
  | n + 1, i, k, last, hn, hi, h0, h1 => by
    by_cases h : i < l.length
    · rw [show 2 * (n + 1) + k + 1 = (2 * n + k + 1) + 1 + 1 by omega, burinref02_Check.l0, if_pos (by omega), if_pos (by omega), rd103 l i h, List.drop_eq_getElem_cons h, chkR]
      have hw : wrap64 ((i : Int) + 1) = ((i + 1 : Nat) : Int) := by unfold wrap64; omega
      have hrec : 0 ≤ l[i].f1 → burinref02_Check.l0 (2 * n + k + 1) l ((i + 1 : Nat) : Int) = some (chkR l[i].f1 (l.drop (i + 1))) := fun h0 => rchk_l l hl n (i + 1) k l[i].f1 (by omega) (by omega) (by omega) (fun h' _ => ⟨by simp, h0⟩)
      have key : burinref02_Check.j1 (2 * n + k + 1 + 1) l (i : Int) true = some 1 := by rw [burinref02_Check.j1, if_pos rfl]
      have key2 : burinref02_Check.j1 (2 * n + k + 1 + 1) l (i : Int) false = if l[i].f0 > l[i].f1 then some 4 else if 0 < i then (if wrap64 (l[i].f0 - 1) ≤ last then some 4 else burinref02_Check.l0 (2 * n + k + 1) l ((i + 1 : Nat) : Int)) else burinref02_Check.l0 (2 * n + k + 1) l ((i + 1 : Nat) : Int) := by
        rw [burinref02_Check.j1, if_neg (by decide), if_pos (by omega), if_pos (by omega), rd103 l i h, hw]
        by_cases hp : 0 < i
        · have e1 : wrap64 ((i : Int) - 1) = ((i - 1 : Nat) : Int) := by unfold wrap64; omega
          rw [if_pos (show (i : Int) > 0 by omega), e1, if_pos (show (0 : Int) ≤ ((i - 1 : Nat) : Int) by omega), if_pos (show ((i - 1 : Nat) : Int) < (l.length : Int) by omega), rd103 l (i - 1) (by omega), ← (h1 (by omega) hp).1, if_pos hp]
        · rw [if_neg (show ¬ (i : Int) > 0 by omega), if_neg hp]
      have hlast : 0 < i → 0 ≤ last := fun hp => (h1 (by omega) hp).2
      generalize hx : l[i].f0 = x at *
      generalize hy : l[i].f1 = y at *
      by_cases c1 : x < 0
      · rw [if_pos c1, if_pos (by omega), key]
      rw [if_neg c1]
      by_cases c3 : y < 0
      · rw [if_pos c3, if_pos (by omega), key]
      rw [if_neg c3]
      by_cases c2 : x > 1114111
      · rw [if_pos c2, if_pos (by omega), key]
      rw [if_neg c2]
      by_cases c4 : y > 1114111
      · rw [if_pos (by omega), decide_eq_true c4, key]
      rw [decide_eq_false c4, key2, if_neg (show ¬ (x < 0 ∨ x > 1114111 ∨ y < 0 ∨ y > 1114111) by omega)]
      by_cases c5 : x > y
      · rw [if_pos c5, if_pos (show x > y ∨ x ≤ last + 1 by omega)]
      rw [if_neg c5]
      have hr := hrec (by omega)
      have hxw : wrap64 (x - 1) = x - 1 := by unfold wrap64; omega
      rw [hr, hxw]
      by_cases hp : 0 < i
      · rw [if_pos hp]
        by_cases c6 : x - 1 ≤ last
        · rw [if_pos c6, if_pos (show x > y ∨ x ≤ last + 1 by omega)]
        · rw [if_neg c6, if_neg (show ¬ (x > y ∨ x ≤ last + 1) by omega)]
      · rw [if_neg hp, if_neg (show ¬ (x > y ∨ x ≤ last + 1) by have := h0 (by omega); omega)]
    · rw [show 2 * (n + 1) + k + 1 = (2 * n + k + 2) + 1 by omega, burinref02_Check.l0, if_neg (by omega), List.drop_eq_nil_of_le (by omega)]
      rfl
theorem rchk_f (l : List S103) (hl : l.length ≤ 9223372036854775807) (k : Nat) (hk : 2 * l.length + 1 ≤ k) : burinref02_Check.f k l = some (chkR (-2) l) := by
  obtain ⟨j, rfl⟩ : ∃ j, k = 2 * l.length + j + 1 := ⟨k - (2 * l.length + 1), by omega⟩
  exact rchk_l l hl l.length 0 j (-2) (by omega) (by omega) (fun _ => rfl) (fun _ h => by omega)
set_option maxRecDepth 100000 in
set_option maxHeartbeats 4000000 in
theorem rlet_f (c : UInt8) : burinref06_letter.f (c.toNat : Int) = some (letB c) := by
  obtain ⟨x, hx⟩ : ∃ x, c.toNat = x := ⟨_, rfl⟩
  unfold burinref06_letter.f letB
  rw [hx]
  have e1 : ((x : Int) == 95) = decide (x = 95) := by
    by_cases h : x = 95
    · subst h; rfl
    · rw [decide_eq_false h, beq_eq_false_iff_ne]; omega
  rw [e1]
  by_cases c1 : 65 ≤ x <;> by_cases c2 : x ≤ 90 <;> by_cases c3 : 97 ≤ x <;> by_cases c4 : x ≤ 122 <;> by_cases c5 : 48 ≤ x <;> by_cases c6 : x ≤ 57 <;>
    simp [c1, c2, c3, c4, c5, c6, show ((x : Int) ≥ 65 ↔ 65 ≤ x) by omega, show ((x : Int) ≤ 90 ↔ x ≤ 90) by omega, show ((x : Int) ≥ 97 ↔ 97 ≤ x) by omega, show ((x : Int) ≤ 122 ↔ x ≤ 122) by omega, show ((x : Int) ≥ 48 ↔ 48 ≤ x) by omega, show ((x : Int) ≤ 57 ↔ x ≤ 57) by omega]
theorem bt_list (s : ByteArray) (i : Nat) (h : i < s.data.toList.length) : bt s (i : Int) = ((s.data.toList[i].toNat : Nat) : Int) := by
  have h2 : i < s.size := h
  unfold bt
  rw [dif_pos (show ((i : Int)).toNat < s.size by rw [Int.toNat_natCast]; exact h2)]
  rfl
theorem rname_l (s : ByteArray) (hs : s.size ≤ 9223372036854775806) : ∀ (n i k : Nat), s.size - i ≤ n → i ≤ s.size →
    burinref06_Name.l0 (n + k + 1) s (i : Int) = some (if ((s.data.toList.drop i).all letB) = true then (decide (1 ≤ s.size) && (decide (s.size ≤ 32) && (!(decide (48 ≤ (s.data.toList.headD 0).toNat) && decide ((s.data.toList.headD 0).toNat ≤ 57))))) else false) := by
  have hsz : s.data.toList.length = s.size := rfl
  intro n
  induction n with
  | zero =>
    intro i k hn hi
    rw [show 0 + k + 1 = k + 1 by omega, burinref06_Name.l0, if_neg (show ¬ (i : Int) < (s.size : Int) by omega), List.drop_eq_nil_of_le (by omega), if_pos (show ([] : List UInt8).all letB = true from rfl)]
    by_cases h1 : 1 ≤ s.size
    · rw [if_pos (show (s.size : Int) ≥ 1 by omega), decide_eq_true h1]
      by_cases h2 : s.size ≤ 32
      · rw [if_pos (show (s.size : Int) ≤ 32 by omega), if_pos (show (0 : Int) < (s.size : Int) by omega), decide_eq_true h2]
        have hb := bt_list s 0 (by omega)
        have hh : s.data.toList.headD 0 = s.data.toList[0] := by
          rw [List.headD_eq_head?_getD, List.head?_eq_getElem?, List.getElem?_eq_getElem (by omega)]; rfl
        rw [show bt s 0 = ((s.data.toList.headD 0).toNat : Int) by rw [hh]; exact hb]
        clear hb hh
        generalize (s.data.toList.headD 0).toNat = x
        by_cases h3 : x < 48
        · rw [if_pos (by omega)]; simp [show ¬ 48 ≤ x by omega]
        · rw [if_neg (by omega)]
          by_cases h4 : x ≤ 57
          · simp [h4, show 48 ≤ x by omega]; omega
          · simp [h4]; omega
      · rw [if_neg (show ¬ (s.size : Int) ≤ 32 by omega), decide_eq_false h2]; simp
    · rw [if_neg (show ¬ (s.size : Int) ≥ 1 by omega), decide_eq_false h1]; simp
  | succ n ih =>
    intro i k hn hi
    by_cases h : i < s.size
    · rw [show n + 1 + k + 1 = (n + k + 1) + 1 by omega, burinref06_Name.l0, if_pos (by omega), if_pos (by omega), bt_list s i (by omega), rlet_f, List.drop_eq_getElem_cons (by omega : i < s.data.toList.length), show wrap64 ((i : Int) + 1) = ((i + 1 : Nat) : Int) by unfold wrap64; omega, Option.bind_some, ih (i + 1) k (by omega) (by omega)]
      obtain ⟨c, hc⟩ : ∃ c, c = s.data.toList[i]'(by omega) := ⟨_, rfl⟩
      rw [← hc]
      cases hq : letB c <;> simp [hq, List.all_cons]
    · obtain rfl : i = s.size := by omega
      have := ih s.size (k + 1) (by omega) (by omega)
      rw [show n + (k + 1) + 1 = n + 1 + k + 1 by omega] at this
      exact this
theorem rname_f (s : ByteArray) (hs : s.size ≤ 9223372036854775806) (k : Nat) (hk : s.size + 1 ≤ k) : burinref06_Name.f k s = some (nameB s.data.toList) := by
  obtain ⟨j, rfl⟩ : ∃ j, k = s.size + j + 1 := ⟨k - (s.size + 1), by omega⟩
  have hsz : s.data.toList.length = s.size := rfl
  have := rname_l s hs s.size 0 j (by omega) (by omega)
  rw [show ((0 : Nat) : Int) = 0 from rfl] at this
  unfold burinref06_Name.f
  rw [this]
  unfold nameB
  rw [hsz, List.drop_zero]
  cases s.data.toList.all letB <;> simp
set_option maxHeartbeats 4000000 in
theorem rfits_f (n : S25) (hs : n.f3.size ≤ 9223372036854775806) (hl : n.f1.length ≤ 9223372036854775807) (k : Nat) (hk : 2 * n.f1.length + n.f3.size + 6 ≤ k) : burinref06_Fits.f k n.f0 n.f1 n.f2 n.f3 n.f4 n.f5 n.f6 n.f7 = some (fitsV n) := by
  obtain ⟨kd, set, num, nm, mn, mx, lz, subs⟩ := n
  dsimp only at *
  obtain ⟨k, rfl⟩ : ∃ j, k = j + 3 := ⟨k - 3, by omega⟩
  have hc := rchk_f set hl (k + 1) (by omega)
  have hn := rname_f nm hs (k + 1) (by omega)
  have e3 : (nm.toList == ([] : List UInt8)) = emptyS nm := by unfold emptyS; cases nm.toList <;> rfl
  have e1 : ((set.length : Int) == 0) = decide (set.length = 0) := by rw [Bool.eq_iff_iff]; simp
  have e2 : (num == 0) = decide (num = 0) := by rw [Bool.eq_iff_iff]; simp
  have e5 : (mx == 0) = decide (mx = 0) := by rw [Bool.eq_iff_iff]; simp
  have e7 : ((subs.length : Int) == 0) = decide (subs.length = 0) := by rw [Bool.eq_iff_iff]; simp
  have e71 : ((subs.length : Int) == 1) = decide (subs.length = 1) := by rw [Bool.eq_iff_iff]; simp; omega
  have e72 : decide ((subs.length : Int) ≥ 2) = decide (2 ≤ subs.length) := by rw [Bool.eq_iff_iff]; simp; omega
  have b0 : emptyS ⟨#[]⟩ = true := by simp [emptyS, ByteArray.toList_eq]
  have key : burinref06_Fits.f (k + 3) kd set num nm mn mx lz subs = burinref06_Fits.j0 (k + 3) (decide (set.length = 0)) (decide (num = 0)) (emptyS nm) (decide (mn = 0) && decide (mx = 0)) (!lz) (subs.length : Int) kd set num nm mn mx lz subs := by
    unfold burinref06_Fits.f
    rw [e1, e2, e3, e5]
    by_cases h : mn = 0
    · rw [if_pos h, decide_eq_true h, Bool.true_and]
    · rw [if_neg h, decide_eq_false h, Bool.false_and]
  rw [key]
  generalize ha : decide (set.length = 0) = A
  have hA : (set = []) ↔ A = true := by rw [← ha]; simp
  unfold fitsV fitsN bareB
  dsimp only
  rw [ha]
  by_cases k1 : kd = 1
  · subst k1
    simp only [burinref06_Fits.j0, burinref06_Fits.j1, e7]
    cases A <;> cases decide (num = 0) <;> cases emptyS nm <;> cases decide (mn = 0) <;> cases decide (mx = 0) <;> cases lz <;> simp
  by_cases k2 : kd = 2
  · subst k2
    simp only [burinref06_Fits.j0, burinref06_Fits.j1, e7]
    cases A <;> cases decide (num = 0) <;> cases emptyS nm <;> cases decide (mn = 0) <;> cases decide (mx = 0) <;> cases lz <;> simp
  by_cases k4 : kd = 4
  · subst k4
    simp only [burinref06_Fits.j0, burinref06_Fits.j1, e7]
    cases A <;> cases decide (num = 0) <;> cases emptyS nm <;> cases decide (mn = 0) <;> cases decide (mx = 0) <;> cases lz <;> simp
  by_cases k3 : kd = 3
  · subst k3
    simp only [burinref06_Fits.j0, burinref06_Fits.j1, e7, hc, Option.bind_some]
    by_cases hr : chkR (-2) set = 0 <;> cases A <;> cases decide (num = 0) <;> cases emptyS nm <;> cases decide (mn = 0) <;> cases decide (mx = 0) <;> cases lz <;> simp [hr]
  by_cases k5 : kd = 5
  · subst k5
    simp only [burinref06_Fits.j0, burinref06_Fits.j1, e7]
    by_cases h1 : 1 ≤ num <;> by_cases h2 : num ≤ 6 <;> cases A <;> cases emptyS nm <;> cases decide (mn = 0) <;> cases decide (mx = 0) <;> cases lz <;> simp [h1, h2]
  by_cases k6 : kd = 6
  · subst k6
    simp only [burinref06_Fits.j0, burinref06_Fits.j1, e71, hn, Option.bind_some, b0]
    by_cases h1 : 1 ≤ num <;> cases nameB nm.data.toList <;> cases A <;> cases emptyS nm <;> cases decide (mn = 0) <;> cases decide (mx = 0) <;> cases lz <;> simp [h1]
  by_cases k7 : kd = 7
  · subst k7
    simp only [burinref06_Fits.j0, burinref06_Fits.j1, burinref06_Fits.j2, e72]
    cases A <;> cases decide (num = 0) <;> cases emptyS nm <;> cases decide (mn = 0) <;> cases decide (mx = 0) <;> cases lz <;> simp
  by_cases k8 : kd = 8
  · subst k8
    simp only [burinref06_Fits.j0, burinref06_Fits.j1, burinref06_Fits.j2, e72]
    cases A <;> cases decide (num = 0) <;> cases emptyS nm <;> cases decide (mn = 0) <;> cases decide (mx = 0) <;> cases lz <;> simp
  by_cases k9 : kd = 9
  · subst k9
    simp only [burinref06_Fits.j0, burinref06_Fits.j1, burinref06_Fits.j2, e71]
    by_cases h1 : 0 ≤ mn <;> by_cases h2 : mn ≤ 1000 <;> by_cases h3 : mx = -1 <;> by_cases h4 : mn ≤ mx <;> by_cases h5 : mx ≤ 1000 <;> cases A <;> cases decide (num = 0) <;> cases emptyS nm <;> simp [h1, h2, h3, h4, h5]
  · simp only [burinref06_Fits.j0, burinref06_Fits.j1, burinref06_Fits.j2]
    simp [k1, k2, k3, k4, k5, k6, k7, k8, k9]
theorem rfits_calls (v : NV) (w : World) (h : v.ok w) (hs : v.n.f3.size ≤ 9223372036854775806) : Calls Try.prog 77 #[v.val] w fun e w' => e = .returned (.bool (fitsV v.n)) ∧ Kp [] w w' :=
  (burinref06_Fits.calls (2 * v.n.f1.length + v.n.f3.size + 6) v.n.f0 v.A1 v.c1 v.n.f1 v.n.f2 v.n.f3 v.n.f4 v.n.f5 v.n.f6 v.A7 v.c7 v.n.f7 _ w h.g1 h.l1 h.g7 h.l7 (rfits_f v.n hs h.g1.2.1 _ (Nat.le_refl _))).mono fun e w' ⟨he, hb⟩ => ⟨he, Kp.ofBelow hb⟩
theorem rname_calls (s : ByteArray) (hs : s.size ≤ 9223372036854775806) (w : World) : Calls Try.prog 35 #[.string s] w fun e w' => e = .returned (.bool (nameB s.data.toList)) ∧ Kp [] w w' :=
  (burinref06_Name.calls (s.size + 1) s _ w (rname_f s hs _ (Nat.le_refl _))).mono fun e w' ⟨he, hb⟩ => ⟨he, Kp.ofDrawn hb⟩
theorem all_calls (v : NV) (w : World) (hv : v.ok w) (hN : (stepsL 1000 1 v.n).length ≤ 1000000) : Calls Try.prog 45 #[.slice none 0 0, v.val, .int .i64 1] w fun e w' => ∃ (u' : Value) (xs : List (Step w)), e = .returned u' ∧ proj xs = stepsL 1000 1 v.n ∧ w'.ownsRow w.heap.size 70 9 u' xs.length (stepCells xs) ∧ Kp [] w w' := by
  refine (all_in w 1000 1 (by omega) (by omega) v hv w (.slice none 0 0) 0 [] (Below.refl _ _) (World.ownsRow_nil _ _ _ _) (by simpa using hN)).mono ?_
  rintro e w' ⟨u', xs, rfl, hp, ho, hg, _⟩
  exact ⟨u', xs, rfl, hp, by simpa using ho, ⟨hg.os, hg.tape, hg.output, hg.size, fun i hi _ => hg.block i hi (by simp [Value.ownBlock])⟩⟩

end Go.Proofs.Ytojlhlepneefoaa
