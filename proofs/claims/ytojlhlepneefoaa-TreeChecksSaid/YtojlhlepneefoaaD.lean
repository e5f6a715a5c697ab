/- Package tree: what fits; the walk of fits. -/
import Derived.Test.YtojlhlepneefoaaC
import Derived.Test.YtojlhlepneefoaaPAllx4
import Derived.Test.YtojlhlepneefoaaPAllx5
namespace Go.Proofs.Ytojlhlepneefoaa
open Go.RowKit PAll Go.Proofs.YtojlhlepneefoaaW.PrintWords Go.Proofs.YtojlhlepneefoaaW.PrintLast Go.Proofs.YtojlhlepneefoaaW.PrintMore
open Go.Shelf
set_option linter.unusedVariables false
set_option linter.unusedSimpArgs false

def chkR : Int → List S103 → Int
  | _, [] => 0
  | last, x :: l => if x.f0 < 0 ∨ x.f0 > 1114111 ∨ x.f1 < 0 ∨ x.f1 > 1114111 then 1 else if x.f0 > x.f1 ∨ x.f0 ≤ last + 1 then 4 else chkR x.f1 l
theorem chkR_cases (last : Int) (l : List S103) : chkR last l = 0 ∨ chkR last l = 1 ∨ chkR last l = 4 := by
  induction l generalizing last with
  | nil => exact Or.inl rfl
  | cons x l ih =>
    rw [chkR]
    split
    · exact Or.inr (Or.inl rfl)
    split
    · exact Or.inr (Or.inr rfl)
    · exact ih _
theorem rd103 (l : List S103) (i : Nat) (h : i < l.length) : rd_T103 l (i : Int) = l[i] := by simp [rd_T103, List.getD, List.getElem?_eq_getElem h]
theorem chk_loop (l : List S103) (hl : l.length ≤ 9223372036854775807) : ∀ (n i k : Nat) (last : Int), -2 ≤ last → last ≤ 1114111 → l.length - i ≤ n → i ≤ l.length → ranges_Check.l0 (2 * n + k + 1) last l (l.length : Int) (i : Int) = some (chkR last (l.drop i))
  | 0, i, k, last, h0, h1, hn, hi => by
    rw [show 2 * 0 + k + 1 = k + 1 by omega, ranges_Check.l0, if_neg (by omega), List.drop_eq_nil_of_le (by omega)]
    rfl
  | n + 1, i, k, last, h0, h1, hn, hi => by
    by_cases h : i < l.length
    · rw [show 2 * (n + 1) + k + 1 = (2 * n + k + 1) + 1 + 1 by omega, ranges_Check.l0, if_pos (by omega), if_pos (by omega), if_pos (by omega), rd103 l i h, List.drop_eq_getElem_cons h, chkR]
      have key : ∀ t : Bool, ranges_Check.j1 (2 * n + k + 1 + 1) last l (l.length : Int) (i : Int) t l[i].f0 l[i].f1 = if t = true then some 1 else if l[i].f0 > l[i].f1 then some 4 else if l[i].f0 ≤ wrap64 (last + 1) then some 4 else ranges_Check.l0 (2 * n + k + 1) l[i].f1 l (l.length : Int) (wrap64 ((i : Int) + 1)) := by
        intro t; rw [ranges_Check.j1]
      simp only [key]
      have hw : wrap64 (last + 1) = last + 1 := by unfold wrap64; omega
      rw [hw, show wrap64 ((i : Int) + 1) = ((i + 1 : Nat) : Int) by unfold wrap64; omega]
      generalize l[i].f0 = x at *
      generalize l[i].f1 = y at *
      by_cases c1 : x < 0
      · simp [c1]
      by_cases c2 : x > 1114111
      · simp [c1, c2]
      by_cases c3 : y < 0
      · simp [c1, c2, c3]
      by_cases c4 : y > 1114111
      · simp [c1, c2, c3, c4]
      by_cases c5 : x > y
      · simp [c1, c2, c3, c4, c5]
      by_cases c6 : x ≤ last + 1
      · simp [c1, c2, c3, c4, c5, c6]
      · rw [if_neg c1, if_neg c2, if_neg c3, if_neg (by simpa using c4), if_neg c5, if_neg c6, if_neg (by omega), if_neg (by omega)]
        exact chk_loop l hl n (i + 1) k y (by omega) (by omega) (by omega) (by omega)
    · rw [show 2 * (n + 1) + k + 1 = (2 * n + k + 2) + 1 by omega, ranges_Check.l0, if_neg (by omega), List.drop_eq_nil_of_le (by omega)]
      rfl
theorem ranges_calls (A : Option Addr) (c : Nat) (l : List S103) (w : World) (h : Kd.C k103 w A l.length l) (hc : l.length ≤ c) (hl : l.length ≤ 9223372036854775807) : Calls Try.prog 95 #[.slice A l.length c] w fun e w' => e = .returned (.int .i64 (chkR (-2) l)) ∧ Kp [] w w' := by
  refine (ranges_Check.calls (2 * l.length + 0 + 1) A c l _ w h hc ?_).mono fun e w' ⟨he, hb⟩ => ⟨he, Kp.ofBelow hb⟩
  have := chk_loop l hl l.length 0 0 (-2) (by omega) (by omega) (by omega) (by omega)
  rw [show ((0 : Nat) : Int) = 0 from rfl] at this
  exact this
def emptyS (s : ByteArray) : Bool := s.toList.isEmpty
def bareB (set : List S103) (num : Int) (nm : ByteArray) (mn mx : Int) (lz : Bool) (subs : List S25) : Bool :=
  decide (set.length = 0) && (decide (num = 0) && (emptyS nm && (decide (mn = 0) && (decide (mx = 0) && (!lz && decide (subs.length = 0))))))
theorem bare_ok (kd : Int) (set : List S103) (num : Int) (nm : ByteArray) (mn mx : Int) (lz : Bool) (subs : List S25) : tree_bare.f kd set num nm mn mx lz subs = some (bareB set num nm mn mx lz subs) := by
  unfold tree_bare.f bareB emptyS
  have e : (nm.toList = []) ↔ nm.toList.isEmpty = true := by simp
  by_cases c1 : set.length = 0
  · rw [if_pos (by omega)]
    by_cases c2 : num = 0
    · rw [if_pos c2]
      by_cases c3 : nm.toList = []
      · rw [if_pos c3]
        by_cases c4 : mn = 0
        · rw [if_pos c4]
          by_cases c5 : mx = 0
          · rw [if_pos c5]
            cases lz with
            | true => simp
            | false =>
              rw [if_neg (by decide)]
              simp only [c1, c2, c3, c4, c5, decide_true, Bool.true_and, List.isEmpty_nil, Bool.not_false]
              refine congrArg some ?_
              rw [Bool.eq_iff_iff, beq_iff_eq, decide_eq_true_eq]
              omega
          · rw [if_neg c5]; simp [c5]
        · rw [if_neg c4]; simp [c4]
      · rw [if_neg c3]; simp [c3]
    · rw [if_neg c2]; simp [c2]
  · rw [if_neg (by omega)]; simp [c1]
theorem bare_calls (kd : Int) (A1 : Option Addr) (c1 : Nat) (set : List S103) (num : Int) (nm : ByteArray) (mn mx : Int) (lz : Bool) (A7 : Option Addr) (c7 : Nat) (subs : List S25) (w : World) (h1 : Kd.C k103 w A1 set.length set) (l1 : set.length ≤ c1) (h7 : Kd.C k25 w A7 subs.length subs) (l7 : subs.length ≤ c7) :
    Calls Try.prog 96 #[.agg #[.int .i64 kd, .slice A1 set.length c1, .int .i64 num, .string nm, .int .i64 mn, .int .i64 mx, .bool lz, .slice A7 subs.length c7]] w fun e w' => e = .returned (.bool (bareB set num nm mn mx lz subs)) ∧ Kp [] w w' :=
  (tree_bare.calls kd A1 c1 set num nm mn mx lz A7 c7 subs _ w h1 l1 h7 l7 (bare_ok kd set num nm mn mx lz subs)).mono fun e w' ⟨he, hb⟩ => ⟨he, Kp.ofBelow hb⟩
def fitsN (kd : Int) (set : List S103) (num : Int) (nm : ByteArray) (mn mx : Int) (lz : Bool) (subs : List S25) : Bool :=
  if kd = 1 ∨ kd = 2 ∨ kd = 4 then bareB set num nm mn mx lz subs
  else if kd = 3 then !(decide (set.length = 0)) && (decide (chkR (-2) set = 0) && bareB [] num nm mn mx lz subs)
  else if kd = 5 then decide (1 ≤ num) && (decide (num ≤ 6) && bareB set 0 nm mn mx lz subs)
  else if kd = 6 then decide (1 ≤ num) && ((emptyS nm || nameB nm.data.toList) && (decide (subs.length = 1) && bareB set 0 ⟨#[]⟩ mn mx lz []))
  else if kd = 7 ∨ kd = 8 then decide (2 ≤ subs.length) && bareB set num nm mn mx lz []
  else if kd = 9 then decide (0 ≤ mn) && (decide (mn ≤ 1000) && ((decide (mx = -1) || decide (mn ≤ mx) && decide (mx ≤ 1000)) && (decide (subs.length = 1) && bareB set num nm 0 0 false [])))
  else false
end Go.Proofs.Ytojlhlepneefoaa
