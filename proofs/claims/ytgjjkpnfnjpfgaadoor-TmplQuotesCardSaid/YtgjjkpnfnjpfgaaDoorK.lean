/- Templates in plain words, over lists of bytes: what behind, name, New, Expand and Groups answer; and of two templates, one behind the other. -/
import Derived.Test.YtgjjkpnfnjpfgaaDoorPAllx7
import Derived.Test.YtgjjkpnfnjpfgaaDoorH
import Derived.Test.YtgjjkpnfnjpfgaaDoorPAllx9
import Derived.Test.YtgjjkpnfnjpfgaaDoorPAllx11
namespace Go.Proofs.YtgjjkpnfnjpfgaaDoor
open Go.Shelf Go.RowKit PAll Go.Proofs.YtgjjkpnfnjpfgaaDoorW.PrintWords Go.Proofs.YtgjjkpnfnjpfgaaDoorW.PrintLast Go.Proofs.YtgjjkpnfnjpfgaaDoorW.PrintMore
set_option linter.unusedVariables false
set_option linter.unusedSimpArgs false
def bs (l : List UInt8) : ByteArray := ⟨l.toArray⟩
theorem bs_size (l : List UInt8) : (bs l).size = l.length := rfl
theorem bs_list (l : List UInt8) : (bs l).toList = l := by simp [bs, ByteArray.toList_eq]
theorem bs_of (s : ByteArray) : s = bs s.toList := by
  cases s with
  | mk d => simp [bs, ByteArray.toList_eq]
theorem bs_ext (l : List UInt8) (a b : Nat) : (bs l).extract a b = bs ((l.take b).drop a) := by
  have : ((bs l).extract a b).data = (bs ((l.take b).drop a)).data := by
    rw [ByteArray.data_extract]
    apply Array.ext'
    simp [bs, List.extract_eq_take_drop, List.drop_take]
  cases h : (bs l).extract a b with
  | mk d => rw [h] at this; show (⟨d⟩ : ByteArray) = ⟨_⟩; rw [show d = _ from this]; rfl
theorem bt_bs (l : List UInt8) (i : Nat) (h : i < l.length) : bt (bs l) (i : Int) = (l[i].toNat : Int) := by
  have hh : (i : Int).toNat < (bs l).size := by simpa [bs_size] using h
  unfold bt
  rw [dif_pos hh]
  rfl
def digL (c : UInt8) : Bool := decide (48 ≤ c.toNat) && decide (c.toNat ≤ 57)
def letL (c : UInt8) : Bool := digL c || (decide (65 ≤ c.toNat) && decide (c.toNat ≤ 90) || (decide (97 ≤ c.toNat) && decide (c.toNat ≤ 122) || decide (c.toNat = 95)))
theorem digit_f (c : UInt8) : tmpl_digit.f (c.toNat : Int) = some (digL c) := by
  unfold tmpl_digit.f digL
  by_cases h : 48 ≤ c.toNat
  · rw [if_pos (by omega)]
    simp [h]; omega
  · rw [if_neg (by omega)]
    simp [h]
theorem letter_n : ∀ x : Nat, x < 256 → tmpl_letter.f (x : Int) = some ((decide (48 ≤ x) && decide (x ≤ 57)) || (decide (65 ≤ x) && decide (x ≤ 90) || (decide (97 ≤ x) && decide (x ≤ 122) || decide (x = 95)))) := by decide +kernel
theorem letter_f (c : UInt8) : tmpl_letter.f (c.toNat : Int) = some (letL c) := letter_n c.toNat (UInt8.toNat_lt c)
theorem w64 (x : Int) (h0 : -9223372036854775808 ≤ x) (h1 : x < 9223372036854775808) : wrap64 x = x := by unfold wrap64; omega
theorem name_l (l : List UInt8) (hl : l.length ≤ 1000000) : ∀ k i, i ≤ l.length → l.length - i < k → tmpl_name.l0 k (bs l) (i : Nat) = some (bs (l.take (i + ((l.drop i).takeWhile letL).length)))
  | 0, i, _, h => by omega
  | k + 1, i, hi, hk => by
    unfold tmpl_name.l0
    rw [bs_size]
    by_cases h : i < l.length
    · have hd : l.drop i = l[i] :: l.drop (i + 1) := List.drop_eq_getElem_cons h
      rw [if_pos (by omega), if_pos (by omega), bt_bs l i h, letter_f]
      simp only [Option.bind_some]
      cases hc : letL l[i]
      · rw [if_neg (by simp), if_pos (by omega), bs_ext, hd, List.takeWhile_cons, hc]
        simp
      · rw [if_pos rfl, w64 _ (by omega) (by omega), show ((i : Nat) : Int) + 1 = ((i + 1 : Nat) : Int) by omega, name_l l hl k (i + 1) h (by omega), hd, List.takeWhile_cons, hc]
        simp only [if_true, List.length_cons]
        rw [show i + 1 + ((l.drop (i + 1)).takeWhile letL).length = i + (((l.drop (i + 1)).takeWhile letL).length + 1) by omega]
    · have : i = l.length := by omega
      subst this
      rw [if_neg (by omega), if_pos (by omega), if_pos (by omega), bs_ext]
      simp
theorem name_f (l : List UInt8) (hl : l.length ≤ 1000000) (k : Nat) (hk : l.length < k) : tmpl_name.f k (bs l) = some (bs (l.takeWhile letL)) := by
  have := name_l l hl k 0 (by omega) (by omega)
  unfold tmpl_name.f
  rw [show ((0 : Nat) : Int) = 0 from rfl] at this
  rw [this]
  congr 2
  simp only [Nat.zero_add, List.drop_zero]
  exact (List.prefix_iff_eq_take.1 (List.takeWhile_prefix letL)).symm
theorem pref_f (l : List UInt8) (c : UInt8) : strings_HasPrefix.f (bs l) (bs [c]) = some (l.head? == some c) := by
  unfold strings_HasPrefix.f stringslite_HasPrefix.f
  have h1 : ((bs [c]).size : Int) = 1 := rfl
  rw [h1]
  cases l with
  | nil => rw [if_neg (by simp [bs_size])]; rfl
  | cons x t =>
    have h2 : (1 : Int) ≤ ((bs (x :: t)).size : Int) := by rw [bs_size]; simp; omega
    rw [if_pos h2, if_pos (by omega), if_pos h2, bs_ext]
    simp [bs_list]
theorem cutp_f (l : List UInt8) (c : UInt8) : strings_CutPrefix.f (bs l) (bs [c]) = some (if l.head? = some c then (bs l.tail, true) else (bs l, false)) := by
  have hp := pref_f l c
  unfold strings_HasPrefix.f at hp
  unfold strings_CutPrefix.f stringslite_CutPrefix.f
  cases hx : stringslite_HasPrefix.f (bs l) (bs [c]) with
  | none => rw [hx] at hp; simp at hp
  | some b =>
    rw [hx] at hp
    simp only [Option.bind_some, Option.some.injEq] at hp
    subst hp
    cases l with
    | nil => simp
    | cons x t =>
      by_cases h : x = c
      · subst h
        rw [Option.bind_some, if_pos (by simp), if_pos (by simp), if_pos (by simp [bs_size]; omega)]
        simp [bs_size, bs_ext]
      · simp [h]
def behL (l : List UInt8) : Nat × List UInt8 :=
  if l.head? = some 36 then (1, [36])
  else if l.head? = some 123 then
    (let n := l.tail.takeWhile letL
     if n = [] then (0, []) else if (l.tail.drop n.length).head? = some 125 then (n.length + 2, n) else (0, []))
  else ((l.takeWhile letL).length, l.takeWhile letL)
theorem tw_le (p : UInt8 → Bool) (l : List UInt8) : (l.takeWhile p).length ≤ l.length := (List.takeWhile_prefix p).length_le
theorem behL_le (l : List UInt8) : (behL l).1 ≤ l.length := by
  unfold behL
  by_cases h1 : l.head? = some 36
  · rw [if_pos h1]
    cases l with
    | nil => simp at h1
    | cons x t => simp
  · rw [if_neg h1]
    by_cases h2 : l.head? = some 123
    · rw [if_pos h2]
      cases l with
      | nil => simp at h2
      | cons x t =>
        show (if t.takeWhile letL = [] then (0, []) else if (t.drop (t.takeWhile letL).length).head? = some 125 then ((t.takeWhile letL).length + 2, t.takeWhile letL) else ((0, []) : Nat × List UInt8)).1 ≤ _
        have := tw_le letL t
        by_cases h3 : t.takeWhile letL = []
        · rw [if_pos h3]; simp
        · rw [if_neg h3]
          by_cases h4 : (t.drop (t.takeWhile letL).length).head? = some 125
          · rw [if_pos h4]
            have : (List.takeWhile letL t).length ≠ t.length := fun e => by rw [e, List.drop_length] at h4; simp at h4
            simp only [List.length_cons]; omega
          · rw [if_neg h4]; simp
    · rw [if_neg h2]; exact tw_le _ _
theorem pref_calls (l : List UInt8) (c : UInt8) (w : World) : Calls Tryd.prog 18 #[.string (bs l), .string ⟨#[c]⟩] w fun e w' => e = .returned (.bool (l.head? == some c)) ∧ Drawn0 w w' := strings_HasPrefix.calls _ _ _ w (pref_f l c)
theorem cutp_yes (l : List UInt8) (c : UInt8) (h : l.head? = some c) (w : World) : Calls Tryd.prog 19 #[.string (bs l), .string ⟨#[c]⟩] w fun e w' => e = .returned (.tuple #[.string (bs l.tail), .bool true]) ∧ Drawn0 w w' := strings_CutPrefix.calls _ _ _ _ w (by have := cutp_f l c; rw [if_pos h] at this; exact this)
theorem cutp_no (l : List UInt8) (c : UInt8) (h : ¬ l.head? = some c) (w : World) : Calls Tryd.prog 19 #[.string (bs l), .string ⟨#[c]⟩] w fun e w' => e = .returned (.tuple #[.string (bs l), .bool false]) ∧ Drawn0 w w' := strings_CutPrefix.calls _ _ _ _ w (by have := cutp_f l c; rw [if_neg h] at this; exact this)
theorem name_calls (l : List UInt8) (hl : l.length ≤ 1000000) (w : World) : Calls Tryd.prog 20 #[.string (bs l)] w fun e w' => e = .returned (.string (bs (l.takeWhile letL))) ∧ Drawn0 w w' := tmpl_name.calls (l.length + 1) _ _ w (name_f l hl _ (by omega))
theorem bs_nil : bs [] = ⟨#[]⟩ := rfl
theorem bs_emp (l : List UInt8) : (bs l).toList.isEmpty = l.isEmpty := by rw [bs_list]
attribute [irreducible] bs
set_option maxRecDepth 100000 in
set_option maxHeartbeats 2000000 in
theorem beh_calls (l : List UInt8) (hl : l.length ≤ 1000000) (w : World) : Calls Tryd.prog 11 #[.string (bs l)] w fun e w' => e = .returned (.tuple #[.int .i64 ((behL l).1 : Nat), .string (bs (behL l).2)]) ∧ Drawn0 w w' := by
  have A := Lib.hid (pref_calls l 36)
  have N := Lib.hid (name_calls l hl)
  by_cases h1 : l.head? = some 36
  · have hb : behL l = (1, [36]) := by unfold behL; rw [if_pos h1]
    have hv : (l.head? == some 36) = true := by simpa using h1
    rw [hb]
    rw [hv] at A
    clear hb hv h1 N
    go_enter Tryd.func11, Tryd.ntmps11
    go_wp2_with (go_at_call 18; with_reducible refine (A.out w).mono ?_; rintro e w1 ⟨rfl, k1⟩)
    go_ret2
    exact ⟨by unfold bs; rfl, k1⟩
  · have hv : (l.head? == some 36) = false := by simpa using h1
    rw [hv] at A
    clear hv
    by_cases h2 : l.head? = some 123
    · have C := Lib.hid (cutp_yes l 123 h2)
      have M := Lib.hid (name_calls l.tail (by simp; omega))
      by_cases h3 : l.tail.takeWhile letL = []
      · have hb : behL l = (0, []) := by unfold behL; rw [if_neg h1, if_pos h2]; simp only; rw [if_pos h3]
        have hE : (bs (l.tail.takeWhile letL)).toList.isEmpty = true := by rw [bs_emp, h3]; rfl
        rw [hb]
        clear hb h1 h2 N h3
        go_enter Tryd.func11, Tryd.ntmps11
        go_wp2_with (first | (go_at_call 18; with_reducible refine (A.out w).mono ?_; rintro e w1 ⟨rfl, ⟨n1, rfl⟩⟩) | (go_at_call 19; refine (C.out _).mono ?_; rintro e w2 ⟨rfl, ⟨n2, rfl⟩⟩) | (go_at_call 20; refine (M.out _).mono ?_; rintro e w3 ⟨rfl, ⟨n3, rfl⟩⟩))
        go_ret2
        exact ⟨by rw [bs_nil]; rfl, by repeat (first | exact Drawn0.refl _ | apply Drawn0.step)⟩
      · have hle := tw_le letL l.tail
        have hE : (bs (l.tail.takeWhile letL)).toList.isEmpty = false := by
          rw [bs_emp]; cases hq : l.tail.takeWhile letL with
          | nil => exact absurd hq h3
          | cons a b => rfl
        have hb : behL l = if (l.tail.drop (l.tail.takeWhile letL).length).head? = some 125 then ((l.tail.takeWhile letL).length + 2, l.tail.takeWhile letL) else (0, []) := by unfold behL; rw [if_neg h1, if_pos h2]; simp only; rw [if_neg h3]
        have P := Lib.hid (show ∀ w : World, Calls Tryd.prog 18 #[.string ((bs l.tail).extract (bs (l.tail.takeWhile letL)).size (bs l.tail).size), .string ⟨#[125]⟩] w fun e w' => e = .returned (.bool ((l.tail.drop (l.tail.takeWhile letL).length).head? == some 125)) ∧ Drawn0 w w' from by
          intro w
          have := pref_calls (l.tail.drop (l.tail.takeWhile letL).length) 125 w
          rw [bs_size, bs_size, bs_ext, List.take_length]
          exact this)
        have hlt : l.tail.length ≤ 1000000 := by simp; omega
        rw [hb]
        generalize l.tail.takeWhile letL = n at *
        generalize l.tail = t at *
        have s1 : (bs n).size = n.length := bs_size n
        have s2 : (bs t).size = t.length := bs_size t
        have d1 : (bs n).size ≤ (bs t).size := by omega
        have d1b : ((bs n).size : Int) ≤ ((bs t).size : Int) := by omega
        have hw : IntKind.i64.wrap (((bs n).size : Int) + 2) = ((n.length + 2 : Nat) : Int) := by rw [s1, IntWalk.i64_in _ (by omega)]; omega
        replace s1 := Lib.hid s1
        replace s2 := Lib.hid s2
        clear hb h1 h2 N h3 hle hlt
        by_cases h4 : (t.drop n.length).head? = some 125
        · have hv : ((t.drop n.length).head? == some 125) = true := by simpa using h4
          rw [hv] at P
          rw [if_pos h4]
          clear hv h4
          go_enter Tryd.func11, Tryd.ntmps11
          go_wp2_with (first | (go_at_call 18; with_reducible refine (A.out w).mono ?_; rintro e w1 ⟨rfl, ⟨n1, rfl⟩⟩) | (go_at_call 19; refine (C.out _).mono ?_; rintro e w2 ⟨rfl, ⟨n2, rfl⟩⟩) | (go_at_call 20; refine (M.out _).mono ?_; rintro e w3 ⟨rfl, ⟨n3, rfl⟩⟩) | (go_at_call 18; with_reducible refine (P.out _).mono ?_; rintro e w3 ⟨rfl, ⟨n4, rfl⟩⟩))
          go_ret2
          exact ⟨rfl, by repeat (first | exact Drawn0.refl _ | apply Drawn0.step)⟩
        · have hv : ((t.drop n.length).head? == some 125) = false := by simpa using h4
          rw [hv] at P
          rw [if_neg h4]
          clear hv h4
          go_enter Tryd.func11, Tryd.ntmps11
          go_wp2_with (first | (go_at_call 18; with_reducible refine (A.out w).mono ?_; rintro e w1 ⟨rfl, ⟨n1, rfl⟩⟩) | (go_at_call 19; refine (C.out _).mono ?_; rintro e w2 ⟨rfl, ⟨n2, rfl⟩⟩) | (go_at_call 20; refine (M.out _).mono ?_; rintro e w3 ⟨rfl, ⟨n3, rfl⟩⟩) | (go_at_call 18; with_reducible refine (P.out _).mono ?_; rintro e w3 ⟨rfl, ⟨n4, rfl⟩⟩))
          go_ret2
          exact ⟨by rw [bs_nil]; rfl, by repeat (first | exact Drawn0.refl _ | apply Drawn0.step)⟩
    · have hb : behL l = ((l.takeWhile letL).length, l.takeWhile letL) := by unfold behL; rw [if_neg h1, if_neg h2]
      have C := Lib.hid (cutp_no l 123 h2)
      have s1 : (bs (l.takeWhile letL)).size = (l.takeWhile letL).length := bs_size _
      rw [hb]
      clear hb h1 h2
      go_enter Tryd.func11, Tryd.ntmps11
      go_wp2_with (first | (go_at_call 18; with_reducible refine (A.out w).mono ?_; rintro e w1 ⟨rfl, ⟨n1, rfl⟩⟩) | (go_at_call 19; refine (C.out _).mono ?_; rintro e w2 ⟨rfl, ⟨n2, rfl⟩⟩) | (go_at_call 20; refine (N.out _).mono ?_; rintro e w3 ⟨rfl, ⟨n3, rfl⟩⟩))
      go_ret2
      exact ⟨rfl, by repeat (first | exact Drawn0.refl _ | apply Drawn0.step)⟩
end Go.Proofs.YtgjjkpnfnjpfgaaDoor
