/- The document's functions of layer 14, in plain words: Fits, Check, Num, one, Text, Show; and the sameness of programs. -/
import Derived.Test.YtkjkkebaafmheaaDoorQ
import Derived.Test.YtkjkkebaafmheaaDoorT17
import Derived.Test.YtkjkkebaafmheaaDoorPAllx13
import Derived.Test.YtkjkkebaafmheaaDoorPAllx22
import Derived.Test.YtkjkkebaafmheaaDoorPAllx24
namespace Go.Proofs.YtkjkkebaafmheaaDoor
open Go.RowKit PAll Go.Proofs.YtkjkkebaafmheaaDoorW.PrintWords Go.Proofs.YtkjkkebaafmheaaDoorW.PrintLast Go.Proofs.YtkjkkebaafmheaaDoorW.PrintMore
open Go.Shelf
set_option linter.unusedVariables false
set_option linter.unusedSimpArgs false
theorem rfits (k : Nat) (x : S35) : burinref14_Fits.f (k + 1) x.f0 x.f1 x.f2 x.f3 x.f4 = some (fitsB x) := by
  obtain ⟨op, lo, hi, X, Y⟩ := x
  unfold burinref14_Fits.f burinref14_Fits.j0 fitsB
  dsimp only
  by_cases h1 : op = 1
  · subst h1
    simp [fieldsOf, ownF, fbad, placeB]
    repeat' split
    all_goals first | rfl | (refine congrArg some ?_; rw [Bool.eq_iff_iff]; simp; omega) | (simp; omega)
  by_cases h2 : op = 2
  · subst h2
    simp [fieldsOf, ownF, fbad, placeB]
    repeat' split
    all_goals first | rfl | (refine congrArg some ?_; rw [Bool.eq_iff_iff]; simp; omega) | (simp; omega)
  by_cases h3 : op = 3
  · subst h3
    simp [fieldsOf, ownF, fbad, placeB]
    repeat' split
    all_goals first | rfl | (refine congrArg some ?_; rw [Bool.eq_iff_iff]; simp; omega) | (simp; omega)
  by_cases h4 : op = 4
  · subst h4
    simp [fieldsOf, ownF, fbad, placeB]
    repeat' split
    all_goals first | rfl | (refine congrArg some ?_; rw [Bool.eq_iff_iff]; simp; omega) | (simp; omega)
  by_cases h5 : op = 5
  · subst h5
    simp [fieldsOf, ownF, fbad, placeB]
    repeat' split
    all_goals first | rfl | (refine congrArg some ?_; rw [Bool.eq_iff_iff]; simp; omega) | (simp; omega)
  by_cases h6 : op = 6
  · subst h6
    simp [fieldsOf, ownF, fbad, placeB]
    repeat' split
    all_goals first | rfl | (refine congrArg some ?_; rw [Bool.eq_iff_iff]; simp; omega) | (simp; omega)
  · have : op < 1 ∨ op > 6 := by omega
    rcases this with h | h
    · simp [h, h1, h2, h3, h4, h5, h6]
    · simp [h, h1, h2, h3, h4, h5, h6]
theorem rd_at (l : List S35) (i : Nat) (h : i < l.length) : rd_T35 l (i : Int) = l[i] := by simp [rd_T35, List.getD, List.getElem?_eq_getElem h]
theorem rcheck_loop (l : List S35) (a b : Int) (hl : l.length < 9223372036854775807) : ∀ (n i : Nat) (k : Nat), l.length - i ≤ n → i ≤ l.length → burinref14_Check.l0 (n + k + 2) (i : Int) l a b = some (if ((l.drop i).any fun x => !fitsB x) = true then 130 else 0)
  | 0, i, k, hn, hi => by
    rw [show 0 + k + 2 = (k + 1) + 1 by omega, burinref14_Check.l0, if_neg (by omega), List.drop_eq_nil_of_le (by omega)]
    rfl
  | n + 1, i, k, hn, hi => by
    by_cases h : i < l.length
    · rw [show n + 1 + k + 2 = (n + k + 2) + 1 by omega, burinref14_Check.l0, if_pos (by omega), if_pos (by omega), rd_at l i h]
      rw [show n + k + 2 = (n + k + 1) + 1 by omega, rfits, Option.bind_some]
      rw [List.drop_eq_getElem_cons h, List.any_cons]
      by_cases hf : fitsB l[i] = true
      · rw [if_pos hf, show wrap64 ((i : Int) + 1) = ((i + 1 : Nat) : Int) by unfold wrap64; omega]
        have := rcheck_loop l a b hl n (i + 1) k (by omega) (by omega)
        rw [show n + k + 1 + 1 = n + k + 2 by omega, this, hf]
        simp
      · rw [if_neg hf]
        simp [hf]
    · rw [show n + 1 + k + 2 = (n + 1 + k + 1) + 1 by omega, burinref14_Check.l0, if_neg (by omega), List.drop_eq_nil_of_le (by omega)]
      rfl
theorem rcheck (l : List S35) (a b : Int) (hl : l.length < 9223372036854775807) (k : Nat) : burinref14_Check.f (l.length + k + 3) l a b = some (checkB l a b) := by
  unfold burinref14_Check.f checkB placeB
  have h0 : ∀ t, burinref14_Check.j0 (l.length + k + 3) t l a b = if t = true then some 130 else some (if (l.any fun x => !fitsB x) = true then 130 else 0) := by
    intro t
    rw [show l.length + k + 3 = (l.length + k + 2) + 1 by omega, burinref14_Check.j0]
    have := rcheck_loop l a b hl l.length 0 k (by omega) (by omega)
    rw [show ((0 : Nat) : Int) = 0 from rfl] at this
    rw [this]
    rfl
  simp only [h0]
  by_cases c1 : (l.length : Int) < 1
  · simp [c1]
  by_cases c2 : (l.length : Int) > 4000
  · simp [c1, c2]
  by_cases c3 : a < 0
  · simp [c1, c2, c3, show ¬ 0 ≤ a by omega]
  by_cases c4 : a ≥ 4000
  · simp [c1, c2, c3, c4, show ¬ a < 4000 by omega]
  by_cases c5 : b < 0
  · simp [c1, c2, c3, c4, c5]
  by_cases c6 : b > 64
  · simp [c1, c2, c3, c4, c5, c6]
  · simp [c1, c2, c3, c4, c5, c6, show 0 ≤ a by omega, show a < 4000 by omega]
theorem strOfNums_one (n : Nat) : strOfNums [((n : Int)) % 256] = ⟨#[UInt8.ofNat n]⟩ := by
  apply ByteArray.ext
  simp [strOfNums]
  have : ((n : Int) % 256).toNat = n % 256 := by omega
  rw [this]
  apply UInt8.toNat_inj.1
  simp [UInt8.toNat_ofNat']
theorem rnum (n : Nat) : ∀ (k : Nat), n < 10 ^ (k + 1) → k ≤ 6 → burinref14_Num.f (k + 1) (n : Nat) = some (bs (digN n)) := by
  induction n using Nat.strongRecOn with
  | _ n ih =>
    intro k hk hk6
    have hp : n < 10 ^ 7 := Nat.lt_of_lt_of_le hk (Nat.pow_le_pow_right (by omega) (by omega))
    have e1 : Int.tmod (n : Int) 10 = ((n % 10 : Nat) : Int) := by rw [Int.tmod_eq_emod_of_nonneg (by omega)]; omega
    have e2 : Int.tdiv (n : Int) 10 = ((n / 10 : Nat) : Int) := by rw [Int.tdiv_eq_ediv_of_nonneg (by omega)]; omega
    rw [burinref14_Num.f]
    simp only [Option.bind_some]
    rw [e1, e2, w64 (48 + ((n % 10 : Nat) : Int)) (by omega) (by omega), show (48 : Int) + ((n % 10 : Nat) : Int) = ((48 + n % 10 : Nat) : Int) by omega, strOfNums_one]
    by_cases h : n < 10
    · rw [if_pos (by omega), digN_lt h, show n % 10 = n by omega]; rfl
    · rw [if_neg (by omega), w64 ((n / 10 : Nat) : Int) (by omega) (by omega)]
      match k, hk, hk6 with
      | 0, hk, _ => omega
      | k + 1, hk, hk6 =>
        rw [ih (n / 10) (by omega) k (by rw [Nat.pow_succ] at hk; omega) (by omega)]
        have hd := digN_len (n / 10) 6 (by omega)
        simp only [Option.bind_some]
        rw [if_pos (by
          have e : (⟨#[UInt8.ofNat (48 + n % 10)]⟩ : ByteArray).size = 1 := rfl
          rw [bs_size, e]; omega)]
        rw [show (⟨#[UInt8.ofNat (48 + n % 10)]⟩ : ByteArray) = bs [UInt8.ofNat (48 + n % 10)] from rfl, bs_app, ← digN_ge (by omega)]
theorem rnum4 (n : Nat) (h : n < 10000) (k : Nat) : burinref14_Num.f (k + 4) (n : Nat) = some (bs (digN n)) :=
  at_rounds (g := fun m => burinref14_Num.f m (n : Nat)) (fun m => burinref14_Num.mono (n : Nat) m) (show 4 ≤ k + 4 by omega) (rnum n 3 (by omega) (by omega))
theorem rnumI (y : Int) (h0 : 0 ≤ y) (h1 : y < 10000) (k : Nat) : burinref14_Num.f (k + 4) y = some (bs (digN y.toNat)) := by
  obtain ⟨n, rfl⟩ := Int.eq_ofNat_of_zero_le h0
  exact rnum4 n (by omega) k
theorem blank_bs : (⟨#[32]⟩ : ByteArray) = bs [32] := rfl
theorem feed_bs : (⟨#[10]⟩ : ByteArray) = bs [10] := rfl
theorem rone (x : S35) (h : rawI x) (k : Nat) : burinref14_one.f (k + 4) x.f0 x.f1 x.f2 x.f3 x.f4 = some (bs (instT x)) := by
  have hn := own_nonneg h
  obtain ⟨op, lo, hi, X, Y⟩ := x
  obtain ⟨h1, h2, h3⟩ := h
  dsimp only at h1 h2 h3 hn ⊢
  unfold burinref14_one.f
  obtain rfl | rfl | rfl | rfl | rfl | rfl : op = 1 ∨ op = 2 ∨ op = 3 ∨ op = 4 ∨ op = 5 ∨ op = 6 := by omega
  · have a1 := hn 0 (by omega) rfl
    have a2 := hn 1 (by omega) rfl
    have a3 := hn 2 (by omega) rfl
    simp only [fieldAt] at a1 a2 a3
    have b1 := h2 lo.toNat (by simp [ownNums])
    have b2 := h2 hi.toNat (by simp [ownNums])
    have b3 := h2 X.toNat (by simp [ownNums])
    have c1 := digN_len4 b1
    have c2 := digN_len4 b2
    have c3 := digN_len4 b3
    rw [if_pos rfl, rnumI lo (by omega) (by omega), rnumI hi (by omega) (by omega), rnumI X (by omega) (by omega)]
    simp only [Option.bind_some, blank_bs, feed_bs, show (⟨#[98, 121, 116, 101, 32]⟩ : ByteArray) = bs [98, 121, 116, 101, 32] from rfl, bs_app, bs_size, List.length_append, List.length_cons, List.length_nil]
    repeat rw [if_pos (by omega)]
    congr 2
    simp [instT, lineP, nameL, ownNums]
  · have a3 := hn 2 (by omega) rfl
    have a4 := hn 3 (by omega) rfl
    simp only [fieldAt] at a3 a4
    have b3 := h2 X.toNat (by simp [ownNums])
    have b4 := h2 Y.toNat (by simp [ownNums])
    have c3 := digN_len4 b3
    have c4 := digN_len4 b4
    rw [if_neg (by decide), if_pos rfl, rnumI X (by omega) (by omega), rnumI Y (by omega) (by omega)]
    simp only [Option.bind_some, blank_bs, feed_bs, show (⟨#[115, 112, 108, 105, 116, 32]⟩ : ByteArray) = bs [115, 112, 108, 105, 116, 32] from rfl, bs_app, bs_size, List.length_append, List.length_cons, List.length_nil]
    repeat rw [if_pos (by omega)]
    congr 2
    simp [instT, lineP, nameL, ownNums]
  · have a1 := hn 0 (by omega) rfl
    have a3 := hn 2 (by omega) rfl
    simp only [fieldAt] at a1 a3
    have b1 := h2 lo.toNat (by simp [ownNums])
    have b3 := h2 X.toNat (by simp [ownNums])
    have c1 := digN_len4 b1
    have c3 := digN_len4 b3
    rw [if_neg (by decide), if_neg (by decide), if_pos rfl, rnumI lo (by omega) (by omega), rnumI X (by omega) (by omega)]
    simp only [Option.bind_some, blank_bs, feed_bs, show (⟨#[99, 97, 112, 32]⟩ : ByteArray) = bs [99, 97, 112, 32] from rfl, bs_app, bs_size, List.length_append, List.length_cons, List.length_nil]
    repeat rw [if_pos (by omega)]
    congr 2
    simp [instT, lineP, nameL, ownNums]
  · have a1 := hn 0 (by omega) rfl
    have a3 := hn 2 (by omega) rfl
    simp only [fieldAt] at a1 a3
    have b1 := h2 lo.toNat (by simp [ownNums])
    have b3 := h2 X.toNat (by simp [ownNums])
    have c1 := digN_len4 b1
    have c3 := digN_len4 b3
    rw [if_neg (by decide), if_neg (by decide), if_neg (by decide), if_pos rfl, rnumI lo (by omega) (by omega), rnumI X (by omega) (by omega)]
    simp only [Option.bind_some, blank_bs, feed_bs, show (⟨#[97, 115, 115, 101, 114, 116, 32]⟩ : ByteArray) = bs [97, 115, 115, 101, 114, 116, 32] from rfl, bs_app, bs_size, List.length_append, List.length_cons, List.length_nil]
    repeat rw [if_pos (by omega)]
    congr 2
    simp [instT, lineP, nameL, ownNums]
  · rw [if_neg (by decide), if_neg (by decide), if_neg (by decide), if_neg (by decide), if_pos rfl]
    rfl
  · rw [if_neg (by decide), if_neg (by decide), if_neg (by decide), if_neg (by decide), if_neg (by decide)]
    rfl

theorem rd_eq (l : List S35) (i : Nat) (h : i < l.length) : rd_T35 l (i : Int) = l[i] := by simp [rd_T35, List.getD, List.getElem?_eq_getElem h]
theorem rtext_l (l : List S35) (a b : Int) (hl : l.length ≤ 4002) (hf : ∀ x ∈ l, rawI x) : ∀ (n i : Nat) (k : Nat) (acc : List UInt8), l.length - i ≤ n → i ≤ l.length → acc.length ≤ 1000 + 1000 * i →
    burinref14_Text.l0 (n + k + 5) (bs acc) (i : Nat) l a b = some (bs (acc ++ (l.drop i).flatMap instT))
  | n, i, k, acc, hn, hi, ha => by
    by_cases h : i < l.length
    · match n, hn with
      | 0, hn => omega
      | n + 1, hn =>
        rw [show n + 1 + k + 5 = (n + k + 5) + 1 by omega, burinref14_Text.l0, if_pos (by omega), if_pos (by omega), rd_eq l i h]
        have hx := hf l[i] (List.getElem_mem h)
        have hil := inst_len hx
        rw [show n + k + 5 = (n + k + 1) + 4 by omega, rone _ hx]
        simp only [Option.bind_some]
        rw [if_pos (by simp only [bs_size]; omega), bs_app, w64 ((i : Int) + 1) (by omega) (by omega), show ((i : Int) + 1) = ((i + 1 : Nat) : Int) by omega]
        have ih := rtext_l l a b hl hf n (i + 1) k (acc ++ instT l[i]) (by omega) h (by rw [List.length_append]; omega)
        rw [show n + k + 1 + 4 = n + k + 5 by omega, ih, List.drop_eq_getElem_cons h, List.flatMap_cons, List.append_assoc]
    · rw [burinref14_Text.l0, if_neg (by omega), List.drop_eq_nil_of_le (by omega)]
      simp
theorem rtext (l : List S35) (a b : Int) (h : checkB l a b = 0) (k : Nat) : burinref14_Text.f (l.length + k + 5) l a b = some (bs (progT l a b)) := by
  obtain ⟨c1, c2, c3, c4⟩ := check_ok h
  have ha := digN_len4 (n := a.toNat) (by omega)
  have hb := digN_len4 (n := b.toNat) (by omega)
  unfold burinref14_Text.f
  rw [show l.length + k + 5 = (l.length + k + 1) + 4 by omega, rnumI a (by omega) (by omega), rnumI b (by omega) (by omega)]
  simp only [Option.bind_some, blank_bs, feed_bs, show (⟨#[112, 114, 111, 103, 114, 97, 109, 32]⟩ : ByteArray) = bs [112, 114, 111, 103, 114, 97, 109, 32] from rfl, bs_app, bs_size, List.length_append, List.length_cons, List.length_nil]
  repeat rw [if_pos (by omega)]
  have e : ([112, 114, 111, 103, 114, 97, 109, 32] ++ digN a.toNat ++ [32] ++ digN b.toNat ++ [10] : List UInt8) = headT a b := by simp [headT, lineP]
  rw [e]
  have hh := head_len a.toNat b.toNat (by omega) (by omega)
  have e2 : headT ((a.toNat : Nat) : Int) ((b.toNat : Nat) : Int) = headT a b := by unfold headT; rw [Int.toNat_natCast, Int.toNat_natCast]
  rw [e2] at hh
  have := rtext_l l a b (by omega) (fun x hx => fits_raw (c4 x hx)) l.length 0 k (headT a b) (by omega) (by omega) (by omega)
  rw [show l.length + k + 1 + 4 = l.length + k + 5 by omega]
  exact this
theorem rcheck_calls (A : Option Addr) (c : Nat) (l : List S35) (a b : Int) (w : World) (h : Kd.C k35 w A l.length l) (hc : l.length ≤ c) :
    Calls Tryd.prog 17 #[.agg #[.slice A l.length c, .int .i64 a, .int .i64 b]] w fun e w' => e = .returned (.int .i64 (checkB l a b)) ∧ Kp [] w w' := by
  by_cases hl : (l.length : Int) > 4000
  · have hch : checkB l a b = 130 := by
      unfold checkB
      rw [if_neg (by omega), if_pos hl]
    rw [hch]
    refine (burinref14_Check.calls 5 A c l a b _ w h hc ?_).mono fun e w' ⟨he, hb⟩ => ⟨he, Kp.ofBelow hb⟩
    unfold burinref14_Check.f
    simp [show ¬ (l.length : Int) < 1 by omega, show (l.length : Int) > 4000 by omega]
    all_goals rfl
  · exact (burinref14_Check.calls _ A c l a b _ w h hc (rcheck l a b (by omega) 0)).mono fun e w' ⟨he, hb⟩ => ⟨he, Kp.ofBelow hb⟩
theorem rtext_calls (A : Option Addr) (c : Nat) (l : List S35) (a b : Int) (w : World) (h : Kd.C k35 w A l.length l) (hc : l.length ≤ c) (hk : checkB l a b = 0) :
    Calls Tryd.prog 24 #[.agg #[.slice A l.length c, .int .i64 a, .int .i64 b]] w fun e w' => e = .returned (.string (bs (progT l a b))) ∧ Kp [] w w' :=
  (burinref14_Text.calls _ A c l a b _ w h hc (rtext l a b hk 0)).mono fun e w' ⟨he, hb⟩ => ⟨he, Kp.ofBelow hb⟩
theorem rshow_calls (A : Option Addr) (c : Nat) (l : List S35) (a b : Int) (w : World) (h : Kd.C k35 w A l.length l) (hc : l.length ≤ c) (hl : l.length ≤ 1000000) :
    Calls Tryd.prog 9 #[.agg #[.slice A l.length c, .int .i64 a, .int .i64 b]] w fun e w' => e = .returned (.tuple #[.string (bs (showL l a b).1), .int .i64 (showL l a b).2]) ∧ Kp [] w w' := by
  refine (burinref14_Show.calls (l.length + 5) A c l a b _ _ w h hc ?_).mono fun e w' ⟨he, hb⟩ => ⟨he, Kp.ofBelow hb⟩
  unfold burinref14_Show.f showL
  have hch := rcheck l a b (by omega) 2
  rw [show l.length + 2 + 3 = l.length + 5 by omega] at hch
  rw [hch]
  simp only [Option.bind_some]
  rcases check_val l a b with hv | hv
  · rw [if_pos hv, if_pos hv]
    have := rtext l a b hv 0
    rw [show l.length + 0 + 5 = l.length + 5 by omega] at this
    rw [this]
    rfl
  · rw [hv]
    rfl
theorem rfits_calls (x : S35) (w : World) : Calls Tryd.prog 16 #[.agg #[.int .i64 x.f0, .int .i64 x.f1, .int .i64 x.f2, .int .i64 x.f3, .int .i64 x.f4]] w fun e w' => e = .returned (.bool (fitsB x)) ∧ Kp [] w w' :=
  (burinref14_Fits.calls 1 x.f0 x.f1 x.f2 x.f3 x.f4 _ w (rfits 0 x)).mono fun e w' ⟨he, hb⟩ => ⟨he, Kp.ofBelow hb⟩
/-- Are two instructions the same? -/
def eqI (x y : S35) : Bool := x.f0 == y.f0 && (x.f1 == y.f1 && (x.f2 == y.f2 && (x.f3 == y.f3 && (x.f4 == y.f4))))
def eqL : List S35 → List S35 → Bool
  | x :: l, y :: m => eqI x y && eqL l m
  | _, _ => true
theorem same_l (l m : List S35) (hl : l.length ≤ 1000000) (he : l.length = m.length) : ∀ (n i k : Nat), l.length - i ≤ n → i ≤ l.length → ∀ t : Bool, burinbook_SameInsts.l0 (n + k + 2) l m t (i : Nat) = some (t && eqL (l.drop i) (m.drop i))
  | n, i, k, hn, hi, t => by
    cases t with
    | false => rw [burinbook_SameInsts.l0, if_neg (by decide)]; rfl
    | true =>
      by_cases h : i < l.length
      · match n, hn with
        | 0, hn => omega
        | n + 1, hn =>
          rw [show n + 1 + k + 2 = (n + k + 2) + 1 by omega, burinbook_SameInsts.l0, if_pos rfl, if_pos (by omega), if_pos (by omega), if_pos (by omega), rd_eq l i h, rd_eq m i (by omega)]
          rw [w64 ((i : Int) + 1) (by omega) (by omega), show ((i : Int) + 1) = ((i + 1 : Nat) : Int) by omega, same_l l m hl he n (i + 1) k (by omega) h, List.drop_eq_getElem_cons h, List.drop_eq_getElem_cons (show i < m.length by omega)]
          simp only [eqL, eqI, Bool.true_and]
      · rw [burinbook_SameInsts.l0, if_pos rfl, if_neg (by omega), List.drop_eq_nil_of_le (by omega), List.drop_eq_nil_of_le (by omega)]
        rfl
theorem eq_l (l m : List S35) (hl : l.length ≤ 1000000) (he : l.length = m.length) : ∀ (n i k : Nat), l.length - i ≤ n → i ≤ l.length → api_Inst_36.l0 (n + k + 2) l m (l.length : Nat) (i : Nat) = some (eqL (l.drop i) (m.drop i))
  | n, i, k, hn, hi => by
    by_cases h : i < l.length
    · match n, hn with
      | 0, hn => omega
      | n + 1, hn =>
        rw [show n + 1 + k + 2 = (n + k + 2) + 1 by omega, api_Inst_36.l0, if_pos (by omega), if_pos (by omega), if_pos (by omega), if_pos (by omega), rd_eq l i h, rd_eq m i (by omega)]
        rw [w64 ((i : Int) + 1) (by omega) (by omega), show ((i : Int) + 1) = ((i + 1 : Nat) : Int) by omega, eq_l l m hl he n (i + 1) k (by omega) h, List.drop_eq_getElem_cons h, List.drop_eq_getElem_cons (show i < m.length by omega)]
        simp only [eqL]
        have e : (!(l[i].f0 == m[i].f0) || (!(l[i].f1 == m[i].f1) || (!(l[i].f2 == m[i].f2) || (!(l[i].f3 == m[i].f3) || !(l[i].f4 == m[i].f4))))) = !eqI l[i] m[i] := by
          simp only [eqI, Bool.not_and]
        rw [e]
        cases eqI l[i] m[i] with
        | true => rw [if_neg (by decide)]; rfl
        | false => rw [if_pos (by decide)]; rfl
    · rw [api_Inst_36.l0, if_neg (by omega), List.drop_eq_nil_of_le (by omega), List.drop_eq_nil_of_le (by omega)]
      rfl
/-- Are two programs the same? -/
def sameP (l : List S35) (a b : Int) (m : List S35) (c d : Int) : Bool := decide (a = c) && (decide (b = d) && (decide (l.length = m.length) && eqL l m))
theorem rsame_calls (A B : Option Addr) (ca cb : Nat) (l m : List S35) (a b c d : Int) (hl : l.length ≤ 1000000 ∨ l.length ≠ m.length) (hc : l.length ≤ ca) (hd : m.length ≤ cb) (W : World) (h : Kd.C k35 W A l.length l) (h' : Kd.C k35 W B m.length m) :
    Calls Tryd.prog 12 #[.agg #[.slice A l.length ca, .int .i64 a, .int .i64 b], .agg #[.slice B m.length cb, .int .i64 c, .int .i64 d]] W fun e w' => e = .returned (.bool (sameP l a b m c d)) ∧ Kp [] W w' := by
  refine (burinbook_SameProg.calls (l.length + 5) A ca l a b B cb m c d _ W h hc h' hd ?_).mono fun e w' ⟨he, hb⟩ => ⟨he, Kp.ofBelow hb⟩
  unfold burinbook_SameProg.f burinbook_SameInsts.f sameP
  by_cases h1 : a = c
  · rw [if_pos h1, decide_eq_true h1]
    by_cases h2 : b = d
    · rw [if_pos h2, decide_eq_true h2]
      by_cases h3 : l.length = m.length
      · have hl' : l.length ≤ 1000000 := hl.resolve_right (fun h => h h3)
        have e := same_l l m hl' h3 l.length 0 3 (by omega) (by omega) true
        have e1 : ((l.length : Int) == (m.length : Int)) = true := by simp [h3]
        rw [e1, show l.length + 5 = l.length + 3 + 2 by omega, decide_eq_true h3]
        rw [show ((0 : Nat) : Int) = 0 from rfl] at e
        rw [e]
        rfl
      · have e1 : ((l.length : Int) == (m.length : Int)) = false := by simp; omega
        rw [e1, decide_eq_false h3, show l.length + 5 = (l.length + 4) + 1 by omega, burinbook_SameInsts.l0, if_neg (by decide)]
        rfl
    · rw [if_neg h2, decide_eq_false h2]; rfl
  · rw [if_neg h1, decide_eq_false h1]; rfl
theorem same_calls (A B : Option Addr) (ca cb : Nat) (l m : List S35) (a b c d : Int) (hl : l.length ≤ 1000000 ∨ l.length ≠ m.length) (hc : l.length ≤ ca) (hd : m.length ≤ cb) (W : World) (h : Kd.C k35 W A l.length l) (h' : Kd.C k35 W B m.length m) :
    Calls Tryd.prog 18 #[.agg #[.slice A l.length ca, .int .i64 a, .int .i64 b], .agg #[.slice B m.length cb, .int .i64 c, .int .i64 d]] W fun e w' => e = .returned (.bool (sameP l a b m c d)) ∧ Kp [] W w' := by
  refine (prog_Same.calls (l.length + 5) A ca l a b B cb m c d _ W h hc h' hd ?_).mono fun e w' ⟨he, hb⟩ => ⟨he, Kp.ofBelow hb⟩
  unfold prog_Same.f api_Inst_36.f sameP
  by_cases h1 : a = c
  · by_cases h2 : b = d
    · rw [if_pos (by simp [h1, h2]), decide_eq_true h1, decide_eq_true h2]
      by_cases h3 : l.length = m.length
      · have hl' : l.length ≤ 1000000 := hl.resolve_right (fun h => h h3)
        have e := eq_l l m hl' h3 l.length 0 3 (by omega) (by omega)
        rw [show ((0 : Nat) : Int) = 0 from rfl] at e
        rw [if_pos (by omega), show l.length + 5 = l.length + 3 + 2 by omega, e, decide_eq_true h3]
        rfl
      · rw [if_neg (by omega), decide_eq_false h3]; rfl
    · rw [if_neg (by simp [h2]), decide_eq_false h2, decide_eq_true h1]; rfl
  · rw [if_neg (by simp [h1]), decide_eq_false h1]; rfl
theorem eqI_refl (x : S35) : eqI x x = true := by simp [eqI]
theorem eqL_refl : ∀ l : List S35, eqL l l = true
  | [] => rfl
  | x :: l => by rw [eqL, eqI_refl, eqL_refl l]; rfl
theorem sameP_refl (l : List S35) (a b : Int) : sameP l a b l a b = true := by simp [sameP, eqL_refl]
end Go.Proofs.YtkjkkebaafmheaaDoor
