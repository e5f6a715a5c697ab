/- The document's answer for wire, in plain words: its functions compute the same. -/
import Derived.Test.YtkjkkebaafmheaaK
import Derived.Test.YtkjkkebaafmheaaT16
import Derived.Test.YtkjkkebaafmheaaPWireCodesx17
namespace Go.Proofs.Ytkjkkebaafmheaa
open Go.RowKit PWireCodes Go.Proofs.YtkjkkebaafmheaaW.PrintWords Go.Proofs.YtkjkkebaafmheaaW.PrintLast Go.Proofs.YtkjkkebaafmheaaW.PrintMore
open Go.Shelf
set_option linter.unusedVariables false
set_option linter.unusedSimpArgs false
theorem rfits (k : Nat) (x : S40) : burinref14_Fits.f (k + 1) x.f0 x.f1 x.f2 x.f3 x.f4 = some (fitsB x) := by
  obtain ⟨op, lo, hi, X, Y⟩ := x
  unfold burinref14_Fits.f burinref14_Fits.j0 fitsB
  dsimp only
  by_cases h1 : op = 1
  · subst h1
    simp [fieldsOf, ownF, fbad, placeB]
    repeat' split
    all_goals first | rfl | (refine congrArg some ?_; rw [Bool.eq_iff_iff]; simp; omega) | (simp; omega)
  by_cases h2 : op = 2
  · subst h2
    simp [fieldsOf, ownF, fbad, placeB]
    repeat' split
    all_goals first | rfl | (refine congrArg some ?_; rw [Bool.eq_iff_iff]; simp; omega) | (simp; omega)
  by_cases h3 : op = 3
  · subst h3
    simp [fieldsOf, ownF, fbad, placeB]
    repeat' split
    all_goals first | rfl | (refine congrArg some ?_; rw [Bool.eq_iff_iff]; simp; omega) | (simp; omega)
  by_cases h4 : op = 4
  · subst h4
    simp [fieldsOf, ownF, fbad, placeB]
    repeat' split
    all_goals first | rfl | (refine congrArg some ?_; rw [Bool.eq_iff_iff]; simp; omega) | (simp; omega)
  by_cases h5 : op = 5
  · subst h5
    simp [fieldsOf, ownF, fbad, placeB]
    repeat' split
    all_goals first | rfl | (refine congrArg some ?_; rw [Bool.eq_iff_iff]; simp; omega) | (simp; omega)
  by_cases h6 : op = 6
  · subst h6
    simp [fieldsOf, ownF, fbad, placeB]
    repeat' split
    all_goals first | rfl | (refine congrArg some ?_; rw [Bool.eq_iff_iff]; simp; omega) | (simp; omega)
  · have : op < 1 ∨ op > 6 := by omega
    rcases this with h | h
    · simp [h, h1, h2, h3, h4, h5, h6]
    · simp [h, h1, h2, h3, h4, h5, h6]
theorem rd_at (l : List S40) (i : Nat) (h : i < l.length) : rd_T40 l (i : Int) = l[i] := by simp [rd_T40, List.getD, List.getElem?_eq_getElem h]
theorem rcheck_loop (l : List S40) (a b : Int) (hl : l.length < 9223372036854775807) : ∀ (n i : Nat) (k : Nat), l.length - i ≤ n → i ≤ l.length → burinref14_Check.l0 (n + k + 2) (i : Int) l a b = some (if ((l.drop i).any fun x => !fitsB x) = true then 130 else 0)
  | 0, i, k, hn, hi => by
    rw [show 0 + k + 2 = (k + 1) + 1 by omega, burinref14_Check.l0, if_neg (by omega), List.drop_eq_nil_of_le (by omega)]
    rfl
  | n + 1, i, k, hn, hi => by
    by_cases h : i < l.length
    · rw [show n + 1 + k + 2 = (n + k + 2) + 1 by omega, burinref14_Check.l0, if_pos (by omega), if_pos (by omega), rd_at l i h]
      rw [show n + k + 2 = (n + k + 1) + 1 by omega, rfits, Option.bind_some]
      rw [List.drop_eq_getElem_cons h, List.any_cons]
      by_cases hf : fitsB l[i] = true
      · rw [if_pos hf, show wrap64 ((i : Int) + 1) = ((i + 1 : Nat) : Int) by unfold wrap64; omega]
        have := rcheck_loop l a b hl n (i + 1) k (by omega) (by omega)
        rw [show n + k + 1 + 1 = n + k + 2 by omega, this, hf]
        simp
      · rw [if_neg hf]
        simp [hf]
    · rw [show n + 1 + k + 2 = (n + 1 + k + 1) + 1 by omega, burinref14_Check.l0, if_neg (by omega), List.drop_eq_nil_of_le (by omega)]
      rfl
theorem rcheck (l : List S40) (a b : Int) (hl : l.length < 9223372036854775807) (k : Nat) : burinref14_Check.f (l.length + k + 3) l a b = some (checkB l a b) := by
  unfold burinref14_Check.f checkB placeB
  have h0 : ∀ t, burinref14_Check.j0 (l.length + k + 3) t l a b = if t = true then some 130 else some (if (l.any fun x => !fitsB x) = true then 130 else 0) := by
    intro t
    rw [show l.length + k + 3 = (l.length + k + 2) + 1 by omega, burinref14_Check.j0]
    have := rcheck_loop l a b hl l.length 0 k (by omega) (by omega)
    rw [show ((0 : Nat) : Int) = 0 from rfl] at this
    rw [this]
    rfl
  simp only [h0]
  by_cases c1 : (l.length : Int) < 1
  · simp [c1]
  by_cases c2 : (l.length : Int) > 4000
  · simp [c1, c2]
  by_cases c3 : a < 0
  · simp [c1, c2, c3, show ¬ 0 ≤ a by omega]
  by_cases c4 : a ≥ 4000
  · simp [c1, c2, c3, c4, show ¬ a < 4000 by omega]
  by_cases c5 : b < 0
  · simp [c1, c2, c3, c4, c5]
  by_cases c6 : b > 64
  · simp [c1, c2, c3, c4, c5, c6]
  · simp [c1, c2, c3, c4, c5, c6, show 0 ≤ a by omega, show a < 4000 by omega]
theorem strOfNums_one (n : Nat) : strOfNums [((n : Int)) % 256] = ⟨#[UInt8.ofNat n]⟩ := by
  apply ByteArray.ext
  simp [strOfNums]
  have : ((n : Int) % 256).toNat = n % 256 := by omega
  rw [this]
  apply UInt8.toNat_inj.1
  simp [UInt8.toNat_ofNat']
theorem rnum (n : Nat) (h : n < 2097152) (k : Nat) : burinref15_Num.f (k + 3) n = some ⟨(num n).toArray⟩ := by
  unfold num
  by_cases h1 : n < 128
  · rw [burinref15_Num.f, if_pos (by omega), if_pos h1]
    rw [strOfNums_one]
  rw [if_neg h1, burinref15_Num.f, if_neg (by omega), Option.bind_some]
  have e1 : wrap64 (128 + Int.tmod (n : Int) 128) = ((n % 128 + 128 : Nat) : Int) := by
    rw [Int.tmod_eq_emod_of_nonneg (by omega)]; unfold wrap64; omega
  have e2 : wrap64 (Int.tdiv (n : Int) 128) = ((n / 128 : Nat) : Int) := by
    rw [Int.tdiv_eq_ediv_of_nonneg (by omega)]; unfold wrap64; omega
  rw [e1, e2, strOfNums_one]
  by_cases h2 : n < 16384
  · rw [if_pos h2, burinref15_Num.f, if_pos (by omega), Option.bind_some, strOfNums_one, if_pos (by simp [ByteArray.size])]
    rfl
  rw [if_neg h2, burinref15_Num.f, if_neg (by omega), Option.bind_some]
  have e3 : wrap64 (128 + Int.tmod ((n / 128 : Nat) : Int) 128) = ((n / 128 % 128 + 128 : Nat) : Int) := by
    rw [Int.tmod_eq_emod_of_nonneg (by omega)]; unfold wrap64; omega
  have e4 : wrap64 (Int.tdiv ((n / 128 : Nat) : Int) 128) = ((n / 16384 : Nat) : Int) := by
    rw [Int.tdiv_eq_ediv_of_nonneg (by omega)]; unfold wrap64; omega
  rw [e3, e4, strOfNums_one, burinref15_Num.f, if_pos (by omega), Option.bind_some, strOfNums_one, if_pos (by simp [ByteArray.size]), Option.bind_some, if_pos (by simp [ByteArray.size])]
  rfl
theorem rnumI (y : Int) (h0 : 0 ≤ y) (h1 : y < 2097152) (k : Nat) : burinref15_Num.f (k + 3) y = some ⟨(num y.toNat).toArray⟩ := by
  obtain ⟨n, rfl⟩ := Int.eq_ofNat_of_zero_le h0
  exact rnum n (by omega) k
theorem szB (l : List UInt8) : (⟨l.toArray⟩ : ByteArray).size = l.length := by simp [ByteArray.size]
theorem appB (a b : List UInt8) : (⟨a.toArray⟩ : ByteArray) ++ ⟨b.toArray⟩ = ⟨(a ++ b).toArray⟩ := by apply ByteArray.ext; simp
theorem rone (x : S40) (h : fitsB x = true) (k : Nat) : burinref15_one.f (k + 4) x.f0 x.f1 x.f2 x.f3 x.f4 = some ⟨(oneL x).toArray⟩ := by
  obtain ⟨⟨o1, o6⟩, r1, r2, r3, r4⟩ := fits_range h
  obtain ⟨op, lo, hi, X, Y⟩ := x
  dsimp only at *
  have n1 := (num_len lo.toNat).2; have n2 := (num_len hi.toNat).2; have n3 := (num_len X.toNat).2; have n4 := (num_len Y.toNat).2
  have hop : strOfNums [op % 256] = ⟨[UInt8.ofNat op.toNat].toArray⟩ := by
    obtain ⟨n, rfl⟩ := Int.eq_ofNat_of_zero_le (show 0 ≤ op by omega)
    exact strOfNums_one n
  unfold burinref15_one.f
  rw [Option.bind_some, hop]
  by_cases h1 : op = 1
  · subst h1
    rw [if_pos rfl, rnumI lo (r1 rfl).1 (r1 rfl).2, Option.bind_some, if_pos (by simp only [szB, List.length_cons, List.length_nil]; omega), appB, rnumI hi (r2 rfl).1 (r2 rfl).2, Option.bind_some, if_pos (by simp only [szB, List.length_cons, List.length_nil, List.length_append]; omega), appB,
      rnumI X (r3 rfl).1 (r3 rfl).2, Option.bind_some, if_pos (by simp only [szB, List.length_cons, List.length_nil, List.length_append]; omega), appB]
    simp [oneL, ownF]
  rw [if_neg h1]
  by_cases h2 : op = 2
  · subst h2
    rw [if_pos rfl, rnumI X (r3 rfl).1 (r3 rfl).2, Option.bind_some, if_pos (by simp only [szB, List.length_cons, List.length_nil]; omega), appB, rnumI Y (r4 rfl).1 (r4 rfl).2, Option.bind_some, if_pos (by simp only [szB, List.length_cons, List.length_nil, List.length_append]; omega), appB]
    simp [oneL, ownF]
  rw [if_neg h2]
  have key : ∀ t : Bool, (t = true → (ownF op) = (true, false, true, false)) → burinref15_one.j0 (k + 4) ⟨[UInt8.ofNat op.toNat].toArray⟩ t op lo hi X Y = if t = true then some ⟨(UInt8.ofNat op.toNat :: (num lo.toNat ++ num X.toNat)).toArray⟩ else some ⟨[UInt8.ofNat op.toNat].toArray⟩ := by
    intro t ht
    cases t with
    | false => rw [burinref15_one.j0]; simp
    | true =>
      have hF := ht rfl
      rw [hF] at r1 r3
      rw [burinref15_one.j0, if_pos rfl, if_pos rfl, rnumI lo (r1 rfl).1 (r1 rfl).2, Option.bind_some, if_pos (by simp only [szB, List.length_cons, List.length_nil]; omega), appB, rnumI X (r3 rfl).1 (r3 rfl).2, Option.bind_some, if_pos (by simp only [szB, List.length_cons, List.length_nil, List.length_append]; omega), appB]
      simp
  by_cases h3 : op = 3
  · subst h3
    rw [if_pos rfl, key _ (fun _ => rfl), if_pos (by decide)]
    simp [oneL, ownF]
  rw [if_neg h3]
  by_cases h4 : op = 4
  · subst h4
    rw [key _ (fun _ => rfl), if_pos (by decide)]
    simp [oneL, ownF]
  · rw [key _ (fun e => absurd (by simpa using e) h4), if_neg (by simpa using h4)]
    simp [oneL, ownF, h1, h2, h3, h4]
theorem rw_l1 (l : List UInt8) (hl : l.length < 1000000000) : ∀ (n i : Nat) (k : Nat) (acc : UInt8), l.length - i ≤ n → i ≤ l.length →
    burinref15_Written.l1 (n + k + 1) ⟨l.toArray⟩ (acc.toNat : Int) (i : Int) = some ⟨(l ++ [(l.drop i).foldl (· ^^^ ·) acc]).toArray⟩
  | 0, i, k, acc, hn, hi => by
    have ha : (strOfNums [(acc.toNat : Int)]) = ⟨[acc].toArray⟩ := by
      have := strOfNums_one acc.toNat
      rw [UInt8.ofNat_toNat] at this
      have h2 := UInt8.toNat_lt acc
      rw [show ((acc.toNat : Int)) % 256 = (acc.toNat : Int) by omega] at this
      exact this
    rw [burinref15_Written.l1, if_neg (by rw [szB]; omega), Option.bind_some, ha, if_pos (by simp only [szB, List.length_cons, List.length_nil]; omega), appB]
    rw [List.drop_eq_nil_of_le (by omega)]
    rfl
  | n + 1, i, k, acc, hn, hi => by
    by_cases h : i < l.length
    · rw [show n + 1 + k + 1 = (n + k + 1) + 1 by omega, burinref15_Written.l1, if_pos (by rw [szB]; omega), if_pos (by omega)]
      have hb : bt ⟨l.toArray⟩ (i : Int) = ((l[i]).toNat : Int) := by
        have := bt_at ⟨l.toArray⟩ (i : Int) (by simp [ByteArray.size]; omega)
        rw [← this]
        rfl
      rw [hb, u8_xor_nat _ _ (UInt8.toNat_lt _) (UInt8.toNat_lt _), ← UInt8.toNat_xor]
      rw [show wrap64 ((i : Int) + 1) = ((i + 1 : Nat) : Int) by unfold wrap64; omega]
      rw [rw_l1 l hl n (i + 1) k _ (by omega) (by omega), List.drop_eq_getElem_cons h]
      rfl
    · have ha : (strOfNums [(acc.toNat : Int)]) = ⟨[acc].toArray⟩ := by
        have := strOfNums_one acc.toNat
        rw [UInt8.ofNat_toNat] at this
        have h2 := UInt8.toNat_lt acc
        rw [show ((acc.toNat : Int)) % 256 = (acc.toNat : Int) by omega] at this
        exact this
      rw [show n + 1 + k + 1 = (n + 1 + k) + 1 by omega, burinref15_Written.l1, if_neg (by rw [szB]; omega), Option.bind_some, ha, if_pos (by simp only [szB, List.length_cons, List.length_nil]; omega), appB]
      rw [List.drop_eq_nil_of_le (by omega)]
      rfl
theorem oneL_le (x : S40) : (oneL x).length ≤ 13 := by
  unfold oneL
  have h (t : Bool) (n : Nat) : (if t then num n else []).length ≤ 3 := by have := (num_len n).2; split; exact this; simp
  have h1 := h (ownF x.f0).1 x.f1.toNat
  have h2 := h (ownF x.f0).2.1 x.f2.toNat
  have h3 := h (ownF x.f0).2.2.1 x.f3.toNat
  have h4 := h (ownF x.f0).2.2.2 x.f4.toNat
  simp only [List.length_cons, List.length_append]
  omega
theorem rw_l0 (l : List S40) (a b : Int) (hl : l.length ≤ 4000) (hf : ∀ x ∈ l, fitsB x = true) : ∀ (n i : Nat) (k : Nat) (acc : List UInt8), l.length - i ≤ n → i ≤ l.length → acc.length + 13 * (l.length - i) ≤ 100000 →
    burinref15_Written.l0 (n + k + 100010) ⟨acc.toArray⟩ (i : Int) l a b = some ⟨(acc ++ (l.drop i).flatMap oneL ++ [xorL (acc ++ (l.drop i).flatMap oneL)]).toArray⟩
  | 0, i, k, acc, hn, hi, hb => by
    rw [show 0 + k + 100010 = (k + 100009) + 1 by omega, burinref15_Written.l0, if_neg (by omega)]
    have := rw_l1 acc (by omega) acc.length 0 (k + 100008 - acc.length) 0 (by omega) (by omega)
    rw [show acc.length + (k + 100008 - acc.length) + 1 = k + 100009 by omega] at this
    rw [List.drop_eq_nil_of_le (by omega)]
    simp only [List.flatMap_nil, List.append_nil]
    exact this
  | n + 1, i, k, acc, hn, hi, hb => by
    by_cases h : i < l.length
    · rw [show n + 1 + k + 100010 = (n + k + 100010) + 1 by omega, burinref15_Written.l0, if_pos (by omega), if_pos (by omega), rd_at l i h]
      have ho := oneL_le l[i]
      rw [show n + k + 100010 = (n + k + 100006) + 4 by omega, rone l[i] (hf _ (List.getElem_mem h)), Option.bind_some, if_pos (by simp only [szB]; omega), appB]
      rw [show wrap64 ((i : Int) + 1) = ((i + 1 : Nat) : Int) by unfold wrap64; omega]
      rw [show n + k + 100006 + 4 = n + k + 100010 by omega, rw_l0 l a b hl hf n (i + 1) k _ (by omega) (by omega) (by simp only [List.length_append]; omega), List.drop_eq_getElem_cons h, List.flatMap_cons]
      simp only [List.append_assoc]
    · rw [show n + 1 + k + 100010 = (n + k + 100010) + 1 by omega, burinref15_Written.l0, if_neg (by omega)]
      have := rw_l1 acc (by omega) acc.length 0 (n + k + 100009 - acc.length) 0 (by omega) (by omega)
      rw [show acc.length + (n + k + 100009 - acc.length) + 1 = n + k + 100010 by omega] at this
      rw [List.drop_eq_nil_of_le (by omega)]
      simp only [List.flatMap_nil, List.append_nil]
      exact this
theorem rwritten (l : List S40) (a b : Int) (h : checkB l a b = 0) (k : Nat) : burinref15_Written.f (l.length + k + 100010) l a b = some ⟨(writtenL l a b).toArray⟩ := by
  obtain ⟨h1, h2, h3, h4, h5, h6, h7⟩ := check_zero h
  have n1 := (num_len a.toNat).2; have n2 := (num_len b.toNat).2; have n3 := (num_len l.length).2
  unfold burinref15_Written.f
  have hm : (⟨#[66, 82, 49]⟩ : ByteArray) = ⟨[66, 82, 49].toArray⟩ := rfl
  rw [show l.length + k + 100010 = (l.length + k + 100007) + 3 by omega, rnumI a h3 (by omega), Option.bind_some, if_pos (by simp only [szB]; omega), rnumI b h5 (by omega), Option.bind_some, hm, appB,
    if_pos (by simp only [szB, List.length_append, List.length_cons, List.length_nil]; omega), rnum l.length (by omega), Option.bind_some, appB, if_pos (by simp only [szB, List.length_append, List.length_cons, List.length_nil]; omega), appB]
  rw [show l.length + k + 100007 + 3 = l.length + k + 100010 by omega]
  have := rw_l0 l a b h2 h7 l.length 0 k ([66, 82, 49] ++ num a.toNat ++ num b.toNat ++ num l.length) (by omega) (by omega) (by simp only [List.length_append, List.length_cons, List.length_nil]; omega)
  rw [show ((0 : Nat) : Int) = 0 from rfl] at this
  rw [this]
  rfl
def getZ (s : List UInt8) (at_ : Int) : Int × Int :=
  if at_ < 0 then (0, -1) else
  match s.drop at_.toNat with
  | [] => (0, -1)
  | c1 :: t1 => if c1.toNat < 128 then ((c1.toNat : Int), at_ + 1) else
    match t1 with
    | [] => (0, -1)
    | c2 :: t2 => if c2.toNat < 128 then (((c1.toNat % 128 + c2.toNat * 128 : Nat) : Int), at_ + 2) else
      match t2 with
      | [] => (0, -1)
      | c3 :: _ => if c3.toNat < 128 then (((c1.toNat % 128 + c2.toNat % 128 * 128 + c3.toNat * 16384 : Nat) : Int), at_ + 3) else (0, -1)
theorem wrap_in (x : Int) (h0 : -9223372036854775808 ≤ x) (h1 : x < 9223372036854775808) : wrap64 x = x := by unfold wrap64; omega
theorem sum_in (n z : Nat) (h : n ≤ 4000000) (h2 : z ≤ 2080768) : wrap64 ((n : Int) + (z : Int)) = ((n + z : Nat) : Int) := by unfold wrap64; omega
theorem nat_in (z : Nat) (h2 : z ≤ 2080768) : wrap64 (z : Int) = (z : Int) := by unfold wrap64; omega
theorem w_add (p r : Nat) (h : p + r < 4000000000) : wrap64 ((p : Int) + (r : Int)) = ((p + r : Nat) : Int) := by unfold wrap64; omega
theorem w_succ (p : Nat) (h : p < 4000000000) : wrap64 ((p : Int) + 1) = ((p + 1 : Nat) : Int) := by unfold wrap64; omega
theorem w_mul (b : Nat) (h : b ≤ 16384) : wrap64 ((b : Int) * 128) = ((b * 128 : Nat) : Int) := by unfold wrap64; omega
theorem c_in (c : UInt8) : wrap64 (c.toNat : Int) = (c.toNat : Int) := by have := UInt8.toNat_lt c; unfold wrap64; omega
theorem c_le (c : UInt8) (b : Nat) (hb : b ≤ 16384) : c.toNat % 128 * b ≤ 2080768 := Nat.le_trans (Nat.mul_le_mul (show c.toNat % 128 ≤ 127 by omega) hb) (by decide)
theorem c_mul (c : UInt8) (b : Nat) (hb : b ≤ 16384) : wrap64 (Int.tmod (c.toNat : Int) 128 * (b : Int)) = ((c.toNat % 128 * b : Nat) : Int) := by
  rw [Int.tmod_eq_emod_of_nonneg (by omega)]
  rw [show (c.toNat : Int) % 128 = ((c.toNat % 128 : Nat) : Int) by omega, ← Int.natCast_mul]
  exact nat_in _ (c_le c b hb)
theorem get_round (s : List UInt8) (hs : s.length ≤ 1000000000) (p n b r : Nat) (hn : n ≤ 4000000) (hb : b ≤ 16384) (hr : r < 3) (hp : p ≤ 1000000000) (k : Nat) :
    burinref15_get.l0 (k + 2) ⟨s.toArray⟩ (p : Int) (n : Int) (b : Int) (r : Int) = match s.drop (p + r) with
      | [] => some (0, -1)
      | c :: _ => if c.toNat < 128 then some (((n + c.toNat % 128 * b : Nat) : Int), ((p + r + 1 : Nat) : Int)) else burinref15_get.l0 k ⟨s.toArray⟩ (p : Int) ((n + c.toNat % 128 * b : Nat) : Int) ((b * 128 : Nat) : Int) ((r + 1 : Nat) : Int) := by
  have hsz : (⟨s.toArray⟩ : ByteArray).size = s.length := by simp [ByteArray.size]
  have ew := w_add p r (by omega)
  have e4 := w_succ (p + r) (by omega)
  have e5 := w_mul b hb
  have e6 := w_succ r (by omega)
  rw [burinref15_get.l0, if_pos (by omega), if_neg (by omega), ew, hsz]
  by_cases h : p + r < s.length
  · rw [decide_eq_false (by omega), burinref15_get.j1, if_neg (by decide), ew, if_pos (by omega), hsz, if_pos (by omega)]
    rw [List.drop_eq_getElem_cons h]
    have hbt : bt ⟨s.toArray⟩ ((p + r : Nat) : Int) = ((s[p + r]).toNat : Int) := by
      have := bt_at ⟨s.toArray⟩ ((p + r : Nat) : Int) (by rw [hsz]; omega)
      rw [← this]
      rfl
    rw [hbt]
    generalize s[p + r] = ch at hbt
    rw [c_in ch, c_mul ch b hb]
    have e3 := sum_in n (ch.toNat % 128 * b) hn (c_le ch b hb)
    rw [e3]
    rw [e4, e5, e6]
    dsimp only
    by_cases q : ch.toNat < 128
    · rw [if_pos (show (ch.toNat : Int) < 128 by exact_mod_cast q), if_pos q]
    · rw [if_neg (show ¬ (ch.toNat : Int) < 128 by exact_mod_cast q), if_neg q]
  · rw [decide_eq_true (by omega), burinref15_get.j1, if_pos rfl, List.drop_eq_nil_of_le (by omega)]
theorem rget (s : List UInt8) (hs : s.length ≤ 1000000000) (at_ : Int) (ha : at_ ≤ 1000000000) (k : Nat) : burinref15_get.f (k + 8) ⟨s.toArray⟩ at_ = some (getZ s at_) := by
  unfold burinref15_get.f getZ
  by_cases h0 : at_ < 0
  · rw [if_pos h0, burinref15_get.l0, if_pos (by decide), if_pos h0, burinref15_get.j1, if_pos rfl]
  rw [if_neg h0]
  obtain ⟨p, rfl⟩ := Int.eq_ofNat_of_zero_le (show 0 ≤ at_ by omega)
  have r0 := get_round s hs p 0 1 0 (by omega) (by omega) (by omega) (by omega) (k + 6)
  have hz : ((0 : Nat) : Int) = 0 := rfl
  have ho : ((1 : Nat) : Int) = 1 := rfl
  rw [hz, ho] at r0
  rw [show k + 8 = k + 6 + 2 by omega, r0]
  simp only [Int.toNat_natCast, Nat.add_zero]
  cases h1 : s.drop p with
  | nil => rfl
  | cons c1 t1 =>
    dsimp only
    have l1 := UInt8.toNat_lt c1
    by_cases q1 : c1.toNat < 128
    · rw [if_pos q1, if_pos q1]
      refine congrArg some (Prod.ext ?_ ?_)
      · show ((0 + c1.toNat % 128 * 1 : Nat) : Int) = _; omega
      · show ((p + 1 : Nat) : Int) = _; omega
    rw [if_neg q1, if_neg q1]
    have d1 : s.drop (p + 1) = t1 := by rw [← List.drop_drop, h1]; rfl
    have r1 := get_round s hs p (0 + c1.toNat % 128 * 1) (1 * 128) (0 + 1) (by omega) (by omega) (by omega) (by omega) (k + 4)
    rw [show ((0 + 1 : Nat) : Int) = 1 from rfl] at r1
    rw [show k + 6 = k + 4 + 2 by omega, r1, show p + (0 + 1) = p + 1 by omega, d1]
    cases h2 : t1 with
    | nil => rfl
    | cons c2 t2 =>
      dsimp only
      have l2 := UInt8.toNat_lt c2
      by_cases q2 : c2.toNat < 128
      · rw [if_pos q2, if_pos q2]
        refine congrArg some (Prod.ext ?_ ?_)
        · show ((0 + c1.toNat % 128 * 1 + c2.toNat % 128 * (1 * 128) : Nat) : Int) = _; omega
        · show ((p + (0 + 1) + 1 : Nat) : Int) = _; omega
      rw [if_neg q2, if_neg q2]
      have d2 : s.drop (p + 2) = t2 := by rw [show p + 2 = p + 1 + 1 by omega, ← List.drop_drop, d1, h2]; rfl
      have r2 := get_round s hs p (0 + c1.toNat % 128 * 1 + c2.toNat % 128 * (1 * 128)) (1 * 128 * 128) (0 + 1 + 1) (by omega) (by omega) (by omega) (by omega) (k + 2)
      rw [show k + 4 = k + 2 + 2 by omega, r2, show p + (0 + 1 + 1) = p + 2 by omega, d2]
      cases h3 : t2 with
      | nil => rfl
      | cons c3 t3 =>
        dsimp only
        have l3 := UInt8.toNat_lt c3
        by_cases q3 : c3.toNat < 128
        · rw [if_pos q3, if_pos q3]
          refine congrArg some (Prod.ext ?_ ?_)
          · show ((0 + c1.toNat % 128 * 1 + c2.toNat % 128 * (1 * 128) + c3.toNat % 128 * (1 * 128 * 128) : Nat) : Int) = _; omega
          · show ((p + (0 + 1 + 1) + 1 : Nat) : Int) = _; omega
        · rw [if_neg q3, if_neg q3, show k + 2 = (k + 1) + 1 by omega, burinref15_get.l0, if_neg (by omega)]
theorem getZ_range (s : List UInt8) (at_ : Int) : (0 ≤ (getZ s at_).1 ∧ (getZ s at_).1 < 2097152) ∧ ((getZ s at_).2 = -1 ∨ (at_ < (getZ s at_).2 ∧ (getZ s at_).2 ≤ s.length)) := by
  unfold getZ
  split
  · simp
  rename_i h0
  split
  · simp
  rename_i c1 t1 h1
  have e1 := congrArg List.length h1
  simp only [List.length_drop, List.length_cons] at e1
  have l1 := UInt8.toNat_lt c1
  split
  · exact ⟨⟨by show (0 : Int) ≤ (c1.toNat : Int); omega, by show (c1.toNat : Int) < _; omega⟩, Or.inr ⟨by show at_ < at_ + 1; omega, by show at_ + 1 ≤ _; omega⟩⟩
  split
  · simp
  rename_i c2 t2
  simp only [List.length_cons] at e1
  have l2 := UInt8.toNat_lt c2
  split
  · exact ⟨⟨by show (0 : Int) ≤ ((_ : Nat) : Int); omega, by show ((_ : Nat) : Int) < _; omega⟩, Or.inr ⟨by show at_ < at_ + 2; omega, by show at_ + 2 ≤ _; omega⟩⟩
  split
  · simp
  rename_i c3 t3
  simp only [List.length_cons] at e1
  have l3 := UInt8.toNat_lt c3
  split
  · exact ⟨⟨by show (0 : Int) ≤ ((_ : Nat) : Int); omega, by show ((_ : Nat) : Int) < _; omega⟩, Or.inr ⟨by show at_ < at_ + 3; omega, by show at_ + 3 ≤ _; omega⟩⟩
  · simp
theorem getZ_num (s : List UInt8) (p n : Nat) (hn : n < 2097152) (t : List UInt8) (h : s.drop p = num n ++ t) : getZ s (p : Int) = ((n : Int), ((p + (num n).length : Nat) : Int)) := by
  unfold getZ
  rw [if_neg (by omega), Int.toNat_natCast]
  by_cases h1 : n < 128
  · have hn : num n = [UInt8.ofNat n] := by rw [num, if_pos h1]
    rw [h, hn]
    simp only [List.cons_append, List.nil_append, ofNat_toNat n (by omega)]
    rw [if_pos h1]
    rfl
  by_cases h2 : n < 16384
  · have hn : num n = [UInt8.ofNat (n % 128 + 128), UInt8.ofNat (n / 128)] := by rw [num, if_neg h1, if_pos h2]
    rw [h, hn]
    simp only [List.cons_append, List.nil_append, ofNat_toNat (n % 128 + 128) (by omega), ofNat_toNat (n / 128) (by omega)]
    rw [if_neg (by omega), if_pos (by omega)]
    refine Prod.ext ?_ rfl
    show (((n % 128 + 128) % 128 + n / 128 * 128 : Nat) : Int) = _
    omega
  · have hn : num n = [UInt8.ofNat (n % 128 + 128), UInt8.ofNat (n / 128 % 128 + 128), UInt8.ofNat (n / 16384)] := by rw [num, if_neg h1, if_neg h2]
    rw [h, hn]
    simp only [List.cons_append, List.nil_append, ofNat_toNat (n % 128 + 128) (by omega), ofNat_toNat (n / 128 % 128 + 128) (by omega), ofNat_toNat (n / 16384) (by omega)]
    rw [if_neg (by omega), if_neg (by omega), if_pos (by omega)]
    refine Prod.ext ?_ rfl
    show (((n % 128 + 128) % 128 + (n / 128 % 128 + 128) % 128 * 128 + n / 16384 * 16384 : Nat) : Int) = _
    omega
theorem drop_more {s a t : List UInt8} {p : Nat} (h : s.drop p = a ++ t) : s.drop (p + a.length) = t := by rw [← List.drop_drop, h]; simp

def rinst (s : List UInt8) (p : Nat) : S40 × Int :=
  let op := (s.getD p 0).toNat
  if op = 1 then
    let a := getZ s ((p + 1 : Nat) : Int); let b := getZ s a.2; let c := getZ s b.2
    (⟨op, a.1, b.1, c.1, 0⟩, c.2)
  else if op = 2 then
    let x := getZ s ((p + 1 : Nat) : Int); let y := getZ s x.2
    (⟨op, 0, 0, x.1, y.1⟩, y.2)
  else if op = 3 ∨ op = 4 then
    let a := getZ s ((p + 1 : Nat) : Int); let x := getZ s a.2
    (⟨op, a.1, 0, x.1, 0⟩, x.2)
  else (⟨op, 0, 0, 0, 0⟩, ((p + 1 : Nat) : Int))
def rloop (s : List UInt8) (many : Int) : Nat → Nat → Int → List S40 → List S40
  | 0, _, _, l => l
  | f + 1, i, at_, l => if (i : Int) < many ∧ 0 ≤ at_ ∧ at_ < s.length then rloop s many f (i + 1) (rinst s at_.toNat).2 (l ++ [(rinst s at_.toNat).1]) else l
theorem rinst_fore (x : S40) (h : fitsB x = true) (s t : List UInt8) (p : Nat) (hd : s.drop p = oneL x ++ t) : rinst s p = (x, ((p + (oneL x).length : Nat) : Int)) := by
  obtain ⟨h0, h1, h2, h3, h4, z1, z2, z3, z4⟩ := fits_full h
  obtain ⟨op, lo, hi, X, Y⟩ := x
  dsimp only at *
  obtain ⟨op, rfl⟩ := Int.eq_ofNat_of_zero_le (show 0 ≤ op by omega)
  obtain ⟨lo, rfl⟩ := Int.eq_ofNat_of_zero_le h1.1
  obtain ⟨hi, rfl⟩ := Int.eq_ofNat_of_zero_le h2.1
  obtain ⟨X, rfl⟩ := Int.eq_ofNat_of_zero_le h3.1
  obtain ⟨Y, rfl⟩ := Int.eq_ofNat_of_zero_le h4.1
  have hg : s.getD p 0 = UInt8.ofNat op := by
    have : s[p]? = some (UInt8.ofNat op) := by
      have h5 := congrArg (fun z => z[0]?) hd
      simp only [List.getElem?_drop, Nat.add_zero] at h5
      rw [h5]
      unfold oneL
      simp
    rw [List.getD_eq_getElem?_getD, this]
    rfl
  have ho : (s.getD p 0).toNat = op := by rw [hg]; exact ofNat_toNat op (by omega)
  unfold rinst
  simp only [ho]
  unfold oneL at hd ⊢
  simp only [Int.toNat_natCast] at hd ⊢
  have hd1 : s.drop (p + 1) = ((if (ownF (op : Int)).1 then num lo else []) ++ (if (ownF (op : Int)).2.1 then num hi else []) ++ (if (ownF (op : Int)).2.2.1 then num X else []) ++ (if (ownF (op : Int)).2.2.2 then num Y else [])) ++ t := by
    rw [← List.drop_drop, hd]; rfl
  by_cases q1 : op = 1
  · subst q1
    have hF : ownF ((1 : Nat) : Int) = (true, true, true, false) := rfl
    rw [hF] at hd1 z4 ⊢
    simp only [if_true, Bool.false_eq_true, if_false, List.append_nil, List.append_assoc] at hd1
    have g1 := getZ_num s (p + 1) lo (by omega) _ hd1
    have g2 := getZ_num s _ hi (by omega) _ (drop_more hd1)
    have g3 := getZ_num s _ X (by omega) _ (drop_more (drop_more hd1))
    rw [if_pos rfl]
    dsimp only
    rw [g1]
    dsimp only
    rw [g2]
    dsimp only
    rw [g3]
    have := z4 rfl
    refine Prod.ext ?_ ?_
    · simp at this; simp [this]
    · simp; omega
  rw [if_neg q1]
  by_cases q2 : op = 2
  · subst q2
    have hF : ownF ((2 : Nat) : Int) = (false, false, true, true) := rfl
    rw [hF] at hd1 z1 z2 ⊢
    simp only [if_true, Bool.false_eq_true, if_false, List.nil_append, List.append_assoc] at hd1
    have g1 := getZ_num s (p + 1) X (by omega) _ hd1
    have g2 := getZ_num s _ Y (by omega) _ (drop_more hd1)
    rw [if_pos rfl]
    dsimp only
    rw [g1]
    dsimp only
    rw [g2]
    refine Prod.ext ?_ ?_
    · have y1 := z1 rfl; have y2 := z2 rfl; simp at y1 y2; simp [y1, y2]
    · simp; omega
  rw [if_neg q2]
  by_cases q3 : op = 3 ∨ op = 4
  · have hF : ownF (op : Int) = (true, false, true, false) := by rcases q3 with q | q <;> (subst q; rfl)
    rw [hF] at hd1 z2 z4 ⊢
    simp only [if_true, Bool.false_eq_true, if_false, List.nil_append, List.append_nil, List.append_assoc] at hd1
    have g1 := getZ_num s (p + 1) lo (by omega) _ hd1
    have g2 := getZ_num s _ X (by omega) _ (drop_more hd1)
    rw [if_pos q3]
    dsimp only
    rw [g1]
    dsimp only
    rw [g2]
    refine Prod.ext ?_ ?_
    · have y1 := z2 rfl; have y2 := z4 rfl; simp at y1 y2; simp [y1, y2]
    · simp; omega
  · have hF : ownF (op : Int) = (false, false, false, false) := by
      unfold ownF
      rw [if_neg (by omega), if_neg (by omega), if_neg (by omega)]
    rw [hF] at z1 z2 z3 z4 ⊢
    rw [if_neg q3]
    refine Prod.ext ?_ ?_
    · have y1 := z1 rfl; have y2 := z2 rfl; have y3 := z3 rfl; have y4 := z4 rfl; simp at y1 y2 y3 y4; simp [y1, y2, y3, y4]
    · simp
theorem oneL_pos (x : S40) : 1 ≤ (oneL x).length := by unfold oneL; simp
theorem rloop_fore (s : List UInt8) (c : UInt8) : ∀ (l : List S40) (f i p : Nat) (acc : List S40), (∀ x ∈ l, fitsB x = true) → l.length ≤ f → s.drop p = l.flatMap oneL ++ [c] → rloop s ((i + l.length : Nat) : Int) f i (p : Int) acc = acc ++ l
  | [], f, i, p, acc, _, _, _ => by
    cases f with
    | zero => simp [rloop]
    | succ f => rw [rloop, if_neg (by simp)]; simp
  | x :: l, f, i, p, acc, h, hf, hd => by
    cases f with
    | zero => simp at hf
    | succ f =>
      rw [List.flatMap_cons, List.append_assoc] at hd
      have hl := congrArg List.length hd
      have ho := oneL_pos x
      simp only [List.length_drop, List.length_append] at hl
      rw [rloop, if_pos (by simp only [List.length_cons]; omega), Int.toNat_natCast, rinst_fore x (h x (by simp)) s _ p hd]
      dsimp only
      have := rloop_fore s c l f (i + 1) (p + (oneL x).length) (acc ++ [x]) (fun y hy => h y (by simp [hy])) (by simpa using hf) (drop_more hd)
      rw [show i + 1 + l.length = i + (x :: l).length by simp; omega] at this
      rw [this]
      simp
theorem rinst_range (s : List UInt8) (p : Nat) : (rinst s p).2 = -1 ∨ (0 ≤ (rinst s p).2 ∧ (rinst s p).2 ≤ s.length) ∨ (rinst s p).2 = ((p + 1 : Nat) : Int) := by
  unfold rinst
  dsimp only
  have key : ∀ z : Int, (getZ s z).2 = -1 ∨ (0 ≤ (getZ s z).2 ∧ (getZ s z).2 ≤ s.length) := by
    intro z
    by_cases hz : z < 0
    · left; unfold getZ; rw [if_pos hz]
    · rcases (getZ_range s z).2 with h | h
      · exact Or.inl h
      · exact Or.inr ⟨by omega, h.2⟩
  split
  · rcases key (getZ s (getZ s ((p + 1 : Nat) : Int)).2).2 with h | h
    · exact Or.inl h
    · exact Or.inr (Or.inl h)
  split
  · rcases key (getZ s ((p + 1 : Nat) : Int)).2 with h | h
    · exact Or.inl h
    · exact Or.inr (Or.inl h)
  split
  · rcases key (getZ s ((p + 1 : Nat) : Int)).2 with h | h
    · exact Or.inl h
    · exact Or.inr (Or.inl h)
  · exact Or.inr (Or.inr rfl)
theorem rdec_fore {s : List UInt8} {l : List S40} {a b : Nat} (h : decP s = some (l, a, b)) : ∃ p1 p2 p3 : Int, getZ s 3 = ((a : Int), p1) ∧ getZ s p1 = ((b : Int), p2) ∧ getZ s p2 = ((l.length : Int), p3) ∧ rloop s (l.length : Int) 4001 0 p3 [] = l := by
  obtain ⟨h1, h2⟩ := (decP_iff _ _ _ _).1 h
  obtain ⟨c1, c2, c3, c4, c5, c6, c7⟩ := check_zero h1
  have hd : s.drop 3 = num a ++ (num b ++ (num l.length ++ (l.flatMap oneL ++ [xorL ([66, 82, 49] ++ (num a ++ (num b ++ (num l.length ++ l.flatMap oneL))))]))) := by
    rw [← h2, writ_eq]
    simp
  have g1 := getZ_num s 3 a (by omega) _ hd
  have g2 := getZ_num s _ b (by omega) _ (drop_more hd)
  have g3 := getZ_num s _ l.length (by omega) _ (drop_more (drop_more hd))
  have g4 := rloop_fore s _ l 4001 0 _ [] c7 (by omega) (drop_more (drop_more (drop_more hd)))
  rw [Nat.zero_add, List.nil_append] at g4
  exact ⟨_, _, _, g1, g2, g3, g4⟩
end Go.Proofs.Ytkjkkebaafmheaa
