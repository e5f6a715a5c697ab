/- The document's pieces, the law's comparison and the document's Valid, in plain words. -/
import Derived.Test.YtbcmjpmnljfolaaM
namespace Go.Proofs.Ytbcmjpmnljfolaa
open Go.RowKit PUtfPieces Go.Proofs.YtbcmjpmnljfolaaW.PrintWords Go.Proofs.YtbcmjpmnljfolaaW.PrintLast Go.Proofs.YtbcmjpmnljfolaaW.PrintMore
set_option linter.unusedVariables false

theorem pieces_l (s : ByteArray) (hsz : s.size ≤ 1000000) : ∀ (j a : Nat) (p q : List Int) (k : Nat), s.size - a ≤ j → a ≤ s.size → p.length + (s.size - a) ≤ 1000000 → q.length = p.length → j + 13 ≤ k →
    burinref01_Pieces.l0 k s p q (a : Int) = some (p ++ (pcsA s a).map Prod.fst, q ++ (pcsA s a).map Prod.snd) := by
  intro j
  induction j with
  | zero =>
    intro a p q k h1 h2 h3 h4 hk
    obtain ⟨k, rfl⟩ : ∃ m, k = m + 1 := ⟨k - 1, by omega⟩
    unfold burinref01_Pieces.l0
    rw [if_neg (by omega), pcsA_end s a (by omega)]
    simp
  | succ j ih =>
    intro a p q k h1 h2 h3 h4 hk
    obtain ⟨k, rfl⟩ : ∃ m, k = m + 12 + 1 := ⟨k - 13, by omega⟩
    by_cases ha : a < s.size
    · have hb := nxt_bounds s a ha
      unfold burinref01_Pieces.l0
      rw [if_pos (by omega), if_pos (by omega), if_pos (by omega), Int.toNat_natCast, refDecode k, Option.bind_some, if_pos (by omega), if_pos (by omega), ← hb.2.2.2]
      rw [show wrap64 ((nxt s a : Nat) : Int) = ((nxt s a : Nat) : Int) from by unfold wrap64; omega]
      rw [ih (nxt s a) _ _ _ (by omega) (by omega) (by simp; omega) (by simp [h4]) (by omega), pcsA_next s a ha]
      simp [run1]
    · unfold burinref01_Pieces.l0
      rw [if_neg (by omega), pcsA_end s a (by omega)]
      simp
theorem refPieces (s : ByteArray) (hsz : s.size ≤ 300) : burinref01_Pieces.f 400 s = some ((pcs s).map Prod.fst, (pcs s).map Prod.snd) := by
  unfold burinref01_Pieces.f pcs
  exact pieces_l s (by omega) 300 0 [] [] 400 (by omega) (by omega) (by simp; omega) rfl (by omega)

theorem rd_get (l : List Int) (i : Nat) (h : i < l.length) : rd l (i : Int) = l[i] := by
  unfold rd
  rw [Int.toNat_natCast]
  simp [List.getD, h]
theorem same_l (x y : List Int) (hx : x.length ≤ 1000000) (hxy : x.length ≤ y.length) (he : ∀ i (h : i < x.length), x[i] = y[i]'(by omega)) : ∀ (j i k : Nat), i + j = x.length → 2 * j + 2 ≤ k → burinlaw01_same.l0 k x y (i : Int) = some true := by
  intro j
  induction j with
  | zero =>
    intro i k hi hk
    obtain ⟨k, rfl⟩ : ∃ m, k = m + 1 + 1 := ⟨k - 2, by omega⟩
    unfold burinlaw01_same.l0
    rw [if_neg (by omega)]
    unfold burinlaw01_same.j1
    rfl
  | succ j ih =>
    intro i k hi hk
    obtain ⟨k, rfl⟩ : ∃ m, k = m + 1 + 1 := ⟨k - 2, by omega⟩
    have h : i < x.length := by omega
    unfold burinlaw01_same.l0
    rw [if_pos (by omega)]
    unfold burinlaw01_same.j1
    rw [if_pos (decide_eq_true (by omega)), if_pos (by omega), if_pos (by omega), if_pos (by omega), rd_get x i h, rd_get y i (by omega), if_pos (he i h)]
    rw [show wrap64 ((i : Int) + 1) = ((i + 1 : Nat) : Int) from by unfold wrap64; omega]
    exact ih (i + 1) k (by omega) (by omega)
theorem same_take (l : List Int) (m : Int) (hm : 0 ≤ m) (hl : l.length ≤ 300) : burinlaw01_same.f 700 (l.take m.toNat) l m = some true := by
  have hln : (l.take m.toNat).length = min m.toNat l.length := List.length_take
  unfold burinlaw01_same.f
  rw [if_pos (by rw [hln]; unfold mn; split <;> omega)]
  refine same_l _ _ (by omega) (by omega) (fun i h => ?_) (l.take m.toNat).length 0 700 (by omega) (by omega)
  rw [List.getElem_take]
theorem valid_l (x : List Int) (hx : x.length ≤ 1000000) : ∀ (j i k : Nat), i + j = x.length → j + 1 ≤ k → burinref01_Valid.l0 k x (i : Int) = some ((x.drop i).all fun r => decide (0 ≤ r)) := by
  intro j
  induction j with
  | zero =>
    intro i k hi hk
    obtain ⟨k, rfl⟩ : ∃ m, k = m + 1 := ⟨k - 1, by omega⟩
    unfold burinref01_Valid.l0
    rw [if_neg (by omega), List.drop_eq_nil_of_le (by omega)]
    rfl
  | succ j ih =>
    intro i k hi hk
    obtain ⟨k, rfl⟩ : ∃ m, k = m + 1 := ⟨k - 1, by omega⟩
    have h : i < x.length := by omega
    unfold burinref01_Valid.l0
    rw [if_pos (by omega), if_pos (by omega), rd_get x i h, List.drop_eq_getElem_cons h, List.all_cons]
    rw [show wrap64 ((i : Int) + 1) = ((i + 1 : Nat) : Int) from by unfold wrap64; omega, ih (i + 1) k (by omega) (by omega)]
    by_cases hn : x[i] < 0
    · rw [if_pos hn, decide_eq_false (by omega)]
      rfl
    · rw [if_neg hn, decide_eq_true (by omega)]
      rfl
theorem refValid (s : ByteArray) (hsz : s.size ≤ 300) : burinref01_Valid.f 400 s = some (validL (pcs s)) := by
  unfold burinref01_Valid.f
  have hl := pcs_len s
  rw [refPieces s hsz, Option.bind_some]
  refine (valid_l ((pcs s).map Prod.snd) (by simp; omega) ((pcs s).map Prod.snd).length 0 400 (by omega) (by simp; omega)).trans ?_
  unfold validL
  simp [List.all_map, Function.comp_def]

/-! ### From behind -/
inductive Bd (s : ByteArray) : Nat → Prop where
  | zero : Bd s 0
  | next {a : Nat} : Bd s a → a < s.size → Bd s (nxt s a)
theorem Bd.in {s : ByteArray} {a : Nat} (h : Bd s a) : ∀ p, p < a → ∃ q, q ≤ p ∧ q < s.size ∧ p < nxt s q ∧ nxt s q ≤ a := by
  induction h with
  | zero => intro p hp; omega
  | @next a h hlt ih =>
    intro p hp
    have hb := nxt_bounds s a hlt
    by_cases hpa : p < a
    · obtain ⟨q, h1, h2, h3, h4⟩ := ih p hpa
      exact ⟨q, h1, h2, h3, by omega⟩
    · exact ⟨a, by omega, hlt, hp, Nat.le_refl _⟩
/-- A piece of two bytes or more: its bytes are a rune's, whole. -/
theorem piece_hit (s : ByteArray) (a : Nat) (ha : a < s.size) (h2 : a + 2 ≤ nxt s a) : hit s (nxt s a) (nxt s a - a) := by
  have hb := nxt_bounds s a ha
  have hz := ext_size s a (by omega)
  have hr : 0 ≤ (dec (s.extract a s.size)).1 := by
    rcases Int.lt_or_le (dec (s.extract a s.size)).1 0 with h | h
    · have := dec_not _ h
      have h4 := hb.2.2.2
      rw [this] at h4
      split at h4 <;> omega
    · exact h
  obtain ⟨b1, b2, b3, b4⟩ := dec_back _ hr
  have hw : wid (dec (s.extract a s.size)).1 ≠ 0 := by
    intro h
    unfold codeE at b4
    rw [if_pos h] at b4
    exact absurd b4 (by decide)
  have he := dec_enc (dec (s.extract a s.size)).1 ⟨#[]⟩ hw
  have hcut : cut s (nxt s a) (nxt s a - a) = (s.extract a s.size).extract 0 (dec (s.extract a s.size)).2.toNat := by
    unfold cut
    rw [ByteArray.extract_extract]
    congr 1 <;> omega
  refine ⟨by omega, ?_⟩
  rw [hcut, ← b3]
  have e2 := he.2
  rw [b3, ByteArray.size_extract, hz] at e2
  have e1 := congrArg Prod.snd he.1
  have hem : strOfNums (encL (dec (s.extract a s.size)).1) ++ ⟨#[]⟩ = strOfNums (encL (dec (s.extract a s.size)).1) := ByteArray.append_empty
  rw [hem] at e1
  refine e1.trans ?_
  show wid _ = _
  rw [← e2]
  omega
theorem hit_bytes (s : ByteArray) (b n : Nat) (hb : b ≤ s.size) (hn : 2 ≤ n) (h : hit s b n) : 0 ≤ (dec (cut s b n)).1 ∧ 194 ≤ bt s ((b - n : Nat) : Int) ∧ ∀ i, b - n < i → i < b → isC (bt s (i : Int)) := by
  have hz := cut_size s b n h.1 hb
  obtain ⟨h1, h2, h3⟩ := dec_whole _ (by rw [hz]; exact h.2) (by omega)
  refine ⟨h1, ?_, fun i hi1 hi2 => ?_⟩
  · have := bt_cut s b n 0 h.1 hb (by omega)
    rw [show b - n + 0 = b - n from rfl] at this
    rw [← this]
    exact h2
  · have := h3 (i - (b - n)) (by omega) (by have := h.1; omega)
    rw [bt_cut s b n (i - (b - n)) h.1 hb (by have := h.1; omega), show b - n + (i - (b - n)) = i from by omega] at this
    exact this
/-- A piece [a, b): Before at b tells its width. -/
theorem bef_piece (s : ByteArray) (a : Nat) (h : Bd s a) (ha : a < s.size) : bef s ((nxt s a : Nat) : Int) = ((nxt s a : Nat) : Int) - a := by
  have hb := nxt_bounds s a ha
  by_cases h2 : a + 2 ≤ nxt s a
  · have hh := piece_hit s a ha h2
    have hy := hit_bytes s _ _ hb.2.1 (by omega) hh
    rw [bef_hit s (nxt s a) (nxt s a - a) (by omega) hb.2.1 (by omega) (by omega) hh (fun j h3 h4 hj => ?_)]
    · omega
    · have hz := hit_bytes s _ _ hb.2.1 h3 hj
      have := hy.2.2 (nxt s a - j) (by omega) (by omega)
      unfold isC at this
      omega
  · rw [bef_end s (nxt s a) 5 (by omega) hb.2.1 (.inl (by omega)) (fun j h3 h4 hj => ?_)]
    · omega
    · have hz := hit_bytes s _ _ hb.2.1 h3 hj
      have hle := hj.1
      obtain ⟨q, q1, q2, q3, q4⟩ := h.in (nxt s a - j) (by omega)
      have hqb := nxt_bounds s q q2
      have hqp : q = nxt s a - j := by
        rcases Nat.lt_or_ge q (nxt s a - j) with hlt | hge
        · have hq := hit_bytes s _ _ hqb.2.1 (by omega) (piece_hit s q q2 (by omega))
          have := hq.2.2 (nxt s a - j) (by omega) (by omega)
          unfold isC at this
          omega
        · omega
      have hmore := dec_more (cut s (nxt s a) j) (s.extract q s.size) (by rw [cut_size s _ _ hle hb.2.1, ext_size s q (by omega)]; omega) (fun i hi => by
        rw [cut_size s _ _ hle hb.2.1] at hi
        rw [bt_cut s _ _ i hle hb.2.1 hi, bt_ext s q s.size i (Nat.le_refl _) (by omega), hqp]) hz.1
      have h4 := hqb.2.2.2
      rw [hmore, hj.2] at h4
      omega

def plc (s : ByteArray) (l : List (Int × Int)) (i : Nat) : Int := (l.map Prod.fst).getD i (s.size : Int)
theorem plc_c0 (s : ByteArray) (x : Int × Int) (l : List (Int × Int)) : plc s (x :: l) 0 = x.1 := rfl
theorem plc_cs (s : ByteArray) (x : Int × Int) (l : List (Int × Int)) (i : Nat) : plc s (x :: l) (i + 1) = plc s l i := rfl
theorem plc_a0 (s : ByteArray) (a : Nat) (h : a ≤ s.size) : plc s (pcsA s a) 0 = a := by
  by_cases hn : a < s.size
  · rw [pcsA_next s _ hn, plc_c0]
  · rw [pcsA_end s _ hn]
    show (s.size : Int) = _
    omega
theorem plc_back (s : ByteArray) : ∀ (k a : Nat), s.size - a ≤ k → Bd s a → ∀ i, i < (pcsA s a).length → bef s (plc s (pcsA s a) (i + 1)) = plc s (pcsA s a) (i + 1) - plc s (pcsA s a) i ∧ 1 ≤ plc s (pcsA s a) (i + 1) - plc s (pcsA s a) i
  | 0, a, hk, h, i, hi => by rw [pcsA_end s a (by omega)] at hi; exact absurd hi (by simp)
  | k + 1, a, hk, h, i, hi => by
    by_cases ha : a < s.size
    · have hb := nxt_bounds s a ha
      rw [pcsA_next s a ha] at hi ⊢
      cases i with
      | zero =>
        rw [plc_c0, plc_cs, plc_a0 s _ hb.2.1]
        exact ⟨bef_piece s a h ha, by show 1 ≤ ((nxt s a : Nat) : Int) - (a : Int); omega⟩
      | succ i =>
        rw [plc_cs, plc_cs]
        exact plc_back s k (nxt s a) (by omega) (.next h ha) i (by simpa using hi)
    · rw [pcsA_end s a ha] at hi
      exact absurd hi (by simp)
theorem plc_zero (s : ByteArray) : plc s (pcs s) 0 = 0 := plc_a0 s 0 (by omega)
theorem plc_end (s : ByteArray) (i : Nat) (h : (pcs s).length ≤ i) : plc s (pcs s) i = s.size := by
  unfold plc
  rw [List.getD_eq_getElem?_getD, List.getElem?_eq_none (by simpa using h)]
  rfl
theorem plc_at (s : ByteArray) (i : Nat) (h : i < (pcs s).length) : plc s (pcs s) i = ((pcs s).map Prod.fst)[i]'(by simpa using h) := by
  unfold plc
  rw [List.getD_eq_getElem?_getD, List.getElem?_eq_getElem (by simpa using h)]
  rfl
end Go.Proofs.Ytbcmjpmnljfolaa
