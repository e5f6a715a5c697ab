/- Package utf, plain law: dec reads only the first bytes; texts put together; there and back. -/
import Derived.Test.YtbcmjpmnljfolaaH
namespace Go.Proofs.Ytbcmjpmnljfolaa
open Go.RowKit PUtfPieces Go.Proofs.YtbcmjpmnljfolaaW.PrintWords Go.Proofs.YtbcmjpmnljfolaaW.PrintLast Go.Proofs.YtbcmjpmnljfolaaW.PrintMore
set_option linter.unusedVariables false

def DD (n : Nat) (a b c d : Int) : Int × Int :=
  if n = 0 then (-1, 0) else if a < 128 then (a, 1)
  else if 2 ≤ n ∧ (194 ≤ a ∧ a < 224) ∧ isC b then ((a - 192) * 64 + b % 64, 2)
  else if 3 ≤ n ∧ (224 ≤ a ∧ a < 240) ∧ isC b ∧ isC c ∧ wid (((a - 224) * 64 + b % 64) * 64 + c % 64) = 3 then (((a - 224) * 64 + b % 64) * 64 + c % 64, 3)
  else if 4 ≤ n ∧ (240 ≤ a ∧ a < 245) ∧ isC b ∧ isC c ∧ isC d ∧ wid ((((a - 240) * 64 + b % 64) * 64 + c % 64) * 64 + d % 64) = 4 then ((((a - 240) * 64 + b % 64) * 64 + c % 64) * 64 + d % 64, 4)
  else (-1, 1)
theorem dec_DD (s : ByteArray) : dec s = DD s.size (bt s 0) (bt s 1) (bt s 2) (bt s 3) := rfl
theorem bt_out (s : ByteArray) (i : Nat) (h : s.size ≤ i) : bt s (i : Nat) = 0 := by
  unfold bt
  rw [dif_neg (by simpa using h)]
theorem dec_ext (u v : ByteArray) (h : u.size = v.size) (hb : ∀ i : Nat, i < u.size → bt u (i : Nat) = bt v (i : Nat)) : dec u = dec v := by
  have hb' : ∀ i : Nat, bt u (i : Nat) = bt v (i : Nat) := fun i => by
    by_cases hi : i < u.size
    · exact hb i hi
    · rw [bt_out u i (by omega), bt_out v i (by omega)]
  rw [dec_DD, dec_DD, h, show bt u 0 = bt v 0 from hb' 0, show bt u 1 = bt v 1 from hb' 1, show bt u 2 = bt v 2 from hb' 2, show bt u 3 = bt v 3 from hb' 3]
theorem dec_more (u v : ByteArray) (h : u.size ≤ v.size) (hb : ∀ i : Nat, i < u.size → bt v (i : Nat) = bt u (i : Nat)) (hd : 0 ≤ (dec u).1) : dec v = dec u := by
  have b0 := bt_range u 0
  rw [dec_DD] at hd
  rw [dec_DD, dec_DD]
  unfold DD at hd ⊢
  by_cases h0 : u.size = 0
  · rw [if_pos h0] at hd; exact absurd hd (by decide)
  rw [if_neg h0] at hd ⊢
  rw [if_neg (show ¬ v.size = 0 by omega)]
  have e0 : bt v 0 = bt u 0 := hb 0 (by omega)
  rw [e0]
  by_cases h1 : bt u 0 < 128
  · rw [if_pos h1, if_pos h1]
  rw [if_neg h1] at hd ⊢
  rw [if_neg h1]
  by_cases h2 : 2 ≤ u.size ∧ (194 ≤ bt u 0 ∧ bt u 0 < 224) ∧ isC (bt u 1)
  · have e1 : bt v 1 = bt u 1 := hb 1 (by omega)
    rw [if_pos h2, e1, if_pos ⟨by omega, h2.2⟩]
  rw [if_neg h2] at hd ⊢
  by_cases h3 : 3 ≤ u.size ∧ (224 ≤ bt u 0 ∧ bt u 0 < 240) ∧ isC (bt u 1) ∧ isC (bt u 2) ∧ wid (((bt u 0 - 224) * 64 + bt u 1 % 64) * 64 + bt u 2 % 64) = 3
  · have e1 : bt v 1 = bt u 1 := hb 1 (by omega)
    have e2 : bt v 2 = bt u 2 := hb 2 (by omega)
    rw [if_pos h3, e1, e2, if_neg (by omega), if_pos ⟨by omega, h3.2⟩]
  rw [if_neg h3] at hd ⊢
  by_cases h4 : 4 ≤ u.size ∧ (240 ≤ bt u 0 ∧ bt u 0 < 245) ∧ isC (bt u 1) ∧ isC (bt u 2) ∧ isC (bt u 3) ∧ wid ((((bt u 0 - 240) * 64 + bt u 1 % 64) * 64 + bt u 2 % 64) * 64 + bt u 3 % 64) = 4
  · have e1 : bt v 1 = bt u 1 := hb 1 (by omega)
    have e2 : bt v 2 = bt u 2 := hb 2 (by omega)
    have e3 : bt v 3 = bt u 3 := hb 3 (by omega)
    rw [if_pos h4, e1, e2, e3, if_neg (by omega), if_neg (by omega), if_pos ⟨by omega, h4.2⟩]
  · rw [if_neg h4] at hd; exact absurd hd (by decide)

theorem bt_ext (s : ByteArray) (a b i : Nat) (hb : b ≤ s.size) (h : a + i < b) : bt (s.extract a b) (i : Nat) = bt s ((a + i : Nat) : Int) := by
  have hs : (s.extract a b).size = b - a := by rw [ByteArray.size_extract]; omega
  rw [bt_get _ i (by omega), bt_get s (a + i) (by omega)]
  simp
theorem bt_app1 (s t : ByteArray) (i : Nat) (h : i < s.size) : bt (s ++ t) (i : Nat) = bt s (i : Nat) := by
  rw [bt_get _ i (by rw [ByteArray.size_append]; omega), bt_get s i h]
  have : (s ++ t).data = s.data ++ t.data := by simp
  simp [this, Array.getElem_append]
  rw [dif_pos h]
theorem bt_app2 (s t : ByteArray) (i : Nat) (h : i < t.size) : bt (s ++ t) ((s.size + i : Nat) : Int) = bt t (i : Nat) := by
  rw [bt_get _ (s.size + i) (by rw [ByteArray.size_append]; omega), bt_get t i h]
  have : (s ++ t).data = s.data ++ t.data := by simp
  have hs : s.data.size = s.size := rfl
  simp [this, Array.getElem_append]
theorem app_size (s t : ByteArray) : (s ++ t).size = s.size + t.size := ByteArray.size_append

/-- Behind s, the pieces of t, moved. -/
theorem pcsA_behind (s t : ByteArray) : ∀ (k b : Nat), t.size - b ≤ k → pcsA (s ++ t) (s.size + b) = (pcsA t b).map fun p => ((s.size : Int) + p.1, p.2)
  | k, b, hk => by
    by_cases hb : b < t.size
    · cases k with
      | zero => omega
      | succ k =>
        have h1 : s.size + b < (s ++ t).size := by rw [app_size]; omega
        have hd : dec ((s ++ t).extract (s.size + b) (s ++ t).size) = dec (t.extract b t.size) := by
          apply dec_ext
          · rw [ext_size _ _ (by omega), ext_size _ _ (by omega), app_size]; omega
          · intro i hi
            rw [ext_size _ _ (by omega), app_size] at hi
            rw [bt_ext _ _ _ _ (Nat.le_refl _) (by rw [app_size]; omega), bt_ext _ _ _ _ (Nat.le_refl _) (by omega), show s.size + b + i = s.size + (b + i) from by omega, bt_app2 s t (b + i) (by omega)]
        have hn := nxt_bounds t b hb
        rw [pcsA_next _ _ h1, pcsA_next t b hb, List.map_cons]
        have e1 : run1 (s ++ t) (s.size + b) = run1 t b := by unfold run1; rw [hd]
        have e2 : nxt (s ++ t) (s.size + b) = s.size + nxt t b := by unfold nxt; rw [hd]; omega
        rw [e1, e2, pcsA_behind s t k (nxt t b) (by omega)]
        simp
    · rw [pcsA_end t b hb, pcsA_end _ _ (by rw [app_size]; omega)]
      rfl
/-- Where all of s from a on are runes, they come first. -/
theorem pcsA_ahead (s t : ByteArray) : ∀ (k a : Nat), s.size - a ≤ k → a ≤ s.size → validL (pcsA s a) = true → pcsA (s ++ t) a = pcsA s a ++ pcsA (s ++ t) s.size
  | k, a, hk, ha, hv => by
    by_cases hlt : a < s.size
    · cases k with
      | zero => omega
      | succ k =>
        have hn := nxt_bounds s a hlt
        have hp := pcsA_next s a hlt
        rw [hp] at hv
        unfold validL at hv
        rw [List.all_cons, Bool.and_eq_true] at hv
        obtain ⟨hv1, hv2⟩ := hv
        have hv1 := of_decide_eq_true hv1
        have h1 : a < (s ++ t).size := by rw [app_size]; omega
        have hd : dec ((s ++ t).extract a (s ++ t).size) = dec (s.extract a s.size) := by
          apply dec_more
          · rw [ext_size _ _ (by omega), ext_size _ _ (by omega), app_size]; omega
          · intro i hi
            rw [ext_size _ _ (by omega)] at hi
            rw [bt_ext _ _ _ _ (Nat.le_refl _) (by rw [app_size]; omega), bt_ext _ _ _ _ (Nat.le_refl _) (by omega), bt_app1 s t (a + i) (by omega)]
          · exact hv1
        have e1 : run1 (s ++ t) a = run1 s a := by unfold run1; rw [hd]
        have e2 : nxt (s ++ t) a = nxt s a := by unfold nxt; rw [hd]
        rw [pcsA_next _ _ h1, hp, e1, e2, pcsA_ahead s t k (nxt s a) (by omega) (by omega) hv2]
        rfl
    · have : a = s.size := by omega
      subst this
      rw [pcsA_end s _ hlt]
      rfl
theorem joins (s t : ByteArray) (hs : validL (pcs s) = true) (ht : validL (pcs t) = true) : validL (pcs (s ++ t)) = true ∧ (pcs (s ++ t)).length = (pcs s).length + (pcs t).length := by
  have h1 := pcsA_ahead s t s.size 0 (by omega) (by omega) hs
  have h2 := pcsA_behind s t t.size 0 (by omega)
  rw [Nat.add_zero] at h2
  have h3 : pcs (s ++ t) = pcs s ++ (pcs t).map fun p => ((s.size : Int) + p.1, p.2) := by
    show pcsA (s ++ t) 0 = _
    rw [h1, h2]
    rfl
  rw [h3]
  constructor
  · unfold validL at hs ht ⊢
    rw [List.all_append, hs, List.all_map, Bool.true_and]
    exact ht
  · simp

theorem bytes_eq (u v : ByteArray) (h : u.toList = v.toList) : u = v := by
  rw [ByteArray.toList_eq, ByteArray.toList_eq] at h
  exact Go.WideShapes.bytes_inj h
/-- What was read stands there. -/
theorem dec_back (s : ByteArray) (h : 0 ≤ (dec s).1) : 1 ≤ (dec s).2 ∧ (dec s).2 ≤ s.size ∧ strOfNums (encL (dec s).1) = s.extract 0 (dec s).2.toNat ∧ codeE (dec s).1 = 0 := by
  have key : ∀ n : Nat, n ≤ s.size → T s n → strOfNums (encL (sd s n)) = s.extract 0 n ∧ codeE (sd s n) = 0 := by
    intro n hn hT
    refine ⟨bytes_eq _ _ ((eqT s _ n hn (encL_range _)).2 hT.2), ?_⟩
    unfold codeE
    rw [if_neg hT.1]
  unfold dec at h ⊢
  by_cases h0 : s.size = 0
  · rw [if_pos h0] at h; exact absurd h (by decide)
  rw [if_neg h0] at h ⊢
  by_cases h1 : bt s 0 < 128
  · rw [if_pos h1]
    have := key 1 (by omega) ((T1 s).2 h1)
    exact ⟨by show (1 : Int) ≤ 1; omega, by show (1 : Int) ≤ _; omega, this⟩
  rw [if_neg h1] at h ⊢
  by_cases h2 : g2 s
  · rw [if_pos h2]
    obtain ⟨a, b⟩ := (T2 s h1).2 h2
    have := key 2 a b
    rw [sd2 s h2.2.1] at this
    exact ⟨by show (1 : Int) ≤ 2; omega, by show (2 : Int) ≤ _; omega, this⟩
  rw [if_neg h2] at h ⊢
  by_cases h3 : g3 s
  · rw [if_pos h3]
    obtain ⟨a, b⟩ := (T3 s).2 h3
    have := key 3 a b
    rw [sd3 s h3.2.1] at this
    exact ⟨by show (1 : Int) ≤ 3; omega, by show (3 : Int) ≤ _; omega, this⟩
  rw [if_neg h3] at h ⊢
  by_cases h4 : g4 s
  · rw [if_pos h4]
    obtain ⟨a, b⟩ := (T4 s).2 h4
    have := key 4 a b
    rw [sd4 s ⟨h4.2.1.1, by have := h4.2.1.2; omega⟩] at this
    exact ⟨by show (1 : Int) ≤ 4; omega, by show (4 : Int) ≤ _; omega, this⟩
  · rw [if_neg h4] at h; exact absurd h (by decide)
theorem dec_not (s : ByteArray) (h : (dec s).1 < 0) : (dec s).2 = if s.size = 0 then 0 else 1 := by
  have b0 := bt_range s 0
  unfold dec at h ⊢
  by_cases h0 : s.size = 0
  · rw [if_pos h0, if_pos h0]
  rw [if_neg h0] at h ⊢
  rw [if_neg h0]
  by_cases h1 : bt s 0 < 128
  · rw [if_pos h1]
  rw [if_neg h1] at h ⊢
  by_cases h2 : g2 s
  · rw [if_pos h2] at h; have := h2.2.1; unfold r2 at h; simp only [] at h; omega
  rw [if_neg h2] at h ⊢
  by_cases h3 : g3 s
  · rw [if_pos h3] at h; have := h3.2.1; unfold r3 at h; simp only [] at h; omega
  rw [if_neg h3] at h ⊢
  by_cases h4 : g4 s
  · rw [if_pos h4] at h; have := h4.2.1; unfold r4 at h; simp only [] at h; omega
  · rw [if_neg h4]
theorem nums_size (xs : List Int) : (strOfNums xs).size = xs.length := by
  show (xs.map _).toArray.size = _
  simp
theorem bt_nums (xs : List Int) (hx : ∀ x ∈ xs, 0 ≤ x ∧ x < 256) (i : Nat) (h : i < xs.length) : bt (strOfNums xs) (i : Nat) = xs[i] := by
  rw [bt_get _ i (by rw [nums_size]; exact h)]
  have := hx _ (List.getElem_mem h)
  unfold strOfNums
  simp
  omega
/-- A rune's bytes are read as that rune, whatever stands behind them. -/
theorem dec_enc (r : Int) (s : ByteArray) (h : wid r ≠ 0) : dec (strOfNums (encL r) ++ s) = (r, wid r) ∧ ((strOfNums (encL r)).size : Int) = wid r := by
  have hx := encL_range r
  have hb : ∀ (i : Nat) (hi : i < (encL r).length), bt (strOfNums (encL r) ++ s) (i : Nat) = (encL r)[i] := fun i hi => by
    rw [bt_app1 _ _ i (by rw [nums_size]; exact hi)]
    exact bt_nums _ hx i hi
  have hz : (strOfNums (encL r) ++ s).size = (encL r).length + s.size := by rw [app_size, nums_size]
  rw [nums_size]
  rcases wid_range r with ⟨hw, _⟩ | ⟨hw, h2⟩ | ⟨hw, h2⟩ | ⟨hw, h2⟩ | ⟨hw, h2⟩
  · exact absurd hw h
  · have e : encL r = [r] := by unfold encL; rw [hw]; rfl
    have b0 := hb 0 (by rw [e]; simp)
    simp only [e] at b0 hz ⊢
    have b0 : bt (strOfNums [r] ++ s) 0 = r := b0
    rw [dec_DD, hz, b0, hw]
    unfold DD
    rw [if_neg (by simp), if_pos (by omega)]
    exact ⟨rfl, rfl⟩
  · have e : encL r = [192 + r / 64, 128 + r % 64] := by unfold encL; rw [hw]; rfl
    have b0 := hb 0 (by rw [e]; simp)
    have b1 := hb 1 (by rw [e]; simp)
    simp only [e] at b0 b1 hz ⊢
    have b0 : bt (strOfNums [192 + r / 64, 128 + r % 64] ++ s) 0 = 192 + r / 64 := b0
    have b1 : bt (strOfNums [192 + r / 64, 128 + r % 64] ++ s) 1 = 128 + r % 64 := b1
    rw [dec_DD, hz, b0, b1, hw]
    unfold DD isC
    rw [if_neg (by simp), if_neg (by omega), if_pos ⟨by simp, by omega, by omega⟩]
    exact ⟨by congr 1; omega, rfl⟩
  · have e : encL r = [224 + r / 64 / 64, 128 + r / 64 % 64, 128 + r % 64] := by unfold encL; rw [hw]; rfl
    have b0 := hb 0 (by rw [e]; simp)
    have b1 := hb 1 (by rw [e]; simp)
    have b2 := hb 2 (by rw [e]; simp)
    simp only [e] at b0 b1 b2 hz ⊢
    have b0 : bt (strOfNums [224 + r / 64 / 64, 128 + r / 64 % 64, 128 + r % 64] ++ s) 0 = 224 + r / 64 / 64 := b0
    have b1 : bt (strOfNums [224 + r / 64 / 64, 128 + r / 64 % 64, 128 + r % 64] ++ s) 1 = 128 + r / 64 % 64 := b1
    have b2 : bt (strOfNums [224 + r / 64 / 64, 128 + r / 64 % 64, 128 + r % 64] ++ s) 2 = 128 + r % 64 := b2
    have er : ((224 + r / 64 / 64 - 224) * 64 + (128 + r / 64 % 64) % 64) * 64 + (128 + r % 64) % 64 = r := by omega
    rw [dec_DD, hz, b0, b1, b2, hw]
    unfold DD isC
    rw [er, hw, if_neg (by simp), if_neg (by omega), if_neg (by omega), if_pos ⟨by simp, by omega, by omega, by omega, rfl⟩]
    exact ⟨rfl, rfl⟩
  · have e : encL r = [240 + r / 64 / 64 / 64, 128 + r / 64 / 64 % 64, 128 + r / 64 % 64, 128 + r % 64] := by unfold encL; rw [hw]; rfl
    have b0 := hb 0 (by rw [e]; simp)
    have b1 := hb 1 (by rw [e]; simp)
    have b2 := hb 2 (by rw [e]; simp)
    have b3 := hb 3 (by rw [e]; simp)
    simp only [e] at b0 b1 b2 b3 hz ⊢
    have b0 : bt (strOfNums [240 + r / 64 / 64 / 64, 128 + r / 64 / 64 % 64, 128 + r / 64 % 64, 128 + r % 64] ++ s) 0 = 240 + r / 64 / 64 / 64 := b0
    have b1 : bt (strOfNums [240 + r / 64 / 64 / 64, 128 + r / 64 / 64 % 64, 128 + r / 64 % 64, 128 + r % 64] ++ s) 1 = 128 + r / 64 / 64 % 64 := b1
    have b2 : bt (strOfNums [240 + r / 64 / 64 / 64, 128 + r / 64 / 64 % 64, 128 + r / 64 % 64, 128 + r % 64] ++ s) 2 = 128 + r / 64 % 64 := b2
    have b3 : bt (strOfNums [240 + r / 64 / 64 / 64, 128 + r / 64 / 64 % 64, 128 + r / 64 % 64, 128 + r % 64] ++ s) 3 = 128 + r % 64 := b3
    have er : (((240 + r / 64 / 64 / 64 - 240) * 64 + (128 + r / 64 / 64 % 64) % 64) * 64 + (128 + r / 64 % 64) % 64) * 64 + (128 + r % 64) % 64 = r := by omega
    rw [dec_DD, hz, b0, b1, b2, b3, hw]
    unfold DD isC
    rw [er, hw, if_neg (by simp), if_neg (by omega), if_neg (by omega), if_neg (by omega), if_pos ⟨by simp, by omega, by omega, by omega, by omega, rfl⟩]
    exact ⟨rfl, rfl⟩
end Go.Proofs.Ytbcmjpmnljfolaa
