/- The law UtfOrder: the walk. -/
import Derived.Test.YtbcmjpmnljfolaaI
import Derived.BigQuiet
namespace Go.Proofs.Ytbcmjpmnljfolaa
open Go.RowKit PUtfPieces Go.Proofs.YtbcmjpmnljfolaaW.PrintWords Go.Proofs.YtbcmjpmnljfolaaW.PrintLast Go.Proofs.YtbcmjpmnljfolaaW.PrintMore
set_option linter.unusedVariables false

theorem order_bad (W : World) (a b : Int) (h : wid a = 0 ∨ wid b = 0 ∨ a = b) :
    Calls Try.prog 5 #[.int .i64 a, .int .i64 b] W fun e w' => e = .returned (.bool true) ∧ Kp [] W w' := by
  have HA := Lib.hid (fun w => encode_any a w)
  have HB := Lib.hid (fun w => encode_any b w)
  have hc : codeE a ≠ 0 ∨ codeE b ≠ 0 ∨ a = b := by
    rcases h with h | h | h
    · left; unfold codeE; rw [if_pos h]; decide
    · right; left; unfold codeE; rw [if_pos h]; decide
    · exact .inr (.inr h)
  have hab : a = b → strOfNums (encL a) = strOfNums (encL b) := fun h => by rw [h]
  obtain ⟨ca, hca⟩ : ∃ x, x = codeE a := ⟨_, rfl⟩
  obtain ⟨cb, hcb⟩ : ∃ x, x = codeE b := ⟨_, rfl⟩
  obtain ⟨sa, hsa⟩ : ∃ x, x = strOfNums (encL a) := ⟨_, rfl⟩
  obtain ⟨sb, hsb⟩ : ∃ x, x = strOfNums (encL b) := ⟨_, rfl⟩
  rw [← hca, ← hsa] at HA
  rw [← hcb, ← hsb] at HB
  rw [← hca, ← hcb] at hc
  rw [← hsa, ← hsb] at hab
  clear hca hcb hsa hsb h
  by_cases h1 : ca = 0
  · subst h1
    by_cases h2 : cb = 0
    · subst h2
      have h3 : a = b := by omega
      subst h3
      have := hab rfl
      subst this
      clear hc hab
      go_enter Try.func5, Try.ntmps5
      go_wp2_with fail
      refine (works_any _).mono ?_
      rintro e w1 ⟨rfl, k1⟩
      go_wp2_with fail
      refine (HA.out _).mono ?_
      rintro e w2 ⟨rfl, k2⟩
      go_wp2_with fail
      refine (HB.out _).mono ?_
      rintro e w3 ⟨rfl, k3⟩
      go_wp2_with fail
      go_ret
      exact ⟨rfl, (k1.trans k2).trans k3⟩
    · have h3 : (cb != 0) = true := by rw [bne_iff_ne]; exact h2
      clear hc hab h2
      go_enter Try.func5, Try.ntmps5
      go_wp2_with fail
      refine (works_any _).mono ?_
      rintro e w1 ⟨rfl, k1⟩
      go_wp2_with fail
      refine (HA.out _).mono ?_
      rintro e w2 ⟨rfl, k2⟩
      go_wp2_with fail
      refine (HB.out _).mono ?_
      rintro e w3 ⟨rfl, k3⟩
      go_wp2_with fail
      go_ret
      exact ⟨rfl, (k1.trans k2).trans k3⟩
  · have h3 : (ca != 0) = true := by rw [bne_iff_ne]; exact h1
    clear hc hab h1
    go_enter Try.func5, Try.ntmps5
    go_wp2_with fail
    refine (works_any _).mono ?_
    rintro e w1 ⟨rfl, k1⟩
    go_wp2_with fail
    refine (HA.out _).mono ?_
    rintro e w2 ⟨rfl, k2⟩
    go_wp2_with fail
    refine (HB.out _).mono ?_
    rintro e w3 ⟨rfl, k3⟩
    go_wp2_with fail
    go_ret
    exact ⟨rfl, (k1.trans k2).trans k3⟩

theorem Kp.drewN {S : List Nat} {a w : World} (h : Kp S a w) (n : Nat) : Kp S a (w.drewN n) := ⟨h.os, h.tape, h.output, h.size, h.block⟩
def lexL : List Int → List Int → Bool
  | [], [] => false
  | [], _ :: _ => true
  | _ :: _, [] => false
  | x :: xs, y :: ys => if x < y then true else if y < x then false else lexL xs ys
theorem less_map : ∀ (xs ys : List Int), (∀ x ∈ xs, 0 ≤ x ∧ x < 256) → (∀ y ∈ ys, 0 ≤ y ∧ y < 256) →
    Op.bytesLess (xs.map fun n => UInt8.ofNat n.toNat) (ys.map fun n => UInt8.ofNat n.toNat) = lexL xs ys
  | [], [], _, _ => rfl
  | [], _ :: _, _, _ => rfl
  | _ :: _, [], _, _ => rfl
  | x :: xs, y :: ys, hx, hy => by
    have h1 := hx x (by simp)
    have h2 := hy y (by simp)
    have ih := less_map xs ys (fun z hz => hx z (by simp [hz])) (fun z hz => hy z (by simp [hz]))
    have e1 : (UInt8.ofNat x.toNat).toNat = x.toNat := by rw [UInt8.toNat_ofNat']; omega
    have e2 : (UInt8.ofNat y.toNat).toNat = y.toNat := by rw [UInt8.toNat_ofNat']; omega
    rw [List.map_cons, List.map_cons, Op.bytesLess, ih, lexL]
    by_cases c1 : x < y
    · have : UInt8.ofNat x.toNat < UInt8.ofNat y.toNat := by rw [UInt8.lt_iff_toNat_lt, e1, e2]; omega
      rw [if_pos c1, decide_eq_true this, Bool.true_or]
    · have h3 : ¬ UInt8.ofNat x.toNat < UInt8.ofNat y.toNat := by rw [UInt8.lt_iff_toNat_lt, e1, e2]; omega
      rw [if_neg c1, decide_eq_false h3, Bool.false_or]
      by_cases c2 : y < x
      · have h4 : (UInt8.ofNat x.toNat == UInt8.ofNat y.toNat) = false := by
          rw [beq_eq_false_iff_ne]
          intro h
          have := (ofNat_inj x y h1 h2).1 h
          omega
        rw [if_pos c2, h4, Bool.false_and]
      · have : x = y := by omega
        subst this
        rw [if_neg c2, beq_self_eq_true, Bool.true_and]
theorem enc_cases (a : Int) (ha : wid a ≠ 0) : (encL a = [a] ∧ 0 ≤ a ∧ a < 128) ∨ (encL a = [192 + a / 64, 128 + a % 64] ∧ 128 ≤ a ∧ a < 2048) ∨ (encL a = [224 + a / 64 / 64, 128 + a / 64 % 64, 128 + a % 64] ∧ 2048 ≤ a ∧ a < 65536) ∨
    (encL a = [240 + a / 64 / 64 / 64, 128 + a / 64 / 64 % 64, 128 + a / 64 % 64, 128 + a % 64] ∧ 65536 ≤ a ∧ a ≤ 1114111) := by
  unfold encL
  rcases wid_range a with ⟨hw, _⟩ | ⟨hw, h2⟩ | ⟨hw, h2⟩ | ⟨hw, h2, h3, _⟩ | ⟨hw, h2⟩
  · exact absurd hw ha
  · rw [hw]; exact .inl ⟨rfl, h2⟩
  · rw [hw]; exact .inr (.inl ⟨rfl, h2⟩)
  · rw [hw]; exact .inr (.inr (.inl ⟨rfl, h2, h3⟩))
  · rw [hw]; exact .inr (.inr (.inr ⟨rfl, h2⟩))
theorem lex_enc (a b : Int) (ha : wid a ≠ 0) (hb : wid b ≠ 0) : lexL (encL a) (encL b) = decide (a < b) := by
  rcases enc_cases a ha with ⟨e, h⟩ | ⟨e, h⟩ | ⟨e, h⟩ | ⟨e, h⟩ <;> rcases enc_cases b hb with ⟨f, g⟩ | ⟨f, g⟩ | ⟨f, g⟩ | ⟨f, g⟩
  all_goals
    rw [e, f]
    simp only [lexL]
    repeat' split
    all_goals first | exact (decide_eq_true (by omega)).symm | exact (decide_eq_false (by omega)).symm | (exfalso; omega)
theorem enc_len (a : Int) (ha : wid a ≠ 0) : 1 ≤ (encL a).length ∧ (encL a).length ≤ 4 := by
  rcases enc_cases a ha with ⟨e, h⟩ | ⟨e, h⟩ | ⟨e, h⟩ | ⟨e, h⟩
  all_goals rw [e]; simp
theorem enc_pre (a b : Int) (ha : wid a ≠ 0) (hb : wid b ≠ 0) (hab : a ≠ b) (n : Nat) (hn : n = (encL a).length ∨ n = (encL b).length) (h1 : n ≤ (encL a).length) (h2 : n ≤ (encL b).length) : (encL a).take n ≠ (encL b).take n := by
  rcases enc_cases a ha with ⟨e, h⟩ | ⟨e, h⟩ | ⟨e, h⟩ | ⟨e, h⟩ <;> rcases enc_cases b hb with ⟨f, g⟩ | ⟨f, g⟩ | ⟨f, g⟩ | ⟨f, g⟩
  all_goals
    rw [e, f] at hn
    rw [e] at h1
    rw [f] at h2
    rw [e, f]
    clear e f ha hb
    intro he
    rcases hn with rfl | rfl
    all_goals
      simp at h1 h2 he
      try omega
theorem map_ne : ∀ (xs ys : List Int), (∀ x ∈ xs, 0 ≤ x ∧ x < 256) → (∀ y ∈ ys, 0 ≤ y ∧ y < 256) → (xs.map fun n => UInt8.ofNat n.toNat) = (ys.map fun n => UInt8.ofNat n.toNat) → xs = ys
  | [], [], _, _, _ => rfl
  | [], _ :: _, _, _, h => by simp at h
  | _ :: _, [], _, _, h => by simp at h
  | x :: xs, y :: ys, hx, hy, h => by
    rw [List.map_cons, List.map_cons, List.cons.injEq] at h
    rw [(ofNat_inj x y (hx x (by simp)) (hy y (by simp))).1 h.1, map_ne xs ys (fun z hz => hx z (by simp [hz])) (fun z hz => hy z (by simp [hz])) h.2]
theorem ext_nums (xs : List Int) (n : Nat) : ((strOfNums xs).extract 0 n).toList = (xs.take n).map fun n => UInt8.ofNat n.toNat := by
  rw [ByteArray.toList_eq]
  have hd : ((strOfNums xs).extract 0 n).data = (strOfNums xs).data.extract 0 n := by simp
  rw [hd]
  unfold strOfNums
  simp
theorem ext_ne (a b : Int) (ha : wid a ≠ 0) (hb : wid b ≠ 0) (hab : a ≠ b) (n : Nat) (hn : n = (encL a).length ∨ n = (encL b).length) (h1 : n ≤ (encL a).length) (h2 : n ≤ (encL b).length) :
    (((strOfNums (encL a)).extract 0 n).toList == ((strOfNums (encL b)).extract 0 n).toList) = false := by
  rw [beq_eq_false_iff_ne, ext_nums, ext_nums]
  intro h
  exact enc_pre a b ha hb hab n hn h1 h2 (map_ne _ _ (fun x hx => encL_range a x (List.mem_of_mem_take hx)) (fun x hx => encL_range b x (List.mem_of_mem_take hx)) h)

theorem order_good (W : World) (a b : Int) (ha : wid a ≠ 0) (hb : wid b ≠ 0) (hab : a ≠ b) :
    Calls Try.prog 5 #[.int .i64 a, .int .i64 b] W fun e w' => e = .returned (.bool true) ∧ Kp [] W w' := by
  have HA := Lib.hid (fun w => encode_any a w)
  have HB := Lib.hid (fun w => encode_any b w)
  rw [show codeE a = 0 from by unfold codeE; rw [if_neg ha]] at HA
  rw [show codeE b = 0 from by unfold codeE; rw [if_neg hb]] at HB
  have la := enc_len a ha
  have lb := enc_len b hb
  have hL : Op.bytesLess (strOfNums (encL a)).toList (strOfNums (encL b)).toList = decide (a < b) := by
    rw [nums_list, nums_list, less_map _ _ (encL_range a) (encL_range b)]
    exact lex_enc a b ha hb
  have hN := ext_ne a b ha hb hab
  rw [← nums_size (encL a)] at la hN
  rw [← nums_size (encL b)] at lb hN
  obtain ⟨sa, hsa⟩ : ∃ x, x = strOfNums (encL a) := ⟨_, rfl⟩
  obtain ⟨sb, hsb⟩ : ∃ x, x = strOfNums (encL b) := ⟨_, rfl⟩
  rw [← hsa] at HA la
  rw [← hsb] at HB lb
  rw [← hsa, ← hsb] at hL hN
  clear hsa hsb ha hb
  by_cases c : (sb.size : Int) < sa.size
  · have hne := hN sb.size (.inr rfl) (by omega) (by omega)
    have hp : (0 : Int) < (sb.size : Int) := by omega
    have hp2 : decide ((0 : Int) < (sb.size : Int)) = true := decide_eq_true hp
    have hp3 : (sb.size : Int) ≤ (sa.size : Int) := by omega
    have hp4 : 0 < sb.size := by omega
    clear hN
    go_enter Try.func5, Try.ntmps5
    go_wp2_with fail
    refine (works_any _).mono ?_
    rintro e w1 ⟨rfl, k1⟩
    go_wp2_with fail
    refine (HA.out _).mono ?_
    rintro e w2 ⟨rfl, k2⟩
    go_wp2_with fail
    refine (HB.out _).mono ?_
    rintro e w3 ⟨rfl, k3⟩
    go_wp2_with fail
    go_quiet (fail)
    go_wp2_with fail
    go_ret
    exact ⟨by simpa using hne, ((k1.trans k2).trans k3).trans ((Kp.refl [] _).drewN _)⟩
  · have hne := hN sa.size (.inl rfl) (by omega) (by omega)
    have hp : (0 : Int) < (sa.size : Int) := by omega
    have hp2 : decide ((0 : Int) < (sa.size : Int)) = true := decide_eq_true hp
    have hp3 : (sa.size : Int) ≤ (sb.size : Int) := by omega
    have hp4 : 0 < sa.size := by omega
    clear hN
    go_enter Try.func5, Try.ntmps5
    go_wp2_with fail
    refine (works_any _).mono ?_
    rintro e w1 ⟨rfl, k1⟩
    go_wp2_with fail
    refine (HA.out _).mono ?_
    rintro e w2 ⟨rfl, k2⟩
    go_wp2_with fail
    refine (HB.out _).mono ?_
    rintro e w3 ⟨rfl, k3⟩
    go_wp2_with fail
    go_quiet (fail)
    go_wp2_with fail
    go_ret
    exact ⟨by simpa using hne, ((k1.trans k2).trans k3).trans ((Kp.refl [] _).drewN _)⟩
theorem order_walk (W : World) (a b : Int) (wa : (Lit.int .i64 a).wf = true) (wb : (Lit.int .i64 b).wf = true) :
    Calls Try.prog 5 #[.int .i64 a, .int .i64 b] W fun e w' => e = .returned (.bool true) ∧ Below W.heap.size W w' := by
  refine Calls.mono (R := fun e w' => e = .returned (.bool true) ∧ Kp [] W w') ?_ (fun e w' h => ⟨h.1, h.2.below (Nat.le_refl _) (by simp)⟩)
  by_cases h : wid a = 0 ∨ wid b = 0 ∨ a = b
  · exact order_bad W a b h
  · exact order_good W a b (fun e => h (.inl e)) (fun e => h (.inr (.inl e))) (fun e => h (.inr (.inr e)))
end Go.Proofs.Ytbcmjpmnljfolaa
