/- Package mem: the document's functions (Check, Where, Number, Load, Fetch), plain: they say what the memory says. -/
import Derived.Test.YtndpmjgalmnhdaaO
import Derived.Test.YtndpmjgalmnhdaaPMemPlaysx6
import Derived.Test.YtndpmjgalmnhdaaPMemPlaysx8
import Derived.Test.YtndpmjgalmnhdaaPMemPlaysx10
import Derived.Test.YtndpmjgalmnhdaaPMemPlaysx11
namespace Go.Proofs.Ytndpmjgalmnhdaa
open Go.RowKit PMemPlays Go.Proofs.YtndpmjgalmnhdaaW.PrintWords Go.Proofs.YtndpmjgalmnhdaaW.PrintLast Go.Proofs.YtndpmjgalmnhdaaW.PrintMore
open Go.Sort Go.Shelf
set_option linter.unusedVariables false
set_option linter.unusedSimpArgs false

theorem rd39 (l : List S39) (i : Nat) (h : i < l.length) : rd_T39 l (i : Int) = l[i] := by unfold rd_T39; simp [h]
theorem w64 (x : Int) (h0 : -9223372036854775808 ≤ x) (h : x < 9223372036854775808) : wrap64 x = x := by unfold wrap64; omega
theorem wu64 (x : Int) (h0 : 0 ≤ x) (h : x < 18446744073709551616) : IntKind.u64.wrap x = x := by rw [IntKind.wrap_u64]; omega
def Sz (l : List S39) : Prop := l.length ≤ 10 ∧ ∀ r ∈ l, r.f1.size ≤ 200 ∧ 0 ≤ r.f0 ∧ r.f0 < 18446744073709551616
theorem check_l (l : List S39) (hs : Sz l) : ∀ (j i k : Nat), i + j = l.length → 2 * j + 1 ≤ k → okR 0 (l.take i) → burinref27_Check.l0 k l (i : Int) = some (chk (if i = 0 then 0 else endOf (l.take i)) (l.drop i)) := by
  intro j
  induction j with
  | zero =>
    intro i k hi hk _
    obtain ⟨k, rfl⟩ : ∃ m, k = m + 1 := ⟨k - 1, by omega⟩
    unfold burinref27_Check.l0
    rw [if_neg (by omega), List.drop_eq_nil_of_le (by omega)]
    rfl
  | succ j ih =>
    intro i k hi hk hok
    obtain ⟨k, rfl⟩ : ∃ m, k = m + 1 + 1 := ⟨k - 2, by omega⟩
    have h : i < l.length := by omega
    have hl := hs.1
    obtain ⟨s1, s2, s3⟩ := hs.2 l[i] (List.getElem_mem _)
    have e1 := wu64 ((l[i].f1.size : Nat) : Int) (by omega) (by omega)
    have hdr : l.drop i = l[i] :: l.drop (i + 1) := List.drop_eq_getElem_cons h
    have J : ∀ b : Bool, (b = true ↔ badR l[i]) → burinref27_Check.j1 (k + 1) l (i : Int) b = some (chk (if i = 0 then 0 else endOf (l.take i)) (l.drop i)) := by
      intro b hb
      unfold burinref27_Check.j1
      rw [hdr, chk]
      by_cases hbad : badR l[i]
      · rw [if_pos (hb.2 hbad), if_pos hbad]
      · rw [if_neg (fun h => hbad (hb.1 h)), if_neg hbad]
        have hokn : (if i = 0 then 0 else endOf (l.take i)) ≤ l[i].f0 → okR 0 (l.take (i + 1)) := by
          intro he
          rw [List.take_succ_eq_append_getElem h]
          refine okR_snoc _ _ _ hok hbad ?_
          by_cases hi0 : i = 0
          · subst hi0
            simpa using he
          · rw [if_neg hi0] at he
            rw [if_neg (by intro h0; have := congrArg List.length h0; rw [List.length_take, List.length_nil] at this; omega)]
            exact he
        have hend : endOf (l.take (i + 1)) = l[i].f0 + l[i].f1.size := by rw [List.take_succ_eq_append_getElem h, endOf_snoc]
        by_cases hi0 : i = 0
        · subst hi0
          rw [if_neg (by omega), if_pos rfl, if_neg (by omega), w64 _ (by omega) (by omega)]
          have := ih 1 k (by omega) (by omega) (hokn (by simpa using s2))
          rw [if_neg (by omega), hend] at this
          exact this
        · obtain ⟨q, hq⟩ : ∃ q : Nat, i = q + 1 := ⟨i - 1, by omega⟩
          have hql : q < l.length := by omega
          obtain ⟨t1, t2, t3⟩ := hs.2 l[q] (List.getElem_mem _)
          have hen : endOf (l.take i) = l[q].f0 + l[q].f1.size := by rw [hq, List.take_succ_eq_append_getElem hql, endOf_snoc]
          have hqb : ¬ badR l[q] := (okR_mem _ 0 hok l[q] (by rw [hq, List.take_succ_eq_append_getElem hql]; exact List.mem_append_right _ (List.mem_singleton.2 rfl))).1
          unfold badR lastP at hqb
          have e2 : wrap64 ((i : Int) - 1) = (q : Int) := by rw [w64 _ (by omega) (by omega)]; omega
          rw [if_pos (by omega), if_pos (by omega), if_pos (by omega), e2, if_pos (by omega), if_pos (by omega), rd39 l i h, rd39 l q hql, wu64 ((l[q].f1.size : Nat) : Int) (by omega) (by omega), wu64 _ (by omega) (by omega), if_neg hi0, hen]
          by_cases hlo : l[i].f0 < l[q].f0 + l[q].f1.size
          · rw [if_pos hlo, if_pos hlo]
          · rw [if_neg hlo, if_neg hlo, w64 _ (by omega) (by omega)]
            have := ih (i + 1) k (by omega) (by omega) (hokn (by rw [if_neg hi0, hen]; omega))
            rw [if_neg (by omega), hend] at this
            exact this
    unfold burinref27_Check.l0
    rw [if_pos (by omega), if_pos (by omega), rd39 l i h, e1]
    unfold badR lastP at J
    by_cases c1 : l[i].f1.size = 0
    · rw [if_pos (by omega)]
      exact J true ⟨fun _ => .inl c1, fun _ => rfl⟩
    · rw [if_neg (by omega), wu64 ((l[i].f1.size : Int) - 1) (by omega) (by omega)]
      by_cases c2 : l[i].f2 < 0
      · rw [if_pos c2]
        exact J true ⟨fun _ => .inr (.inl c2), fun _ => rfl⟩
      · rw [if_neg c2]
        by_cases c3 : l[i].f2 > 7
        · rw [if_pos c3]
          exact J true ⟨fun _ => .inr (.inr (.inl (by omega))), fun _ => rfl⟩
        · rw [if_neg c3]
          by_cases c4 : l[i].f0 > 9223372036854775807
          · rw [if_pos c4]
            exact J true ⟨fun _ => .inr (.inr (.inr (.inl (by omega)))), fun _ => rfl⟩
          · rw [if_neg c4, wu64 (l[i].f0 + ((l[i].f1.size : Int) - 1)) (by omega) (by omega)]
            exact J _ ⟨fun h => .inr (.inr (.inr (.inr (by have := of_decide_eq_true h; omega)))), fun h => decide_eq_true (by rcases h with h | h | h | h | h <;> omega)⟩
theorem check_f (l : List S39) (hs : Sz l) : burinref27_Check.f 30 l = some (chk 0 l) := by
  have := check_l l hs l.length 0 30 (by omega) (by have := hs.1; omega) trivial
  unfold burinref27_Check.f
  simpa using this

def InR (r : S39) (a n rt : Int) : Prop := r.f0 ≤ a ∧ ¬ Lacks (pieceOf r) a n rt
noncomputable instance (r : S39) (a n rt : Int) : Decidable (InR r a n rt) := Classical.propDecidable _
theorem where_core {α : Type} (f0 f2 a n rt : Int) (sz : Nat) (X Y : α) (s1 : sz ≤ 200) (s2 : 0 ≤ f0) (s3 : f0 < 18446744073709551616) (ha : 0 ≤ a) (ha1 : a < 18446744073709551616) (hn : 1 ≤ n) (hn8 : n ≤ 8) (P : Prop) [Decidable P]
    (hP : P ↔ (f0 ≤ a ∧ ¬ (Go.bits .and .i64 f2 rt = 0 ∨ (sz : Int) ≤ a - f0 ∨ (sz : Int) - (a - f0) < n))) :
    (if Go.bits .and .i64 f2 rt = 0 then Y else if a ≥ f0 then (if IntKind.u64.wrap (a - f0) < IntKind.u64.wrap (sz : Int) then (if IntKind.u64.wrap (IntKind.u64.wrap (sz : Int) - IntKind.u64.wrap (a - f0)) ≥ IntKind.u64.wrap n then X else Y) else Y) else Y) = if P then X else Y := by
  by_cases c1 : Go.bits .and .i64 f2 rt = 0
  · rw [if_pos c1, if_neg (fun q => (hP.1 q).2 (.inl c1))]
  · rw [if_neg c1]
    by_cases c2 : f0 ≤ a
    · rw [if_pos (by omega), wu64 (a - f0) (by omega) (by omega), wu64 (sz : Int) (by omega) (by omega)]
      by_cases c3 : a - f0 < sz
      · rw [if_pos c3, wu64 ((sz : Int) - (a - f0)) (by omega) (by omega), wu64 n (by omega) (by omega)]
        by_cases c4 : n ≤ sz - (a - f0)
        · rw [if_pos (by omega), if_pos (hP.2 ⟨c2, by rintro (h | h | h) <;> omega⟩)]
        · rw [if_neg (by omega), if_neg (fun q => (hP.1 q).2 (.inr (.inr (by omega))))]
      · rw [if_neg c3, if_neg (fun q => (hP.1 q).2 (.inr (.inl (by omega))))]
    · rw [if_neg (by omega), if_neg (fun q => c2 (hP.1 q).1)]
theorem inR_iff (r : S39) (a n rt : Int) : InR r a n rt ↔ (r.f0 ≤ a ∧ ¬ (Go.bits .and .i64 r.f2 rt = 0 ∨ ((r.f1.size : Nat) : Int) ≤ a - r.f0 ∨ ((r.f1.size : Nat) : Int) - (a - r.f0) < n)) := by
  have hz : (pieceOf r).f1.length = r.f1.size := bytesB_len _
  unfold InR Lacks
  rw [hz]
  exact Iff.rfl
theorem where_step (l : List S39) (hs : Sz l) (a n rt : Int) (ha : 0 ≤ a) (ha1 : a < 18446744073709551616) (hn : 1 ≤ n) (hn8 : n ≤ 8) (i : Nat) (k : Nat) (h : i < l.length) :
    burinref27_Where.l0 (k + 1) l a n rt (i : Int) = if InR l[i] a n rt then some (i : Int) else burinref27_Where.l0 k l a n rt ((i + 1 : Nat) : Int) := by
  have hl := hs.1
  have hr : wrap64 ((i : Int) + 1) = ((i + 1 : Nat) : Int) := by rw [w64 _ (by omega) (by omega)]; rfl
  rw [burinref27_Where.l0]
  rw [if_pos (by omega), if_pos (by omega), rd39 l i h, hr]
  obtain ⟨s1, s2, s3⟩ := hs.2 l[i] (List.getElem_mem _)
  exact where_core l[i].f0 l[i].f2 a n rt l[i].f1.size _ _ s1 s2 s3 ha ha1 hn hn8 _ (inR_iff _ _ _ _)
theorem where_l (l : List S39) (hs : Sz l) (a n rt : Int) (ha : 0 ≤ a) (ha1 : a < 18446744073709551616) (hn : 1 ≤ n) (hn8 : n ≤ 8) : ∀ (j i k : Nat), i + j = l.length → j + 1 ≤ k →
    ((∀ t (h : t < l.length), i ≤ t → ¬ InR l[t] a n rt) → burinref27_Where.l0 k l a n rt (i : Int) = some (-1)) ∧
    (∀ t (h : t < l.length), i ≤ t → InR l[t] a n rt → (∀ s (h : s < l.length), s < t → ¬ InR l[s] a n rt) → burinref27_Where.l0 k l a n rt (i : Int) = some (t : Int)) := by
  intro j
  induction j with
  | zero =>
    intro i k hi hk
    obtain ⟨k, rfl⟩ : ∃ m, k = m + 1 := ⟨k - 1, by omega⟩
    refine ⟨fun _ => ?_, fun t h1 h2 => by omega⟩
    unfold burinref27_Where.l0
    rw [if_neg (by omega)]
  | succ j ih =>
    intro i k hi hk
    obtain ⟨k, rfl⟩ : ∃ m, k = m + 1 := ⟨k - 1, by omega⟩
    have h : i < l.length := by omega
    rw [where_step l hs a n rt ha ha1 hn hn8 i k h]
    have ih' := ih (i + 1) k (by omega) (by omega)
    refine ⟨fun hno => ?_, fun t ht hit hin hf => ?_⟩
    · rw [if_neg (hno i h (Nat.le_refl _))]
      exact ih'.1 (fun t ht hit => hno t ht (by omega))
    · by_cases hti : t = i
      · subst hti
        rw [if_pos hin]
      · rw [if_neg (hf i h (by omega))]
        exact ih'.2 t ht (by omega) hin hf
theorem atK_else {l : List S39} (hok : okR 0 l) {a : Int} {k : Nat} (hat : AtK (l.map pieceOf) a k) (n rt : Int) (j : Nat) (hj : j < l.length) (hne : j ≠ k) : ¬ InR l[j] a n rt := by
  obtain ⟨hk, h1, h2⟩ := hat
  have hk' : k < l.length := by simpa using hk
  simp only [List.getElem_map] at h1 h2
  rw [inR_iff]
  rintro ⟨q1, q2⟩
  rcases Nat.lt_or_ge j k with hlt | hge
  · have h3 := okR_lt hok hj hk' hlt
    have h4 : l[k].f0 ≤ a := h1
    clear h1 h2
    apply q2
    right; left
    omega
  · have h3 : a < l[j].f0 := h2 j (by simpa using hj) (by omega)
    clear h1 h2
    omega
theorem where_yes {l : List S39} (hs : Sz l) (hok : okR 0 l) {a n rt : Int} (ha : 0 ≤ a) (ha1 : a < 18446744073709551616) (hn : 1 ≤ n) (hn8 : n ≤ 8) {k : Nat} (hf : Finds (l.map pieceOf) a n rt k) : burinref27_Where.f 12 l a n rt = some (k : Int) := by
  obtain ⟨hk, h1, h2⟩ := hf.1
  have hk' : k < l.length := by simpa using hk
  refine ((where_l l hs a n rt ha ha1 hn hn8 l.length 0 12 (by omega) (by have := hs.1; omega)).2 k hk' (by omega) ⟨?_, ?_⟩ (fun s hs' hsk => ?_))
  · simp only [List.getElem_map] at h1
    exact h1
  · exact hf.2 _ (by simp [hk'])
  · exact atK_else hok hf.1 n rt s hs' (by omega)
theorem where_no {l : List S39} (hs : Sz l) (hok : okR 0 l) {a n rt : Int} (ha : 0 ≤ a) (ha1 : a < 18446744073709551616) (hn : 1 ≤ n) (hn8 : n ≤ 8) (hf : NotFound (l.map pieceOf) a n rt) : burinref27_Where.f 12 l a n rt = some (-1) := by
  refine ((where_l l hs a n rt ha ha1 hn hn8 l.length 0 12 (by omega) (by have := hs.1; omega)).1 (fun t ht _ => ?_))
  rcases hf with h0 | ⟨k, p, hat, hp, hl⟩
  · rintro ⟨q1, _⟩
    have h1 := h0 t (by simpa using ht)
    simp only [List.getElem_map] at h1
    have h2 : a < l[t].f0 := h1
    clear h1
    omega
  · by_cases htk : t = k
    · subst htk
      rintro ⟨_, q2⟩
      rw [List.getElem?_map, List.getElem?_eq_getElem ht] at hp
      simp at hp
      subst hp
      exact q2 hl
    · exact atK_else hok hat n rt t ht htk

/-! ### Number -/
theorem bt_bytesB (s : ByteArray) (i : Nat) (h : i < s.size) : bt s (i : Int) = (bytesB s)[i]'(by rw [bytesB_len]; exact h) := by
  have h' : i < s.data.size := h
  unfold bt bytesB
  rw [dif_pos (by simpa using h)]
  simp
  rfl
theorem num_core (x y by_ B : Int) (i : Nat) (hx0 : 0 ≤ x) (hy : 0 ≤ y) (hy1 : y < 256) (hb : by_ = 256 ^ i) (hs : x + 256 ^ i * y < 256 ^ (i + 1)) (hi : i < 8) :
    IntKind.u64.wrap (x + IntKind.u64.wrap (IntKind.u64.wrap y * by_)) = x + 256 ^ i * y := by
  subst hb
  have hp8 : (256 : Int) ^ (i + 1) ≤ 18446744073709551616 := by
    have := pow8 i (by omega)
    rw [Int.pow_succ]
    omega
  have hp0 : (0 : Int) < 256 ^ i := Int.pow_pos (by decide)
  have hm0 : 0 ≤ 256 ^ i * y := Int.mul_nonneg (by omega) hy
  rw [wu64 y hy (by omega), Int.mul_comm y, wu64 (256 ^ i * y) hm0 (by omega), wu64 (x + 256 ^ i * y) (by omega) (by omega)]
theorem by_core (by_ : Int) (i : Nat) (hb : by_ = 256 ^ i) (h : i + 1 < 8) : IntKind.u64.wrap (by_ * 256) = 256 ^ (i + 1) := by
  subst hb
  have h7 := pow8 (i + 1) (by omega)
  have hp0 : (0 : Int) < 256 ^ i := Int.pow_pos (by decide)
  rw [wu64 _ (by omega) (by rw [Int.pow_succ] at h7; omega), Int.pow_succ]
theorem number_ref_l (s : ByteArray) (a : Nat) (n : Nat) (hfit : a + n ≤ s.size) (hsz : s.size ≤ 200) (hn : n ≤ 8) : ∀ (j i k : Nat), i + j = n → j + 1 ≤ k → ∀ by_ : Int, (i < 8 → by_ = 256 ^ i) →
    burinref27_Number.l0 k s (a : Int) (n : Int) (numB (cutB (bytesB s) a i)) by_ (i : Int) = some (numB (cutB (bytesB s) a n)) := by
  intro j
  induction j with
  | zero =>
    intro i k hi hk by_ _
    obtain ⟨k, rfl⟩ : ∃ m, k = m + 1 := ⟨k - 1, by omega⟩
    have : i = n := by omega
    subst this
    rw [burinref27_Number.l0]
    rw [if_neg (by omega)]
  | succ j ih =>
    intro i k hi hk by_ hby
    obtain ⟨k, rfl⟩ : ∃ m, k = m + 1 := ⟨k - 1, by omega⟩
    have hb := hby (by omega)
    have hai : a + i < s.size := by omega
    have hw : wrap64 ((a : Int) + i) = ((a + i : Nat) : Int) := by rw [w64 _ (by omega) (by omega)]; rfl
    rw [burinref27_Number.l0]
    rw [if_pos (by omega), hw, if_pos (by omega), if_pos (by omega), bt_bytesB s (a + i) hai]
    have hv : IntKind.u64.wrap (numB (cutB (bytesB s) a i) + IntKind.u64.wrap (IntKind.u64.wrap ((bytesB s)[a + i]'(by rw [bytesB_len]; exact hai)) * by_)) = numB (cutB (bytesB s) a (i + 1)) := by
      have hsn := cutB_snoc (bytesB s) a i (by rw [bytesB_len]; exact hai)
      have hlen : (cutB (bytesB s) a i).length = i := cutB_len (by rw [bytesB_len]; omega)
      have hlen2 : (cutB (bytesB s) a (i + 1)).length = i + 1 := cutB_len (by rw [bytesB_len]; omega)
      have hnb := numB_bounds _ (cutB_isB (bytesB_isB s) a i)
      have hnb2 := numB_bounds _ (cutB_isB (bytesB_isB s) a (i + 1))
      rw [hlen2, hsn, numB_snoc, hlen] at hnb2
      have hbb := bytesB_isB s ((bytesB s)[a + i]'(by rw [bytesB_len]; exact hai)) (List.getElem_mem _)
      rw [num_core _ _ _ 0 i hnb.1 hbb.1 hbb.2 hb hnb2.2 (by omega), hsn, numB_snoc, hlen]
    rw [hv, show wrap64 ((i : Int) + 1) = ((i + 1 : Nat) : Int) by rw [w64 _ (by omega) (by omega)]; rfl]
    exact ih (i + 1) k (by omega) (by omega) _ (fun h => by_core by_ i hb h)
theorem number_ref (s : ByteArray) (a n : Nat) (hfit : a + n ≤ s.size) (hsz : s.size ≤ 200) (hn : n ≤ 8) : burinref27_Number.f 12 s (a : Int) (n : Int) = some (numB (cutB (bytesB s) a n)) := by
  have := number_ref_l s a n hfit hsz hn n 0 12 (by omega) (by omega) 1 (fun _ => rfl)
  unfold burinref27_Number.f
  simpa [cutB, numB] using this
end Go.Proofs.Ytndpmjgalmnhdaa
