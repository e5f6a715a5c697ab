/- Package marks: bit, Has and Mark: what they do to a table, in every world (the walks). -/
import Derived.Test.YtmoobdljmcephaaA
namespace Go.Proofs.Ytmoobdljmcephaa
open Go.RowKit
set_option linter.unusedVariables false
set_option linter.unusedSimpArgs false

theorem wrap_pow (k : Nat) (h : k < 64) : IntKind.u64.wrap (2 ^ k) = ((2 ^ k : Nat) : Int) := by
  have h1 : 2 ^ k < 2 ^ 64 := Nat.pow_lt_pow_right (by omega) h
  have e : ((2 ^ k : Nat) : Int) = 2 ^ k := by simp
  rw [← e]
  generalize 2 ^ k = q at h1
  exact wraps_u64 _ (by omega) (by omega)

/-- So many bits are set in the first n words. -/
def sumPop (W : Nat → Nat) : Nat → Nat
  | 0 => 0
  | n + 1 => sumPop W n + pop (W n)

/-- A table of R rows and C columns; the pairs L (as numbers row * C + column) have marks. -/
structure IsM (w : World) (m wb R C : Nat) (L : List Nat) : Prop where
  hm : w.heap[m]? = some (.cells #[.int .i64 (R : Nat), .int .i64 (C : Nat), .slice (some ⟨wb, 0, none⟩) ((R * C + 63) / 64) ((R * C + 63) / 64)] 50 (0, 0))
  hw : ∃ (cs : Array Value) (W : Nat → Nat), w.heap[wb]? = some (.cells cs 51 (0, 0)) ∧ cs.size = (R * C + 63) / 64 ∧ (∀ i, i < (R * C + 63) / 64 → cs[i]? = some (Value.int .u64 (W i : Nat)) ∧ W i < 2 ^ 64 ∧ ∀ b, b < 64 → (W i).testBit b = decide (64 * i + b ∈ L)) ∧ sumPop W ((R * C + 63) / 64) = L.length
  lt : ∀ x ∈ L, x < R * C
  nd : L.Nodup
  d : m ≠ wb
  r : 1 ≤ R
  c : 1 ≤ C
  small : R * C ≤ 262144

theorem IsM.kept {w w' : World} {m wb R C : Nat} {L : List Nat} {S : List Nat} (h : IsM w m wb R C L) (k : Kp S w w') (h1 : m ∉ S) (h2 : wb ∉ S) : IsM w' m wb R C L := by
  obtain ⟨cs, W, hw, hr⟩ := h.hw
  exact ⟨(k.block m (ltB h.hm) h1).trans h.hm, ⟨cs, W, (k.block wb (ltB hw) h2).trans hw, hr⟩, h.lt, h.nd, h.d, h.r, h.c, h.small⟩

theorem bit_no (w : World) (m wb R C L) (h : IsM w m wb R C L) (row col : Int) (hh : row < 0 ∨ (R : Int) ≤ row ∨ col < 0 ∨ (C : Int) ≤ col) :
    Calls Try.prog 19 #[.pointer (some ⟨m, 0, none⟩), .int .i64 row, .int .i64 col] w fun e w' => e = .returned (.tuple #[.int .i64 0, .int .u64 0, .bool false]) ∧ w = w' := by
  have c0 := cellB h.hm 0
  have c1 := cellB h.hm 1
  simp at c0 c1
  rcases (show row < 0 ∨ (0 ≤ row ∧ (R : Int) ≤ row) ∨ (0 ≤ row ∧ row < R ∧ col < 0) ∨ (0 ≤ row ∧ row < R ∧ 0 ≤ col ∧ (C : Int) ≤ col) from by omega) with h1 | ⟨h1, h2⟩ | ⟨h1, h2, h3⟩ | ⟨h1, h2, h3, h4⟩
  all_goals
    clear hh
    go_enter Try.func19, Try.ntmps19
    go_wp2
    go_ret3
    exact ⟨rfl, rfl⟩

theorem bit_yes (w : World) (m wb R C L) (h : IsM w m wb R C L) (row col : Nat) (hr : row < R) (hc : col < C) :
    Calls Try.prog 19 #[.pointer (some ⟨m, 0, none⟩), .int .i64 row, .int .i64 col] w fun e w' => e = .returned (.tuple #[.int .i64 ((row * C + col) / 64 : Nat), .int .u64 (2 ^ ((row * C + col) % 64) : Nat), .bool true]) ∧ w = w' := by
  have c0 := cellB h.hm 0
  have c1 := cellB h.hm 1
  simp at c0 c1
  have hn : row * C + col < R * C := by
    have : (row + 1) * C ≤ R * C := Nat.mul_le_mul_right C hr
    rw [Nat.add_mul] at this; omega
  have hs := h.small
  have e1 : (row : Int) * (C : Int) = ((row * C : Nat) : Int) := by simp
  obtain ⟨p, hp⟩ : ∃ p, p = row * C := ⟨_, rfl⟩
  rw [← hp] at e1 hn
  have hC : C ≤ 262144 := by
    have := Nat.mul_le_mul_right C h.r; omega
  have hp' : p ≤ 262144 := by omega
  have HP := Lib.hid hp
  clear hp
  go_enter Try.func19, Try.ntmps19
  go_wp2
  go_ret3
  refine ⟨?_, rfl⟩
  rw [wrap_pow _ (Nat.mod_lt _ (by omega)), HP.out]
  rfl

/-- Has a pair a mark? -/
def hasV (L : List Nat) (R C : Nat) (row col : Int) : Bool := decide (0 ≤ row) && decide (row < R) && decide (0 ≤ col) && decide (col < C) && decide (row.toNat * C + col.toNat ∈ L)

theorem pair_lt {R C row col : Nat} (hr : row < R) (hc : col < C) : row * C + col < R * C := by
  have : (row + 1) * C ≤ R * C := Nat.mul_le_mul_right C hr
  rw [Nat.add_mul] at this; omega

theorem has_no (w : World) (m wb R C L) (h : IsM w m wb R C L) (row col : Int) (hh : row < 0 ∨ (R : Int) ≤ row ∨ col < 0 ∨ (C : Int) ≤ col) :
    Calls Try.prog 11 #[.pointer (some ⟨m, 0, none⟩), .int .i64 row, .int .i64 col] w fun e w' => e = .returned (.bool false) ∧ w = w' := by
  have H := bit_no w m wb R C L h row col hh
  clear hh h
  go_enter Try.func11, Try.ntmps11
  go_wp2_with fail
  refine H.mono ?_
  rintro e w' ⟨rfl, rfl⟩
  go_wp2_with fail
  go_ret
  exact ⟨rfl, rfl⟩

theorem and_pow (x b : Nat) (hx : x < 2 ^ 64) (hb : b < 64) : (bits .and .u64 (x : Int) ((2 ^ b : Nat) : Int) != 0) = x.testBit b := by
  rw [and_u64 x (2 ^ b) hx (Nat.pow_lt_pow_right (by omega) hb)]
  have e : x &&& 2 ^ b = if x.testBit b then 2 ^ b else 0 := by
    apply Nat.eq_of_testBit_eq
    intro i
    rw [Nat.testBit_and, Nat.testBit_two_pow]
    by_cases h : b = i
    · subst h
      cases hx : x.testBit b <;> simp [Nat.testBit_two_pow]
    · cases hx : x.testBit b <;> simp [h, Nat.testBit_two_pow]
  rw [e]
  have hp : 0 < 2 ^ b := Nat.two_pow_pos b
  cases hx : x.testBit b
  · simp
  · simp only [if_true]
    rw [bne_iff_ne]; omega

theorem has_in (w : World) (m wb R C L) (h : IsM w m wb R C L) (row col : Nat) (hr : row < R) (hc : col < C) :
    Calls Try.prog 11 #[.pointer (some ⟨m, 0, none⟩), .int .i64 row, .int .i64 col] w fun e w' => e = .returned (.bool (decide (row * C + col ∈ L))) ∧ w = w' := by
  have hn := pair_lt hr hc
  have hs := h.small
  have c2 := cellB h.hm 2
  simp at c2
  have B1 := bit_yes w m wb R C L h row col hr hc
  obtain ⟨cs, W, hwb, hcs, hW, _⟩ := h.hw
  obtain ⟨n, hnn⟩ : ∃ n, n = row * C + col := ⟨_, rfl⟩
  rw [← hnn] at B1 hn ⊢
  have hi : n / 64 < (R * C + 63) / 64 := by omega
  obtain ⟨hc1, hx, hbit⟩ := hW (n / 64) hi
  have hb := hbit (n % 64) (Nat.mod_lt _ (by omega))
  rw [show 64 * (n / 64) + n % 64 = n from by omega] at hb
  have hap := and_pow (W (n / 64)) (n % 64) hx (Nat.mod_lt _ (by omega))
  rw [hb] at hap
  have c3 := cellB hwb (n / 64)
  rw [hc1] at c3
  obtain ⟨x, hxx⟩ : ∃ x, x = W (n / 64) := ⟨_, rfl⟩
  rw [← hxx] at c3 hap
  obtain ⟨i, hii⟩ : ∃ i, i = n / 64 := ⟨_, rfl⟩
  rw [← hii] at c3 hi B1
  obtain ⟨y, hy⟩ : ∃ y, y = 2 ^ (n % 64) := ⟨_, rfl⟩
  rw [← hy] at hap B1
  obtain ⟨len, hlen⟩ : ∃ len, len = (R * C + 63) / 64 := ⟨_, rfl⟩
  rw [← hlen] at c2 hi
  obtain ⟨v, hv⟩ : ∃ v, v = decide (n ∈ L) := ⟨_, rfl⟩
  rw [← hv] at hap ⊢
  have hl2 : len ≤ 4096 := by omega
  clear hW hb hc1 hbit hxx hii hy hlen hv hwb hnn h hx hcs hn
  have HP := Lib.hid hap
  go_enter Try.func11, Try.ntmps11
  go_wp2_with fail
  refine B1.mono ?_
  rintro e w' ⟨rfl, rfl⟩
  go_wp2_with fail
  go_ret
  exact ⟨rfl, rfl⟩

theorem mark_out (w : World) (m wb R C L) (h : IsM w m wb R C L) (row col : Int) (hh : row < 0 ∨ (R : Int) ≤ row ∨ col < 0 ∨ (C : Int) ≤ col) :
    Calls Try.prog 10 #[.pointer (some ⟨m, 0, none⟩), .int .i64 row, .int .i64 col] w fun e w' => e = .returned (.bool false) ∧ w = w' := by
  have H := bit_no w m wb R C L h row col hh
  clear hh h
  go_enter Try.func10, Try.ntmps10
  go_wp2_with fail
  refine H.mono ?_
  rintro e w' ⟨rfl, rfl⟩
  go_wp2_with fail
  go_ret
  exact ⟨rfl, rfl⟩

theorem sumPop_set (W W' : Nat → Nat) (i : Nat) (h : ∀ j, j ≠ i → W' j = W j) : ∀ n, sumPop W' n + (if i < n then pop (W i) else 0) = sumPop W n + (if i < n then pop (W' i) else 0)
  | 0 => by simp [sumPop]
  | n + 1 => by
    have ih := sumPop_set W W' i h n
    show sumPop W' n + pop (W' n) + _ = sumPop W n + pop (W n) + _
    by_cases hi : i = n
    · subst hi
      simp at ih ⊢
      omega
    · rw [h n (by omega)]
      by_cases h2 : i < n
      · rw [if_pos h2, if_pos h2] at ih
        rw [if_pos (by omega), if_pos (by omega)]; omega
      · rw [if_neg h2, if_neg h2] at ih
        rw [if_neg (by omega), if_neg (by omega)]; omega

theorem pop_or (x b : Nat) (hb : b < 64) (h : x.testBit b = false) : pop (x ||| 2 ^ b) = pop x + 1 := by
  unfold pop; rw [popN_or x b h, if_pos hb]

theorem mark_done {w : World} {m wb R C : Nat} {L : List Nat} (h : IsM w m wb R C L) {n : Nat} (hn : n < R * C) (hm : n ∉ L) {cs : Array Value} {W : Nat → Nat} (hwb : w.heap[wb]? = some (.cells cs 51 (0, 0))) (hcs : cs.size = (R * C + 63) / 64)
    (hW : ∀ i, i < (R * C + 63) / 64 → cs[i]? = some (Value.int .u64 (W i : Nat)) ∧ W i < 2 ^ 64 ∧ ∀ b, b < 64 → (W i).testBit b = decide (64 * i + b ∈ L)) (hsum : sumPop W ((R * C + 63) / 64) = L.length) :
    IsM (w.setCell ⟨wb, n / 64, none⟩ (.int .u64 (bits .or .u64 (W (n / 64) : Nat) (2 ^ (n % 64) : Nat)))) m wb R C (L ++ [n]) ∧ Kp [wb] w (w.setCell ⟨wb, n / 64, none⟩ (.int .u64 (bits .or .u64 (W (n / 64) : Nat) (2 ^ (n % 64) : Nat)))) := by
  have hi : n / 64 < (R * C + 63) / 64 := by omega
  have hb : n % 64 < 64 := Nat.mod_lt _ (by omega)
  have hp : 2 ^ (n % 64) < 2 ^ 64 := Nat.pow_lt_pow_right (by omega) hb
  obtain ⟨_, hx, hbit⟩ := hW _ hi
  have hunset : (W (n / 64)).testBit (n % 64) = false := by
    rw [hbit _ hb, show 64 * (n / 64) + n % 64 = n from by omega]; simpa using hm
  rw [or_u64 _ _ hx hp]
  refine ⟨⟨?_, ⟨_, (fun i => if i = n / 64 then W (n / 64) ||| 2 ^ (n % 64) else W i), setB hwb _ _, by simpa using hcs, ?_, ?_⟩, ?_, ?_, h.d, h.r, h.c, h.small⟩, (Kp.refl _ w).setCell (by simp) _⟩
  · rw [Below.heap_setCell _ _ _ _ h.d]; exact h.hm
  · intro i hin
    by_cases e : i = n / 64
    · subst e
      refine ⟨by simp [hcs, hin], by simpa using Nat.or_lt_two_pow hx hp, fun b hb' => ?_⟩
      simp only [if_true]
      rw [Nat.testBit_or, hbit b hb', Nat.testBit_two_pow, Bool.eq_iff_iff]
      simp
      constructor
      · rintro (h1 | h1)
        · exact .inl h1
        · right; omega
      · rintro (h1 | h1)
        · exact .inl h1
        · right; omega
    · obtain ⟨h1, h2, h3⟩ := hW i hin
      refine ⟨by rw [Array.getElem?_setIfInBounds_ne (by omega)]; simpa [e] using h1, by simpa [e] using h2, fun b hb' => ?_⟩
      simp only [if_neg e]
      rw [h3 b hb', Bool.eq_iff_iff]
      simp
      intro h4; exfalso; omega
  · have hs := sumPop_set W (fun i => if i = n / 64 then W (n / 64) ||| 2 ^ (n % 64) else W i) (n / 64) (fun j hj => by simp [hj]) ((R * C + 63) / 64)
    rw [if_pos hi, if_pos hi] at hs
    simp only [if_true] at hs
    rw [pop_or _ _ hb hunset] at hs
    simp
    omega
  · intro x hx
    rcases List.mem_append.1 hx with hx | hx
    · exact h.lt x hx
    · simp at hx; omega
  · refine List.nodup_append.2 ⟨h.nd, by simp, ?_⟩
    intro a ha b hb e
    simp at hb; subst hb; subst e
    exact hm ha

theorem mark_in (w : World) (m wb R C L) (h : IsM w m wb R C L) (row col : Nat) (hr : row < R) (hc : col < C) (hm : row * C + col ∈ L) :
    Calls Try.prog 10 #[.pointer (some ⟨m, 0, none⟩), .int .i64 row, .int .i64 col] w fun e w' => e = .returned (.bool false) ∧ w = w' := by
  have hn := pair_lt hr hc
  have hs := h.small
  have c2 := cellB h.hm 2
  simp at c2
  have B1 := bit_yes w m wb R C L h row col hr hc
  obtain ⟨cs, W, hwb, hcs, hW, _⟩ := h.hw
  obtain ⟨n, hnn⟩ : ∃ n, n = row * C + col := ⟨_, rfl⟩
  rw [← hnn] at B1 hn hm
  have hi : n / 64 < (R * C + 63) / 64 := by omega
  obtain ⟨hc1, hx, hbit⟩ := hW (n / 64) hi
  have hb := hbit (n % 64) (Nat.mod_lt _ (by omega))
  rw [show 64 * (n / 64) + n % 64 = n from by omega] at hb
  have hap := and_pow (W (n / 64)) (n % 64) hx (Nat.mod_lt _ (by omega))
  rw [hb] at hap
  simp only [hm, decide_true] at hap
  have c3 := cellB hwb (n / 64)
  rw [hc1] at c3
  obtain ⟨x, hxx⟩ : ∃ x, x = W (n / 64) := ⟨_, rfl⟩
  rw [← hxx] at c3 hap
  obtain ⟨i, hii⟩ : ∃ i, i = n / 64 := ⟨_, rfl⟩
  rw [← hii] at c3 hi B1
  obtain ⟨y, hy⟩ : ∃ y, y = 2 ^ (n % 64) := ⟨_, rfl⟩
  rw [← hy] at hap B1
  obtain ⟨len, hlen⟩ : ∃ len, len = (R * C + 63) / 64 := ⟨_, rfl⟩
  rw [← hlen] at c2 hi
  have hl2 : len ≤ 4096 := by omega
  clear hW hb hc1 hbit hxx hii hy hlen hwb hnn h hx hcs hn hm
  go_enter Try.func10, Try.ntmps10
  go_wp2_with fail
  refine B1.mono ?_
  rintro e w' ⟨rfl, rfl⟩
  go_wp2_with fail
  go_ret
  exact ⟨rfl, rfl⟩

theorem mark_yes (w : World) (m wb R C L) (h : IsM w m wb R C L) (row col : Nat) (hr : row < R) (hc : col < C) (hm : row * C + col ∉ L) :
    Calls Try.prog 10 #[.pointer (some ⟨m, 0, none⟩), .int .i64 row, .int .i64 col] w fun e w' => e = .returned (.bool true) ∧ IsM w' m wb R C (L ++ [row * C + col]) ∧ Kp [wb] w w' := by
  have hn := pair_lt hr hc
  have hs := h.small
  have c2 := cellB h.hm 2
  simp at c2
  have B1 := bit_yes w m wb R C L h row col hr hc
  obtain ⟨cs, W, hwb, hcs, hW, hsum⟩ := h.hw
  obtain ⟨n, hnn⟩ : ∃ n, n = row * C + col := ⟨_, rfl⟩
  rw [← hnn] at B1 hn hm ⊢
  have hfin := mark_done h hn hm hwb hcs hW hsum
  have hi : n / 64 < (R * C + 63) / 64 := by omega
  obtain ⟨hc1, hx, hbit⟩ := hW (n / 64) hi
  have hb := hbit (n % 64) (Nat.mod_lt _ (by omega))
  rw [show 64 * (n / 64) + n % 64 = n from by omega] at hb
  have hap := and_pow (W (n / 64)) (n % 64) hx (Nat.mod_lt _ (by omega))
  rw [hb] at hap
  simp only [hm, decide_false] at hap
  have c3 := cellB hwb (n / 64)
  have f3 := frozB hwb (n / 64)
  rw [hc1] at c3
  obtain ⟨x, hxx⟩ : ∃ x, x = W (n / 64) := ⟨_, rfl⟩
  rw [← hxx] at c3 hap hfin
  obtain ⟨i, hii⟩ : ∃ i, i = n / 64 := ⟨_, rfl⟩
  rw [← hii] at c3 hi B1 f3 hfin
  obtain ⟨y, hy⟩ : ∃ y, y = 2 ^ (n % 64) := ⟨_, rfl⟩
  rw [← hy] at hap B1 hfin
  obtain ⟨len, hlen⟩ : ∃ len, len = (R * C + 63) / 64 := ⟨_, rfl⟩
  rw [← hlen] at c2 hi
  have hl2 : len ≤ 4096 := by omega
  have HF := Lib.hid hfin
  clear hW hb hc1 hbit hxx hii hy hlen hwb hnn h hx hcs hn hm hfin hsum
  go_enter Try.func10, Try.ntmps10
  go_wp2_with fail
  refine B1.mono ?_
  rintro e w' ⟨rfl, rfl⟩
  go_wp2_with fail
  go_ret
  exact ⟨rfl, HF.out⟩
end Go.Proofs.Ytmoobdljmcephaa
