/- The number of bits of a word: plain arithmetic, no program in sight. -/
import Derived.Test.YtmoobdljmcephaaB
namespace Go.Proofs.Ytmoobdljmcephaa
open Go.RowKit
set_option linter.unusedVariables false
set_option linter.unusedSimpArgs false

/-- How many bits of the first n are set? -/
def popN (x : Nat) : Nat → Nat
  | 0 => 0
  | n + 1 => popN x n + (if x.testBit n then 1 else 0)
def pop (x : Nat) : Nat := popN x 64

theorem popN_le (x : Nat) : ∀ n, popN x n ≤ n
  | 0 => Nat.le_refl _
  | n + 1 => by have := popN_le x n; unfold popN; split <;> omega
theorem popN_zero : ∀ n, popN 0 n = 0
  | 0 => rfl
  | n + 1 => by unfold popN; rw [popN_zero n]; simp
theorem popN_congr (x y : Nat) : ∀ n, (∀ b, b < n → x.testBit b = y.testBit b) → popN x n = popN y n
  | 0, _ => rfl
  | n + 1, h => by unfold popN; rw [popN_congr x y n (fun b hb => h b (by omega)), h n (by omega)]
theorem popN_or (x b : Nat) (hb : x.testBit b = false) : ∀ n, popN (x ||| 2 ^ b) n = popN x n + (if b < n then 1 else 0)
  | 0 => by simp [popN]
  | n + 1 => by
    unfold popN
    rw [popN_or x b hb n, Nat.testBit_or, Nat.testBit_two_pow]
    by_cases h : b = n
    · subst h
      simp [hb]
    · rw [show decide (b = n) = false from by simp [h]]
      by_cases h2 : b < n
      · simp [h2, show b < n + 1 by omega]; omega
      · simp [h2, show ¬ b < n + 1 by omega]

/-! ### The eight bytes of OnesCount64 -/
/-- A mask of n bytes. -/
def msk (m : Nat) : Nat → Nat
  | 0 => 0
  | n + 1 => m + 256 * msk m n

theorem msk_succ (m n : Nat) : msk m (n + 1) = m + 256 * msk m n := rfl

theorem and_byte (a b m n : Nat) (ha : a < 256) (hm : m < 256) : (a + 256 * b) &&& (m + 256 * n) = (a &&& m) + 256 * (b &&& n) := by
  apply Nat.eq_of_testBit_eq
  intro i
  have e1 : a + 256 * b = 2 ^ 8 * b + a := by omega
  have e2 : m + 256 * n = 2 ^ 8 * n + m := by omega
  have e3 : (a &&& m) + 256 * (b &&& n) = 2 ^ 8 * (b &&& n) + (a &&& m) := by omega
  have h3 : (a &&& m) < 2 ^ 8 := Nat.and_lt_two_pow _ (by simpa using hm)
  rw [Nat.testBit_and, e1, e2, e3, Nat.testBit_two_pow_mul_add _ (by simpa using ha), Nat.testBit_two_pow_mul_add _ (by simpa using hm), Nat.testBit_two_pow_mul_add _ h3]
  split
  · rw [Nat.testBit_and]
  · rw [Nat.testBit_and]

def s1 (n x : Nat) : Nat := (x / 2 &&& msk 85 n) + (x &&& msk 85 n)
def s2 (n x : Nat) : Nat := (x / 4 &&& msk 51 n) + (x &&& msk 51 n)
def s3 (n x : Nat) : Nat := (x / 16 + x) &&& msk 15 n
def b1 (x : Nat) : Nat := (x / 2 &&& 85) + (x &&& 85)
def b2 (x : Nat) : Nat := (x / 4 &&& 51) + (x &&& 51)
def b3 (x : Nat) : Nat := (x / 16 + x) &&& 15

theorem t1 : ∀ (x : Fin 256) (c : Fin 2), (x.val / 2 + 128 * c.val) &&& 85 = x.val / 2 &&& 85 := by decide +kernel
theorem t2 : ∀ (x : Fin 256) (c : Fin 4), (x.val / 4 + 64 * c.val) &&& 51 = x.val / 4 &&& 51 := by decide +kernel
theorem tb : ∀ x : Fin 256, b1 x.val < 256 ∧ b2 (b1 x.val) < 120 ∧ b3 (b2 (b1 x.val)) = popN x.val 8 ∧ b2 (b1 x.val) / 16 < 8 ∧ b2 (b1 x.val) % 16 < 8 := by decide +kernel

theorem s1_succ (n a r : Nat) (ha : a < 256) : s1 (n + 1) (a + 256 * r) = b1 a + 256 * s1 n r := by
  unfold s1 b1; rw [msk_succ]
  have e : (a + 256 * r) / 2 = (a / 2 + 128 * (r % 2)) + 256 * (r / 2) := by omega
  rw [e, and_byte _ _ _ _ (by omega) (by omega), and_byte _ _ _ _ ha (by omega)]
  have := t1 ⟨a, ha⟩ ⟨r % 2, by omega⟩
  simp only [] at this
  rw [this]
  omega
theorem s2_succ (n a r : Nat) (ha : a < 256) : s2 (n + 1) (a + 256 * r) = b2 a + 256 * s2 n r := by
  unfold s2 b2; rw [msk_succ]
  have e : (a + 256 * r) / 4 = (a / 4 + 64 * (r % 4)) + 256 * (r / 4) := by omega
  rw [e, and_byte _ _ _ _ (by omega) (by omega), and_byte _ _ _ _ ha (by omega)]
  have := t2 ⟨a, ha⟩ ⟨r % 4, by omega⟩
  simp only [] at this
  rw [this]
  omega
theorem t3 : ∀ (x : Fin 120) (c : Fin 16), x.val / 16 < 8 → x.val % 16 < 8 → c.val < 8 → (x.val / 16 + 16 * c.val + x.val) < 256 ∧ (x.val / 16 + 16 * c.val + x.val) &&& 15 = (x.val / 16 + x.val) &&& 15 := by decide +kernel
theorem s3_succ (n a r : Nat) (ha : a < 120) (ha1 : a / 16 < 8) (ha2 : a % 16 < 8) (hr : r % 16 < 8) : s3 (n + 1) (a + 256 * r) = b3 a + 256 * s3 n r := by
  unfold s3 b3; rw [msk_succ]
  have e : (a + 256 * r) / 16 + (a + 256 * r) = (a / 16 + 16 * (r % 16) + a) + 256 * (r / 16 + r) := by omega
  have h := t3 ⟨a, ha⟩ ⟨r % 16, by omega⟩ ha1 ha2 hr
  simp only [] at h
  rw [e, and_byte _ _ _ _ h.1 (by omega), h.2]

/-- A number out of bytes, the least first. -/
def ofB : List Nat → Nat
  | [] => 0
  | a :: l => a + 256 * ofB l

theorem s1_ofB : ∀ l : List Nat, (∀ x ∈ l, x < 256) → s1 l.length (ofB l) = ofB (l.map b1)
  | [], _ => by simp [s1, ofB, msk]
  | a :: l, h => by
    simp only [List.length_cons, ofB, List.map_cons]
    rw [s1_succ _ _ _ (h a (by simp)), s1_ofB l (fun x hx => h x (by simp [hx]))]
theorem s2_ofB : ∀ l : List Nat, (∀ x ∈ l, x < 256) → s2 l.length (ofB l) = ofB (l.map b2)
  | [], _ => by simp [s2, ofB, msk]
  | a :: l, h => by
    simp only [List.length_cons, ofB, List.map_cons]
    rw [s2_succ _ _ _ (h a (by simp)), s2_ofB l (fun x hx => h x (by simp [hx]))]
theorem s3_ofB : ∀ l : List Nat, (∀ x ∈ l, x < 120 ∧ x / 16 < 8 ∧ x % 16 < 8) → s3 l.length (ofB l) = ofB (l.map b3)
  | [], _ => by simp [s3, ofB, msk]
  | a :: l, h => by
    simp only [List.length_cons, ofB, List.map_cons]
    have ha := h a (by simp)
    have hr : ofB l % 16 < 8 := by
      cases l with
      | nil => simp [ofB]
      | cons b t => have := h b (by simp); simp only [ofB]; omega
    rw [s3_succ _ _ _ ha.1 ha.2.1 ha.2.2 hr, s3_ofB l (fun x hx => h x (by simp [hx]))]

theorem steps_ofB (l : List Nat) (h : ∀ x ∈ l, x < 256) : s3 l.length (s2 l.length (s1 l.length (ofB l))) = ofB (l.map fun x => popN x 8) := by
  rw [s1_ofB l h]
  have e1 := s2_ofB (l.map b1) (by
    intro x hx
    obtain ⟨y, hy, rfl⟩ := List.mem_map.1 hx
    exact (tb ⟨y, h y hy⟩).1)
  rw [List.length_map] at e1
  rw [e1]
  have e2 := s3_ofB ((l.map b1).map b2) (by
    intro x hx
    obtain ⟨z, hz, rfl⟩ := List.mem_map.1 hx
    obtain ⟨y, hy, rfl⟩ := List.mem_map.1 hz
    have := tb ⟨y, h y hy⟩
    exact ⟨this.2.1, this.2.2.2.1, this.2.2.2.2⟩)
  rw [List.length_map, List.length_map] at e2
  rw [e2]
  congr 1
  rw [List.map_map, List.map_map]
  apply List.map_congr_left
  intro x hx
  exact (tb ⟨x, h x hx⟩).2.2.1

theorem popN_split (a r : Nat) (ha : a < 256) : ∀ n, popN (a + 256 * r) (8 + n) = popN a 8 + popN r n
  | 0 => by
    simp only [Nat.add_zero, popN]
    have : popN (a + 256 * r) 8 = popN a 8 := popN_congr _ _ _ (fun b hb => by
      rw [show a + 256 * r = 2 ^ 8 * r + a by omega, Nat.testBit_two_pow_mul_add _ (by simpa using ha), if_pos hb])
    simpa [popN] using this
  | n + 1 => by
    show popN (a + 256 * r) (8 + n) + (if (a + 256 * r).testBit (8 + n) then 1 else 0) = popN a 8 + (popN r n + (if r.testBit n then 1 else 0))
    rw [popN_split a r ha n]
    rw [show (a + 256 * r).testBit (8 + n) = r.testBit n from by
      rw [show a + 256 * r = 2 ^ 8 * r + a by omega, Nat.testBit_two_pow_mul_add _ (by simpa using ha), if_neg (by omega)]
      congr 1; omega]
    omega

/-- What OnesCount64 answers. -/
def ones (x : Nat) : Nat :=
  let y := s3 8 (s2 8 (s1 8 x))
  let y4 := y + y / 256
  let y5 := y4 + y4 / 65536
  let y6 := y5 + y5 / 4294967296
  y6 % 128

theorem div_of (a k d : Nat) (h : a < d) : (a + d * k) / d = k := by
  rw [Nat.add_mul_div_left _ _ (by omega), Nat.div_eq_of_lt h]; omega
theorem fold_bytes (p0 p1 p2 p3 p4 p5 p6 p7 : Nat) (c0 : p0 ≤ 8) (c1 : p1 ≤ 8) (c2 : p2 ≤ 8) (c3 : p3 ≤ 8) (c4 : p4 ≤ 8) (c5 : p5 ≤ 8) (c6 : p6 ≤ 8) (c7 : p7 ≤ 8) :
    (let y := p0 + 256 * (p1 + 256 * (p2 + 256 * (p3 + 256 * (p4 + 256 * (p5 + 256 * (p6 + 256 * (p7 + 256 * 0)))))))
     let y4 := y + y / 256
     let y5 := y4 + y4 / 65536
     let y6 := y5 + y5 / 4294967296
     y6 % 128) = p0 + (p1 + (p2 + (p3 + (p4 + (p5 + (p6 + p7)))))) := by
  have d1 : (p0 + 256 * (p1 + 256 * (p2 + 256 * (p3 + 256 * (p4 + 256 * (p5 + 256 * (p6 + 256 * (p7 + 256 * 0)))))))) / 256 = p1 + 256 * (p2 + 256 * (p3 + 256 * (p4 + 256 * (p5 + 256 * (p6 + 256 * (p7 + 256 * 0)))))) := div_of _ _ _ (by omega)
  simp only []
  rw [d1]
  have e1 : p0 + 256 * (p1 + 256 * (p2 + 256 * (p3 + 256 * (p4 + 256 * (p5 + 256 * (p6 + 256 * (p7 + 256 * 0))))))) + (p1 + 256 * (p2 + 256 * (p3 + 256 * (p4 + 256 * (p5 + 256 * (p6 + 256 * (p7 + 256 * 0))))))) =
      ((p0 + p1) + 256 * (p1 + p2)) + 65536 * ((p2 + p3) + 256 * ((p3 + p4) + 256 * ((p4 + p5) + 256 * ((p5 + p6) + 256 * ((p6 + p7) + 256 * p7))))) := by omega
  rw [e1, div_of _ _ _ (by omega)]
  have e2 : ((p0 + p1) + 256 * (p1 + p2)) + 65536 * ((p2 + p3) + 256 * ((p3 + p4) + 256 * ((p4 + p5) + 256 * ((p5 + p6) + 256 * ((p6 + p7) + 256 * p7))))) + ((p2 + p3) + 256 * ((p3 + p4) + 256 * ((p4 + p5) + 256 * ((p5 + p6) + 256 * ((p6 + p7) + 256 * p7))))) =
      ((p0 + p1 + p2 + p3) + 256 * ((p1 + p2 + p3 + p4) + 256 * ((p2 + p3 + p4 + p5) + 256 * (p3 + p4 + p5 + p6)))) + 4294967296 * ((p4 + p5 + p6 + p7) + 256 * ((p5 + p6 + p7) + 256 * ((p6 + p7) + 256 * p7))) := by omega
  rw [e2, div_of _ _ _ (by omega)]
  have e3 : ((p0 + p1 + p2 + p3) + 256 * ((p1 + p2 + p3 + p4) + 256 * ((p2 + p3 + p4 + p5) + 256 * (p3 + p4 + p5 + p6)))) + 4294967296 * ((p4 + p5 + p6 + p7) + 256 * ((p5 + p6 + p7) + 256 * ((p6 + p7) + 256 * p7))) + ((p4 + p5 + p6 + p7) + 256 * ((p5 + p6 + p7) + 256 * ((p6 + p7) + 256 * p7))) =
      (p0 + (p1 + (p2 + (p3 + (p4 + (p5 + (p6 + p7))))))) + 128 * (2 * ((p1 + p2 + p3 + p4) + 256 * ((p2 + p3 + p4 + p5) + 256 * (p3 + p4 + p5 + p6))) + 33554432 * ((p4 + p5 + p6 + p7) + 256 * ((p5 + p6 + p7) + 256 * ((p6 + p7) + 256 * p7))) + 2 * ((p5 + p6 + p7) + 256 * ((p6 + p7) + 256 * p7))) := by omega
  rw [e3, Nat.add_mul_mod_self_left, Nat.mod_eq_of_lt (by omega)]

theorem ones_pop (x : Nat) (hx : x < 2 ^ 64) : ones x = pop x := by
  obtain ⟨a0, r0, h0, rfl⟩ : ∃ a r, a < 256 ∧ x = a + 256 * r := ⟨x % 256, x / 256, by omega, by omega⟩
  obtain ⟨a1, r1, h1, rfl⟩ : ∃ a r, a < 256 ∧ r0 = a + 256 * r := ⟨r0 % 256, r0 / 256, by omega, by omega⟩
  obtain ⟨a2, r2, h2, rfl⟩ : ∃ a r, a < 256 ∧ r1 = a + 256 * r := ⟨r1 % 256, r1 / 256, by omega, by omega⟩
  obtain ⟨a3, r3, h3, rfl⟩ : ∃ a r, a < 256 ∧ r2 = a + 256 * r := ⟨r2 % 256, r2 / 256, by omega, by omega⟩
  obtain ⟨a4, r4, h4, rfl⟩ : ∃ a r, a < 256 ∧ r3 = a + 256 * r := ⟨r3 % 256, r3 / 256, by omega, by omega⟩
  obtain ⟨a5, r5, h5, rfl⟩ : ∃ a r, a < 256 ∧ r4 = a + 256 * r := ⟨r4 % 256, r4 / 256, by omega, by omega⟩
  obtain ⟨a6, r6, h6, rfl⟩ : ∃ a r, a < 256 ∧ r5 = a + 256 * r := ⟨r5 % 256, r5 / 256, by omega, by omega⟩
  obtain ⟨a7, r7, h7, rfl⟩ : ∃ a r, a < 256 ∧ r6 = a + 256 * r := ⟨r6 % 256, r6 / 256, by omega, by omega⟩
  obtain rfl : r7 = 0 := by omega
  have hp : pop (a0 + 256 * (a1 + 256 * (a2 + 256 * (a3 + 256 * (a4 + 256 * (a5 + 256 * (a6 + 256 * (a7 + 256 * 0)))))))) = popN a0 8 + (popN a1 8 + (popN a2 8 + (popN a3 8 + (popN a4 8 + (popN a5 8 + (popN a6 8 + (popN a7 8))))))) := by
    unfold pop
    rw [show 64 = 8 + 56 from rfl, popN_split _ _ h0, show 56 = 8 + 48 from rfl, popN_split _ _ h1, show 48 = 8 + 40 from rfl, popN_split _ _ h2, show 40 = 8 + 32 from rfl, popN_split _ _ h3, show 32 = 8 + 24 from rfl, popN_split _ _ h4,
      show 24 = 8 + 16 from rfl, popN_split _ _ h5, show 16 = 8 + 8 from rfl, popN_split _ _ h6]
    rw [Nat.mul_zero, Nat.add_zero]
  have hs := steps_ofB [a0, a1, a2, a3, a4, a5, a6, a7] (by simp; omega)
  simp only [List.length_cons, List.length_nil, ofB, List.map_cons, List.map_nil] at hs
  rw [hp]
  unfold ones
  simp only [] at hs ⊢
  rw [show (0 + 1 + 1 + 1 + 1 + 1 + 1 + 1 + 1 : Nat) = 8 from rfl] at hs
  rw [hs]
  have c0 := popN_le a0 8
  have c1 := popN_le a1 8
  have c2 := popN_le a2 8
  have c3 := popN_le a3 8
  have c4 := popN_le a4 8
  have c5 := popN_le a5 8
  have c6 := popN_le a6 8
  have c7 := popN_le a7 8
  generalize popN a0 8 = p0 at *
  generalize popN a1 8 = p1 at *
  generalize popN a2 8 = p2 at *
  generalize popN a3 8 = p3 at *
  generalize popN a4 8 = p4 at *
  generalize popN a5 8 = p5 at *
  generalize popN a6 8 = p6 at *
  generalize popN a7 8 = p7 at *
  clear hs hp hx
  exact fold_bytes p0 p1 p2 p3 p4 p5 p6 p7 c0 c1 c2 c3 c4 c5 c6 c7
end Go.Proofs.Ytmoobdljmcephaa
