/- Package edge: At and Holds, the reference's Word; what they compute. -/
import Derived.Test.YtkfkdinpmfldaaaE
namespace Go.Proofs.Ytkfkdinpmfldaaa
open Go.RowKit
set_option linter.unusedVariables false

theorem between_any (a b : Int) (w : World) : Calls Try.prog 7 #[.int .i64 a, .int .i64 b] w fun e w' => e = .returned (.int .i64 (btw (bO a) (bO b))) ∧ Kp [] w w' :=
  between_one a b _ _ rfl rfl w _ _ _ _ rfl rfl rfl rfl

/-- The byte at a place, or -1. -/
def byI (s : ByteArray) (i : Int) : Int := if h : 0 ≤ i ∧ i < s.size then ((s[i.toNat]'(by omega)).toNat : Int) else -1
def atV (s : ByteArray) (i : Int) : Int := if i < 0 ∨ s.size < i then 0 else btw (byI s (i - 1)) (byI s i)

theorem bO_byte (x : UInt8) : bO (wrap64 (x.toNat : Int)) = x.toNat := by
  have := x.toNat_lt
  unfold bO wrap64
  omega
theorem bO_none : bO (-1) = -1 := by decide
theorem byI_in {s : ByteArray} {i : Int} (h0 : 0 ≤ i) (h1 : i < s.size) (j : Nat) (hj : j = i.toNat) (h : j < s.size) : byI s i = (s[j].toNat : Int) := by
  subst hj
  unfold byI; rw [dif_pos ⟨h0, h1⟩]
theorem byI_out {s : ByteArray} {i : Int} (h : i < 0 ∨ (s.size : Int) ≤ i) : byI s i = -1 := by
  unfold byI; rw [dif_neg (by omega)]

theorem at_any (s : ByteArray) (i : Int) (hs : s.size ≤ 140737488351232) (w : World) : Calls Try.prog 11 #[.string s, .int .i64 i] w fun e w' => e = .returned (.int .i64 (atV s i)) ∧ Kp [] w w' := by
  obtain ⟨x, hx⟩ : ∃ x, x = atV s i := ⟨_, rfl⟩
  rw [← hx]
  unfold atV at hx
  by_cases h0 : i < 0
  · rw [if_pos (.inl h0)] at hx
    subst hx
    go_enter Try.func11, Try.ntmps11
    go_wp2_with fail
    go_ret
    exact ⟨rfl, Kp.refl _ _⟩
  by_cases h1 : (s.size : Int) < i
  · rw [if_pos (.inr h1)] at hx
    subst hx
    go_enter Try.func11, Try.ntmps11
    go_wp2_with fail
    go_ret
    exact ⟨rfl, Kp.refl _ _⟩
  rw [if_neg (by omega)] at hx
  have HX := Lib.hid hx
  clear hx
  by_cases h2 : 0 < i
  · by_cases h3 : i < s.size
    · go_enter Try.func11, Try.ntmps11
      go_wp2_with fail
      refine (between_any _ _ _).mono ?_
      rintro e w1 ⟨rfl, k1⟩
      go_wp2_with fail
      go_ret
      refine ⟨congrArg (fun z => Ending.returned (.int .i64 z)) ?_, k1⟩
      rw [HX.out, bO_byte, bO_byte, byI_in (by omega) (by omega) (i.toNat - 1) (by omega) (by omega), byI_in (by omega) (by omega) i.toNat rfl (by omega)]
    · go_enter Try.func11, Try.ntmps11
      go_wp2_with fail
      refine (between_any _ _ _).mono ?_
      rintro e w1 ⟨rfl, k1⟩
      go_wp2_with fail
      go_ret
      refine ⟨congrArg (fun z => Ending.returned (.int .i64 z)) ?_, k1⟩
      rw [HX.out, bO_byte, bO_none, byI_in (by omega) (by omega) (i.toNat - 1) (by omega) (by omega), byI_out (.inr (by omega))]
  · obtain rfl : i = 0 := by omega
    by_cases h3 : 0 < s.size
    · go_enter Try.func11, Try.ntmps11
      go_wp2_with fail
      refine (between_any _ _ _).mono ?_
      rintro e w1 ⟨rfl, k1⟩
      go_wp2_with fail
      go_ret
      refine ⟨congrArg (fun z => Ending.returned (.int .i64 z)) ?_, k1⟩
      rw [HX.out, bO_byte, bO_none, byI_in (i := 0) (by omega) (by omega) 0 rfl (by omega), byI_out (.inl (by omega))]
    · go_enter Try.func11, Try.ntmps11
      go_wp2_with fail
      refine (between_any _ _ _).mono ?_
      rintro e w1 ⟨rfl, k1⟩
      go_wp2_with fail
      go_ret
      refine ⟨congrArg (fun z => Ending.returned (.int .i64 z)) ?_, k1⟩
      rw [HX.out, bO_none, byI_out (i := 0) (.inr (by omega)), byI_out (.inl (by omega))]

theorem and1 (x : Int) (h0 : 0 ≤ x) (h1 : x < 4611686018427387904) : bits .and .i64 x 1 = x % 2 := by
  have := bits_mask .i64 62 (by decide) (fun n h0 h1 => by rw [IntKind.wrap_i64]; omega) 1 (by decide) x h0 (by simpa using h1)
  simpa using this

/-- Is this bit set? -/
def hb (x k : Int) : Bool := (x / (2 ^ k.toNat : Nat)) % 2 == 1

theorem btw_lo (a b : Int) : 0 ≤ btw a b ∧ btw a b ≤ 94 := by
  unfold btw
  split <;> split <;> split <;> (try split) <;> (try split) <;> omega
theorem atV_lo (s : ByteArray) (i : Int) : 0 ≤ atV s i ∧ atV s i ≤ 94 := by
  unfold atV
  split
  · omega
  · exact btw_lo _ _

theorem hb_one (x k : Int) (d : Int) (h0 : 0 ≤ x) (h1 : x ≤ 94) (hd : d = (2 ^ k.toNat : Nat)) (hp : 0 < d) : (bits .and .i64 (x / d) 1 == 1) = hb x k := by
  unfold hb
  rw [← hd, and1]
  · exact Int.ediv_nonneg h0 (by omega)
  · have := Int.ediv_le_self d h0
    omega

theorem has_any (x k : Int) (h0 : 0 ≤ x) (h1 : x ≤ 94) (hk : 1 ≤ k) (hk' : k ≤ 6) (w : World) : Calls Try.prog 16 #[.int .i64 x, .int .i64 k] w fun e w' => e = .returned (.bool (hb x k)) ∧ w = w' := by
  rcases (show k = 1 ∨ k = 2 ∨ k = 3 ∨ k = 4 ∨ k = 5 ∨ k = 6 from by omega) with rfl | rfl | rfl | rfl | rfl | rfl
  all_goals
    go_enter Try.func16, Try.ntmps16
    go_wp2
    go_ret
    exact ⟨congrArg (fun z => Ending.returned (.bool z)) (hb_one x _ _ h0 h1 (by decide) (by decide)), rfl⟩

def holdsV (k : Int) (s : ByteArray) (i : Int) : Bool := if 1 ≤ k ∧ k ≤ 6 then hb (atV s i) k else false

theorem holds_any (k : Int) (s : ByteArray) (i : Int) (hs : s.size ≤ 140737488351232) (w : World) : Calls Try.prog 13 #[.int .i64 k, .string s, .int .i64 i] w fun e w' => e = .returned (.bool (holdsV k s i)) ∧ Kp [] w w' := by
  unfold holdsV
  by_cases hk : 1 ≤ k ∧ k ≤ 6
  · rw [if_pos hk]
    have hlo := atV_lo s i
    have h := at_any s i hs w
    obtain ⟨x, hx⟩ : ∃ x, x = atV s i := ⟨_, rfl⟩
    rw [← hx] at h hlo ⊢
    obtain ⟨hlo1, hlo2⟩ := hlo
    clear hx
    rcases (show k = 1 ∨ k = 2 ∨ k = 3 ∨ k = 4 ∨ k = 5 ∨ k = 6 from by omega) with rfl | rfl | rfl | rfl | rfl | rfl
    all_goals
      go_enter Try.func13, Try.ntmps13
      go_wp2_with fail
      refine h.mono ?_
      rintro e w1 ⟨rfl, k1⟩
      go_wp2_with fail
      go_ret
      exact ⟨congrArg (fun z => Ending.returned (.bool z)) (hb_one x _ _ hlo1 hlo2 (by decide) (by decide)), k1⟩
  · rw [if_neg hk]
    by_cases h1 : 1 ≤ k
    all_goals
      go_enter Try.func13, Try.ntmps13
      go_wp2_with fail
      go_ret
      exact ⟨rfl, Kp.refl _ _⟩

theorem wordRef_any (c : Int) (w : World) : Calls Try.prog 10 #[.int .i64 c] w fun e w' => e = .returned (.bool (wB c)) ∧ w = w' := by
  obtain ⟨b, hb⟩ : ∃ b, b = wB c := ⟨_, rfl⟩
  rw [← hb]
  unfold wB at hb
  rcases (show c < 48 ∨ (48 ≤ c ∧ c ≤ 57) ∨ (57 < c ∧ c < 65) ∨ (65 ≤ c ∧ c ≤ 90) ∨ (90 < c ∧ c < 95) ∨ c = 95 ∨ c = 96 ∨ (97 ≤ c ∧ c ≤ 122) ∨ 122 < c from by omega) with h | ⟨h, h'⟩ | ⟨h, h'⟩ | ⟨h, h'⟩ | ⟨h, h'⟩ | rfl | rfl | ⟨h, h'⟩ | h
  all_goals
    have HB := Lib.hid hb
    clear hb
    go_enter Try.func10, Try.ntmps10
    go_wp2
    go_ret
    refine ⟨congrArg (fun z => Ending.returned (.bool z)) ?_, rfl⟩
    rw [HB.out, Bool.eq_iff_iff]
    simp
    try omega
end Go.Proofs.Ytkfkdinpmfldaaa
