/- Package utf against the document's Encode and Decode: plain law, no program in sight but for the contracts that are joined at the end. -/
import Derived.Test.YtbcmjpmnljfolaaA
namespace Go.Proofs.Ytbcmjpmnljfolaa
open Go.RowKit PUtfPieces Go.Proofs.YtbcmjpmnljfolaaW.PrintWords Go.Proofs.YtbcmjpmnljfolaaW.PrintLast Go.Proofs.YtbcmjpmnljfolaaW.PrintMore
set_option linter.unusedVariables false

def isC (b : Int) : Prop := 128 ≤ b ∧ b < 192
instance (b : Int) : Decidable (isC b) := by unfold isC; exact inferInstance
def r2 (s : ByteArray) : Int := (bt s 0 - 192) * 64 + bt s 1 % 64
def r3 (s : ByteArray) : Int := ((bt s 0 - 224) * 64 + bt s 1 % 64) * 64 + bt s 2 % 64
def r4 (s : ByteArray) : Int := (((bt s 0 - 240) * 64 + bt s 1 % 64) * 64 + bt s 2 % 64) * 64 + bt s 3 % 64
def g2 (s : ByteArray) : Prop := 2 ≤ s.size ∧ (194 ≤ bt s 0 ∧ bt s 0 < 224) ∧ isC (bt s 1)
def g3 (s : ByteArray) : Prop := 3 ≤ s.size ∧ (224 ≤ bt s 0 ∧ bt s 0 < 240) ∧ isC (bt s 1) ∧ isC (bt s 2) ∧ wid (r3 s) = 3
def g4 (s : ByteArray) : Prop := 4 ≤ s.size ∧ (240 ≤ bt s 0 ∧ bt s 0 < 245) ∧ isC (bt s 1) ∧ isC (bt s 2) ∧ isC (bt s 3) ∧ wid (r4 s) = 4
instance (s) : Decidable (g2 s) := by unfold g2; exact inferInstance
instance (s) : Decidable (g3 s) := by unfold g3; exact inferInstance
instance (s) : Decidable (g4 s) := by unfold g4; exact inferInstance
def dec (s : ByteArray) : Int × Int :=
  if s.size = 0 then (-1, 0) else if bt s 0 < 128 then (bt s 0, 1) else if g2 s then (r2 s, 2) else if g3 s then (r3 s, 3) else if g4 s then (r4 s, 4) else (-1, 1)

def encL (r : Int) : List Int :=
  if wid r = 0 then [] else if wid r = 1 then [r] else if wid r = 2 then [192 + r / 64, 128 + r % 64] else if wid r = 3 then [224 + r / 64 / 64, 128 + r / 64 % 64, 128 + r % 64]
  else [240 + r / 64 / 64 / 64, 128 + r / 64 / 64 % 64, 128 + r / 64 % 64, 128 + r % 64]
def codeE (r : Int) : Int := if wid r = 0 then 1 else 0

theorem encode_any (r : Int) (w : World) : Calls Try.prog 9 #[.int .i64 r] w fun e w' => e = .returned (.tuple #[.string (strOfNums (encL r)), .int .i64 (codeE r)]) ∧ Kp [] w w' := by
  unfold encL codeE
  rcases wid_range r with ⟨h, _⟩ | ⟨h, _⟩ | ⟨h, _⟩ | ⟨h, _⟩ | ⟨h, _⟩
  · rw [h]; exact encode0 r h w
  · rw [h]; exact encode1 r h w
  · rw [h]; exact encode2 r h w
  · rw [h]; exact encode3 r h w
  · rw [h]; exact encode4 r h w

theorem refWidth (k : Nat) (r : Int) : burinref01_Width.f (k + 1) r = some (wid r) := by
  have := wid_range r
  unfold wid burinref01_Width.f
  by_cases h0 : r < 0
  · rw [if_pos h0, if_pos (.inl h0)]; simp [burinref01_Width.j0]
  · by_cases h1 : 1114111 < r
    · rw [if_neg h0, if_pos h1, if_pos (.inr (.inl h1))]; simp [burinref01_Width.j0]
    · by_cases h2 : 55296 ≤ r
      · by_cases h3 : r ≤ 57343
        · rw [if_neg h0, if_neg h1, if_pos h2, if_pos (.inr (.inr ⟨h2, h3⟩))]; simp [burinref01_Width.j0, h3]
        · rw [if_neg h0, if_neg h1, if_pos h2, if_neg (by omega)]
          simp only [burinref01_Width.j0]
          rw [if_neg (by simpa using h3)]
          repeat' split
          all_goals first | rfl | (exfalso; omega)
      · rw [if_neg h0, if_neg h1, if_neg h2, if_neg (by omega)]
        simp only [burinref01_Width.j0]
        rw [if_neg (by simp)]
        repeat' split
        all_goals first | rfl | (exfalso; omega)
theorem w64 (x : Int) (h0 : 0 ≤ x) (h1 : x < 9223372036854775808) : wrap64 x = x := by unfold wrap64; omega
theorem refEncode (k : Nat) (r : Int) : burinref01_Encode.f (k + 1) r = some (strOfNums (encL r), codeE r) := by
  unfold burinref01_Encode.f encL codeE
  rw [refWidth k r, Option.bind_some]
  rcases wid_range r with ⟨h, _⟩ | ⟨h, h2⟩ | ⟨h, h2⟩ | ⟨h, h2⟩ | ⟨h, h2⟩
  · rw [h]; rfl
  · rw [h, if_neg (by decide), if_pos rfl, if_neg (by decide), if_pos rfl, if_neg (by decide), show r % 256 = r from by omega]
  · rw [h, if_neg (by decide), if_neg (by decide), if_pos rfl, if_neg (by decide), if_neg (by decide), if_pos rfl, if_neg (by decide)]
    rw [Int.tdiv_eq_ediv_of_nonneg (by omega), Int.tmod_eq_emod_of_nonneg (by omega), w64 (r / 64) (by omega) (by omega), w64 _ (by omega) (by omega), w64 _ (by omega) (by omega), show (192 + r / 64) % 256 = 192 + r / 64 from by omega, show (128 + r % 64) % 256 = 128 + r % 64 from by omega]
  · rw [h, if_neg (by decide), if_neg (by decide), if_neg (by decide), if_pos rfl, if_neg (by decide), if_neg (by decide), if_neg (by decide), if_pos rfl, if_neg (by decide)]
    rw [Int.tdiv_eq_ediv_of_nonneg (by omega), Int.tdiv_eq_ediv_of_nonneg (by omega), w64 (r / 4096) (by omega) (by omega), w64 (r / 64) (by omega) (by omega), Int.tmod_eq_emod_of_nonneg (by omega), Int.tmod_eq_emod_of_nonneg (by omega), w64 _ (by omega) (by omega), w64 _ (by omega) (by omega), w64 _ (by omega) (by omega),
      show (224 + r / 4096) % 256 = 224 + r / 64 / 64 from by omega, show (128 + r / 64 % 64) % 256 = 128 + r / 64 % 64 from by omega, show (128 + r % 64) % 256 = 128 + r % 64 from by omega]
  · rw [h, if_neg (by decide), if_neg (by decide), if_neg (by decide), if_neg (by decide), if_neg (by decide), if_neg (by decide), if_neg (by decide), if_neg (by decide), if_neg (by decide)]
    rw [Int.tdiv_eq_ediv_of_nonneg (by omega), Int.tdiv_eq_ediv_of_nonneg (by omega), Int.tdiv_eq_ediv_of_nonneg (by omega), w64 (r / 262144) (by omega) (by omega), w64 (r / 4096) (by omega) (by omega), w64 (r / 64) (by omega) (by omega), Int.tmod_eq_emod_of_nonneg (by omega), Int.tmod_eq_emod_of_nonneg (by omega), Int.tmod_eq_emod_of_nonneg (by omega), w64 _ (by omega) (by omega), w64 _ (by omega) (by omega), w64 _ (by omega) (by omega), w64 _ (by omega) (by omega),
      show (240 + r / 262144) % 256 = 240 + r / 64 / 64 / 64 from by omega, show (128 + r / 4096 % 64) % 256 = 128 + r / 64 / 64 % 64 from by omega, show (128 + r / 64 % 64) % 256 = 128 + r / 64 % 64 from by omega, show (128 + r % 64) % 256 = 128 + r % 64 from by omega]

theorem bt_get (s : ByteArray) (i : Nat) (h : i < s.size) : bt s (i : Nat) = ((s.data[i]'h).toNat : Int) := by
  unfold bt
  rw [dif_pos (by simpa using h)]
  simp
  rfl
theorem take_bt (s : ByteArray) (n : Nat) (h : n ≤ s.size) : (s.extract 0 n).toList = (List.range n).map fun i => UInt8.ofNat (bt s (i : Nat)).toNat := by
  rw [ByteArray.toList_eq]
  have hd : (s.extract 0 n).data = s.data.extract 0 n := by simp
  have hs : s.data.size = s.size := rfl
  rw [hd]
  apply List.ext_getElem
  · simp
    omega
  · intro i h1 h2
    simp at h1 h2
    have := bt_get s i (by omega)
    simp [this]
theorem nums_list (xs : List Int) : (strOfNums xs).toList = xs.map fun n => UInt8.ofNat n.toNat := by
  unfold strOfNums
  rw [ByteArray.toList_eq]
theorem ofNat_inj (a b : Int) (ha : 0 ≤ a ∧ a < 256) (hb : 0 ≤ b ∧ b < 256) : UInt8.ofNat a.toNat = UInt8.ofNat b.toNat ↔ a = b := by
  constructor
  · intro h
    have h2 := congrArg UInt8.toNat h
    rw [UInt8.toNat_ofNat', UInt8.toNat_ofNat'] at h2
    omega
  · rintro rfl; rfl
theorem eqT (s : ByteArray) (xs : List Int) (n : Nat) (h : n ≤ s.size) (hx : ∀ x ∈ xs, 0 ≤ x ∧ x < 256) : (strOfNums xs).toList = (s.extract 0 n).toList ↔ xs = (List.range n).map fun i => bt s (i : Nat) := by
  rw [nums_list, take_bt s n h]
  constructor
  · intro he
    have hl := congrArg List.length he
    simp at hl
    apply List.ext_getElem
    · simpa using hl
    · intro i h1 h2
      have h3 := congrArg (fun l => l[i]?) he
      simp [h1, show i < n by omega] at h3
      have := (ofNat_inj _ _ (hx _ (List.getElem_mem h1)) (by have := bt_range s (i : Nat); omega)).1 h3
      simpa using this
  · intro he
    rw [he, List.map_map]
    rfl

def sd (s : ByteArray) (n : Nat) : Int :=
  if n = 1 then bt s 0 else if n = 2 then bt s 0 % 32 * 64 + bt s 1 % 64 else if n = 3 then bt s 0 % 16 * 4096 + bt s 1 % 64 * 64 + bt s 2 % 64
  else bt s 0 % 8 * 262144 + bt s 1 % 64 * 4096 + bt s 2 % 64 * 64 + bt s 3 % 64
theorem refSaid (s : ByteArray) (n : Nat) (h1 : 1 ≤ n) (h4 : n ≤ 4) (hs : n ≤ s.size) : burinref01_said.f s (n : Int) = some (sd s n) := by
  have b0 := bt_range s 0
  have b1 := bt_range s 1
  have b2 := bt_range s 2
  have b3 := bt_range s 3
  unfold burinref01_said.f sd
  match n, h1, h4 with
  | 1, _, _ =>
    rw [if_pos (by rfl), if_pos (by omega), if_pos rfl, w64 _ (by omega) (by omega)]
  | 2, _, _ =>
    rw [if_neg (by decide), if_pos (by rfl), if_pos (by omega), if_pos (by omega), if_neg (by decide), if_pos rfl]
    rw [w64 (bt s 0) (by omega) (by omega), w64 (bt s 1) (by omega) (by omega), Int.tmod_eq_emod_of_nonneg (by omega), Int.tmod_eq_emod_of_nonneg (by omega), w64 (bt s 0 % 32 * 64) (by omega) (by omega), w64 _ (by omega) (by omega)]
  | 3, _, _ =>
    rw [if_neg (by decide), if_neg (by decide), if_pos (by rfl), if_pos (by omega), if_pos (by omega), if_pos (by omega), if_neg (by decide), if_neg (by decide), if_pos rfl]
    rw [w64 (bt s 0) (by omega) (by omega), w64 (bt s 1) (by omega) (by omega), w64 (bt s 2) (by omega) (by omega), Int.tmod_eq_emod_of_nonneg (by omega), Int.tmod_eq_emod_of_nonneg (by omega), Int.tmod_eq_emod_of_nonneg (by omega), w64 (bt s 0 % 16 * 4096) (by omega) (by omega), w64 (bt s 1 % 64 * 64) (by omega) (by omega), w64 (bt s 0 % 16 * 4096 + bt s 1 % 64 * 64) (by omega) (by omega), w64 _ (by omega) (by omega)]
  | 4, _, _ =>
    rw [if_neg (by decide), if_neg (by decide), if_neg (by decide), if_pos (by omega), if_pos (by omega), if_pos (by omega), if_pos (by omega), if_neg (by decide), if_neg (by decide), if_neg (by decide)]
    rw [w64 (bt s 0) (by omega) (by omega), w64 (bt s 1) (by omega) (by omega), w64 (bt s 2) (by omega) (by omega), w64 (bt s 3) (by omega) (by omega), Int.tmod_eq_emod_of_nonneg (by omega), Int.tmod_eq_emod_of_nonneg (by omega), Int.tmod_eq_emod_of_nonneg (by omega), Int.tmod_eq_emod_of_nonneg (by omega), w64 (bt s 0 % 8 * 262144) (by omega) (by omega), w64 (bt s 1 % 64 * 4096) (by omega) (by omega), w64 (bt s 0 % 8 * 262144 + bt s 1 % 64 * 4096) (by omega) (by omega), w64 (bt s 2 % 64 * 64) (by omega) (by omega), w64 (bt s 0 % 8 * 262144 + bt s 1 % 64 * 4096 + bt s 2 % 64 * 64) (by omega) (by omega), w64 _ (by omega) (by omega)]

def T (s : ByteArray) (n : Nat) : Prop := wid (sd s n) ≠ 0 ∧ encL (sd s n) = (List.range n).map fun i => bt s (i : Nat)
instance (s n) : Decidable (T s n) := by unfold T; exact inferInstance
theorem encL_range (r : Int) : ∀ x ∈ encL r, 0 ≤ x ∧ x < 256 := by
  unfold encL
  rcases wid_range r with ⟨h, _⟩ | ⟨h, h2⟩ | ⟨h, h2⟩ | ⟨h, h2⟩ | ⟨h, h2⟩ <;> rw [h] <;> simp <;> omega
theorem refStep (k : Nat) (s : ByteArray) (n : Nat) (h1 : 1 ≤ n) (h4 : n ≤ 4) : burinref01_Decode.l0 (k + 3) s (n : Int) =
    if n ≤ s.size then (if T s n then some (sd s n, (n : Int)) else burinref01_Decode.l0 (k + 1) s ((n + 1 : Nat) : Int)) else some (-1, 1) := by
  have hw : wrap64 ((n : Int) + 1) = ((n + 1 : Nat) : Int) := by unfold wrap64; omega
  rw [burinref01_Decode.l0, if_pos (by omega), burinref01_Decode.j1]
  by_cases hs : n ≤ s.size
  · rw [if_pos (by simpa using hs), if_pos hs, refSaid s n h1 h4 hs, Option.bind_some, refEncode k, Option.bind_some, hw]
    by_cases hT : T s n
    · rw [if_pos hT]
      obtain ⟨t1, t2⟩ := hT
      have hc : codeE (sd s n) = 0 := by unfold codeE; rw [if_neg t1]
      simp only [hc]
      rw [if_pos trivial, if_pos (by omega), if_pos (by omega), if_pos]
      rw [Int.toNat_natCast]
      exact (eqT s _ n hs (encL_range _)).2 t2
    · rw [if_neg hT]
      by_cases hc : codeE (sd s n) = 0
      · simp only [hc]
        rw [if_pos trivial, if_pos (by omega), if_pos (by omega), if_neg]
        rw [Int.toNat_natCast]
        intro he
        refine hT ⟨?_, (eqT s _ n hs (encL_range _)).1 he⟩
        intro h0
        unfold codeE at hc
        rw [if_pos h0] at hc
        exact absurd hc (by decide)
      · simp only []
        rw [if_neg hc]
  · rw [if_neg (by simpa using hs), if_neg hs]

theorem T1 (s : ByteArray) : T s 1 ↔ bt s 0 < 128 := by
  have b0 := bt_range s 0
  have e : sd s 1 = bt s 0 := rfl
  unfold T
  rw [e]
  rcases wid_range (bt s 0) with ⟨h, h2⟩ | ⟨h, h2⟩ | ⟨h, h2⟩ | ⟨h, h2⟩ | ⟨h, h2⟩ <;> unfold encL <;> rw [h] <;> simp [List.range_succ] <;> omega
theorem T2 (s : ByteArray) (hn : ¬ bt s 0 < 128) : (2 ≤ s.size ∧ T s 2) ↔ g2 s := by
  have b0 := bt_range s 0
  have b1 := bt_range s 1
  have e : sd s 2 = bt s 0 % 32 * 64 + bt s 1 % 64 := rfl
  unfold T g2 isC
  rw [e]
  rcases wid_range (bt s 0 % 32 * 64 + bt s 1 % 64) with ⟨h, h2⟩ | ⟨h, h2⟩ | ⟨h, h2⟩ | ⟨h, h2⟩ | ⟨h, h2⟩ <;> unfold encL <;> rw [h] <;> simp [List.range_succ] <;> omega
theorem sd3 (s : ByteArray) (h : 224 ≤ bt s 0 ∧ bt s 0 < 240) : sd s 3 = r3 s := by
  have e : sd s 3 = bt s 0 % 16 * 4096 + bt s 1 % 64 * 64 + bt s 2 % 64 := rfl
  rw [e]
  unfold r3
  omega
theorem sd4 (s : ByteArray) (h : 240 ≤ bt s 0 ∧ bt s 0 < 248) : sd s 4 = r4 s := by
  have e : sd s 4 = bt s 0 % 8 * 262144 + bt s 1 % 64 * 4096 + bt s 2 % 64 * 64 + bt s 3 % 64 := rfl
  rw [e]
  unfold r4
  omega
theorem sd2 (s : ByteArray) (h : 194 ≤ bt s 0 ∧ bt s 0 < 224) : sd s 2 = r2 s := by
  have e : sd s 2 = bt s 0 % 32 * 64 + bt s 1 % 64 := rfl
  rw [e]
  unfold r2
  omega
theorem T3 (s : ByteArray) : (3 ≤ s.size ∧ T s 3) ↔ g3 s := by
  have b0 := bt_range s 0
  have b1 := bt_range s 1
  have b2 := bt_range s 2
  by_cases hr : 224 ≤ bt s 0 ∧ bt s 0 < 240
  · have e0 := sd3 s hr
    have e : sd s 3 = bt s 0 % 16 * 4096 + bt s 1 % 64 * 64 + bt s 2 % 64 := rfl
    unfold T g3 isC
    rw [← e0, e]
    rcases wid_range (bt s 0 % 16 * 4096 + bt s 1 % 64 * 64 + bt s 2 % 64) with ⟨h, h2⟩ | ⟨h, h2⟩ | ⟨h, h2⟩ | ⟨h, h2⟩ | ⟨h, h2⟩ <;> unfold encL <;> rw [h] <;> simp [List.range_succ] <;> omega
  · have hg : ¬ g3 s := fun h => hr h.2.1
    have e : sd s 3 = bt s 0 % 16 * 4096 + bt s 1 % 64 * 64 + bt s 2 % 64 := rfl
    refine ⟨fun h => absurd h ?_, fun h => absurd h hg⟩
    unfold T
    rw [e]
    rcases wid_range (bt s 0 % 16 * 4096 + bt s 1 % 64 * 64 + bt s 2 % 64) with ⟨h, h2⟩ | ⟨h, h2⟩ | ⟨h, h2⟩ | ⟨h, h2⟩ | ⟨h, h2⟩ <;> unfold encL <;> rw [h] <;> simp [List.range_succ] <;> omega
theorem T4 (s : ByteArray) : (4 ≤ s.size ∧ T s 4) ↔ g4 s := by
  have b0 := bt_range s 0
  have b1 := bt_range s 1
  have b2 := bt_range s 2
  have b3 := bt_range s 3
  have e : sd s 4 = bt s 0 % 8 * 262144 + bt s 1 % 64 * 4096 + bt s 2 % 64 * 64 + bt s 3 % 64 := rfl
  by_cases hr : 240 ≤ bt s 0 ∧ bt s 0 < 248
  · have e0 := sd4 s hr
    unfold T g4 isC
    rw [← e0, e]
    rcases wid_range (bt s 0 % 8 * 262144 + bt s 1 % 64 * 4096 + bt s 2 % 64 * 64 + bt s 3 % 64) with ⟨h, h2⟩ | ⟨h, h2⟩ | ⟨h, h2⟩ | ⟨h, h2⟩ | ⟨h, h2⟩ <;> unfold encL <;> rw [h] <;> simp [List.range_succ] <;> omega
  · have hg : ¬ g4 s := fun h => hr ⟨h.2.1.1, by have := h.2.1.2; omega⟩
    refine ⟨fun h => absurd h ?_, fun h => absurd h hg⟩
    unfold T
    rw [e]
    rcases wid_range (bt s 0 % 8 * 262144 + bt s 1 % 64 * 4096 + bt s 2 % 64 * 64 + bt s 3 % 64) with ⟨h, h2⟩ | ⟨h, h2⟩ | ⟨h, h2⟩ | ⟨h, h2⟩ | ⟨h, h2⟩ <;> unfold encL <;> rw [h] <;> simp [List.range_succ] <;> omega

theorem refDecode (k : Nat) (s : ByteArray) : burinref01_Decode.f (k + 12) s = some (dec s) := by
  unfold burinref01_Decode.f dec
  have hl : s.toList = [] ↔ s.size = 0 := by
    rw [ByteArray.toList_eq]
    have := data_length s
    constructor
    · intro h; rw [h] at this; simpa using this.symm
    · intro h; exact List.eq_nil_of_length_eq_zero (by omega)
  by_cases h0 : s.size = 0
  · rw [if_pos (hl.2 h0), if_pos h0]
  · rw [if_neg (fun h => h0 (hl.1 h)), if_neg h0]
    have s1 := refStep (k + 9) s 1 (by omega) (by omega)
    have s2 := refStep (k + 7) s 2 (by omega) (by omega)
    have s3 := refStep (k + 5) s 3 (by omega) (by omega)
    have s4 := refStep (k + 3) s 4 (by omega) (by omega)
    have s5 : burinref01_Decode.l0 (k + 3 + 1) s ((4 + 1 : Nat) : Int) = some (-1, 1) := by
      rw [burinref01_Decode.l0, if_neg (by omega), burinref01_Decode.j1, if_neg (by decide)]
    rw [s5] at s4
    have q1 := T1 s
    refine s1.trans ?_
    rw [if_pos (by omega)]
    by_cases h1 : bt s 0 < 128
    · rw [if_pos (q1.2 h1), if_pos h1]
      rfl
    · rw [if_neg (fun h => h1 (q1.1 h)), if_neg h1]
      refine s2.trans ?_
      have q2 := T2 s h1
      by_cases h2 : g2 s
      · obtain ⟨a, b⟩ := q2.2 h2
        rw [if_pos a, if_pos b, if_pos h2, sd2 s h2.2.1]
        rfl
      · rw [if_neg h2]
        by_cases z2 : 2 ≤ s.size
        · rw [if_pos z2, if_neg (fun h => h2 (q2.1 ⟨z2, h⟩))]
          refine s3.trans ?_
          have q3 := T3 s
          by_cases h3 : g3 s
          · obtain ⟨a, b⟩ := q3.2 h3
            rw [if_pos a, if_pos b, if_pos h3, sd3 s h3.2.1]
            rfl
          · rw [if_neg h3]
            by_cases z3 : 3 ≤ s.size
            · rw [if_pos z3, if_neg (fun h => h3 (q3.1 ⟨z3, h⟩))]
              refine s4.trans ?_
              have q4 := T4 s
              by_cases h4 : g4 s
              · obtain ⟨a, b⟩ := q4.2 h4
                rw [if_pos a, if_pos b, if_pos h4, sd4 s ⟨h4.2.1.1, by have := h4.2.1.2; omega⟩]
                rfl
              · rw [if_neg h4]
                by_cases z4 : 4 ≤ s.size
                · rw [if_pos z4, if_neg (fun h => h4 (q4.1 ⟨z4, h⟩))]
                · rw [if_neg z4]
            · rw [if_neg z3, if_neg (fun h : g4 s => z3 (by have := h.1; omega))]
        · rw [if_neg z2, if_neg (fun h : g3 s => z2 (by have := h.1; omega)), if_neg (fun h : g4 s => z2 (by have := h.1; omega))]
end Go.Proofs.Ytbcmjpmnljfolaa
