/- Package wire: the walk of reader.number. -/
import Derived.Test.YtkjkkebaafmheaaG
import Derived.Laws.DeepBits32
namespace Go.Proofs.Ytkjkkebaafmheaa
open Go.RowKit PWireCodes Go.Proofs.YtkjkkebaafmheaaW.PrintWords Go.Proofs.YtkjkkebaafmheaaW.PrintLast Go.Proofs.YtkjkkebaafmheaaW.PrintMore
open Go.Shelf
set_option linter.unusedVariables false
set_option linter.unusedSimpArgs false
/-- One byte of the reader. -/
def oneP (s : List UInt8) (bad : Bool) : Nat × List UInt8 × Bool := match s with | [] => (0, [], true) | c :: t => (c.toNat, t, bad)
theorem oneP_lt (s : List UInt8) (bad : Bool) : (oneP s bad).1 < 256 := by unfold oneP; split; decide; exact UInt8.toNat_lt _
theorem one_ok (s : List UInt8) (bad : Bool) : wire_reader_one.f ⟨s.toArray⟩ bad = some (((oneP s bad).1 : Int), ⟨(oneP s bad).2.1.toArray⟩, (oneP s bad).2.2) := by
  unfold wire_reader_one.f
  cases s with
  | nil => rw [if_pos (by simp [ByteArray.toList_eq])]; rfl
  | cons c t =>
    rw [if_neg (by intro h; exact absurd (congrArg List.length h) (by simp [ByteArray.toList_eq])), if_pos (by simp [ByteArray.size]), if_pos (by simp [ByteArray.size]; omega)]
    have hb : bt ⟨(c :: t).toArray⟩ 0 = (c.toNat : Int) := by
      have := bt_at ⟨(c :: t).toArray⟩ 0 (by simp [ByteArray.size])
      rw [← this]; rfl
    have := UInt8.toNat_lt c
    rw [hb]
    refine congrArg some ?_
    refine Prod.ext ?_ (Prod.ext ?_ rfl)
    · show wrap64 _ = _
      unfold wrap64
      simp [oneP]
      omega
    · apply ByteArray.ext
      simp [oneP, ByteArray.size]
theorem one_calls (g : Nat) (s : List UInt8) (bad : Bool) (w0 w : World) (hI : IsS58 w0 w g ⟨s.toArray⟩ bad) (hB : Below w0.heap.size w0 w) :
    Calls Try.prog 28 #[.pointer (some ⟨g, 0, none⟩)] w fun e w' => e = .returned (.int .i64 ((oneP s bad).1 : Int)) ∧ IsS58 w0 w' g ⟨(oneP s bad).2.1.toArray⟩ (oneP s bad).2.2 ∧ Below w0.heap.size w0 w' ∧ KeepBut w w' g none :=
  wire_reader_one.calls g _ bad _ _ _ w0 w hI hB (one_ok s bad)
def numP : Nat → List UInt8 → Bool → Nat → Nat → Nat × List UInt8 × Bool
  | 0, s, _, _, _ => (0, s, true)
  | f + 1, s, bad, n, sh =>
    if (oneP s bad).1 < 128 then (n + (oneP s bad).1 % 128 * 2 ^ sh, (oneP s bad).2.1, (oneP s bad).2.2 || ((oneP s bad).1 == 0 && decide (0 < sh)))
    else if 16384 < n + (oneP s bad).1 % 128 * 2 ^ sh ∨ 14 < sh + 7 then (0, (oneP s bad).2.1, true) else numP f (oneP s bad).2.1 (oneP s bad).2.2 (n + (oneP s bad).1 % 128 * 2 ^ sh) (sh + 7)
theorem or_eq (n c sh : Nat) (hn : n < 2 ^ sh) (hsh : sh = 0 ∨ sh = 7 ∨ sh = 14) : bits .or .i64 (n : Int) (wrap64 (bits .and .i64 (c : Int) 127 * 2 ^ sh)) = ((n + c % 128 * 2 ^ sh : Nat) : Int) := by
  have h1 : bits .and .i64 (c : Int) 127 = ((c % 128 : Nat) : Int) := by rw [i64_and127]; omega
  rw [h1]
  have hw : wrap64 (((c % 128 : Nat) : Int) * 2 ^ sh) = ((c % 128 * 2 ^ sh : Nat) : Int) := by
    have : c % 128 < 128 := Nat.mod_lt _ (by decide)
    rcases hsh with rfl | rfl | rfl <;> (unfold wrap64; simp; omega)
  rw [hw]
  have hc : bits .or .i64 (n : Int) ((c % 128 * 2 ^ sh : Nat) : Int) = bits .or .i64 ((c % 128 * 2 ^ sh : Nat) : Int) (n : Int) := by simp only [bits, BitVec.or_comm]
  have : c % 128 < 128 := Nat.mod_lt _ (by decide)
  have hb : c % 128 * 2 ^ sh < 2 ^ 22 := by rcases hsh with rfl | rfl | rfl <;> omega
  have hn2 : n < 2 ^ 22 := by rcases hsh with rfl | rfl | rfl <;> omega
  rw [hc, bits_join .i64 22 (by decide) (fun n a b => by rw [IntKind.wrap_i64]; omega) sh _ (n : Int) (by omega) ?_ (by exact_mod_cast hb) (by omega) (by exact_mod_cast hn) (by exact_mod_cast hn2)]
  · push_cast; omega
  · have h0 : c % 128 * 2 ^ sh % 2 ^ sh = 0 := Nat.mul_mod_left _ _
    exact_mod_cast h0
theorem set58 {w0 W : World} {g : Nat} {f0 : ByteArray} {f1 : Bool} (h : IsS58 w0 W g f0 f1) (b : Bool) : IsS58 w0 (W.setCell ⟨g, 1, none⟩ (.bool b)) g f0 b := ⟨setB h.1 1 _, h.2⟩
theorem keepTr {w wr W2 : World} {g : Nat} (k1 : KeepBut w wr g none) (k2 : KeepBut wr W2 g none) : KeepBut w W2 g none :=
  ⟨Nat.le_trans k1.1 k2.1, fun i hi hg hr => (k2.2 i (Nat.lt_of_lt_of_le hi k1.1) hg hr).trans (k1.2 i hi hg hr)⟩
theorem keepSet {w W : World} {g : Nat} (k : KeepBut w W g none) (b : Value) : KeepBut w (W.setCell ⟨g, 1, none⟩ b) g none :=
  ⟨by simpa [World.setCell] using k.1, fun i hi hg hr => (Below.heap_setCell _ _ _ _ (fun e => hg e)).trans (k.2 i hi hg hr)⟩
set_option maxRecDepth 100000 in
set_option maxHeartbeats 4000000 in
theorem number26 (g : Nat) (s : List UInt8) (bad : Bool) (w0 w : World) (hI : IsS58 w0 w g ⟨s.toArray⟩ bad) (hB : Below w0.heap.size w0 w) :
    Calls Try.prog 26 #[.pointer (some ⟨g, 0, none⟩)] w fun e w' => e = .returned (.int .i64 ((numP 3 s bad 0 0).1 : Int)) ∧ IsS58 w0 w' g ⟨(numP 3 s bad 0 0).2.1.toArray⟩ (numP 3 s bad 0 0).2.2 ∧ Below w0.heap.size w0 w' ∧ KeepBut w w' g none := by
  have C := Lib.hid one_calls
  obtain ⟨R, hR⟩ : ∃ R, R = numP 3 s bad 0 0 := ⟨_, rfl⟩
  rw [← hR]
  have HR := Aside0.mk hR
  have HI := Aside0.mk hI
  have HB := Aside0.mk hB
  clear hR hI hB
  go_enter Try.func26, Try.ntmps26
  go_wp2
  go_loopg [3, 4] 3 (fun gk v3 v4 wr => ∃ (n sh f : Nat) (s1 : List UInt8) (b1 : Bool), v3 = .int .i64 n ∧ v4 = .int .i64 sh ∧ 0 < f ∧ f ≤ gk ∧ sh = 7 * (3 - f) ∧ f ≤ 3 ∧ n < 2 ^ sh ∧ Aside0 (R = numP f s1 b1 n sh) ∧ Aside0 (IsS58 w0 wr g ⟨s1.toArray⟩ b1) ∧ Aside0 (Below w0.heap.size w0 wr) ∧ Aside0 (KeepBut w wr g none))
  case atStart => exact ⟨0, 0, 3, s, bad, rfl, rfl, by omega, by omega, rfl, by omega, by decide, HR, HI, HB, Aside0.mk (KeepBut.refl w g none)⟩
  case round =>
    obtain ⟨n, sh, f, s1, b1, rfl, rfl, hf0, hfg, hsh, hf3, hn, hR1, hI1, hB1, hK1⟩ := hrel
    obtain ⟨f0, rfl⟩ : ∃ f0, f = f0 + 1 := ⟨f - 1, by omega⟩
    have hsh3 : sh = 0 ∨ sh = 7 ∨ sh = 14 := by omega
    have HS := Aside0.mk hsh
    clear hsh
    obtain ⟨cN, t1, d1, hone⟩ : ∃ cN t1 d1, oneP s1 b1 = (cN, t1, d1) := ⟨_, _, _, rfl⟩
    have hc : cN < 256 := by have := oneP_lt s1 b1; rw [hone] at this; exact this
    have CC := C.out g s1 b1 w0 wr hI1.out hB1.out
    rw [hone] at CC
    dsimp only at CC
    have hR2 := hR1.out
    rw [numP, hone] at hR2
    dsimp only at hR2
    have ho : bits .or .i64 (n : Int) (wrap64 (bits .and .i64 (cN : Int) 127 * 2 ^ min sh 64)) = ((n + cN % 128 * 2 ^ sh : Nat) : Int) := by rw [Nat.min_eq_left (by omega)]; exact or_eq n cN sh hn hsh3
    have hHR := Aside0.mk hR2
    have CH := Aside0.mk CC
    have HH := Aside0.mk hsh3
    clear hR2 CC hone hsh3
    by_cases q1 : cN < 128
    · have e1 : decide ((cN : Int) < 128) = true := decide_eq_true (by omega)
      cases d1 with
      | true =>
        have hv : R = (n + cN % 128 * 2 ^ sh, t1, true) := by rw [hHR.out]; simp [q1]
        have HV := Aside0.mk hv
        clear hv
        go_wp2_with (go_at_call 28; refine CH.out.mono ?_; rintro e W2 ⟨rfl, i2, b2, k2⟩; have c0 := cellB i2.1 0; have c1 := cellB i2.1 1; have f1 := frozB i2.1 1; simp at c0 c1; have II := Aside0.mk i2; have BB := Aside0.mk b2; have KK := Aside0.mk k2; clear i2 b2 k2)
        go_ret
        rw [HV.out]
        exact ⟨rfl, set58 II.out true, BB.out.setCell (p := ⟨g, 1, none⟩) II.out.2 _, keepSet (keepTr hK1.out KK.out) _⟩
      | false =>
        by_cases q2 : cN = 0
        · have e2 : ((cN : Int) == 0) = true := by simp [q2]
          by_cases q3 : 0 < sh
          · have e3 : decide ((0 : Int) < (sh : Int)) = true := decide_eq_true (by omega)
            have e4 : decide (0 < sh) = true := decide_eq_true q3
            have hv : R = (n + cN % 128 * 2 ^ sh, t1, true) := by rw [hHR.out]; simp [q1, q2, q3]
            have HV := Aside0.mk hv
            clear hv
            clear q2 q3
            go_wp2_with (go_at_call 28; refine CH.out.mono ?_; rintro e W2 ⟨rfl, i2, b2, k2⟩; have c0 := cellB i2.1 0; have c1 := cellB i2.1 1; have f1 := frozB i2.1 1; simp at c0 c1; have II := Aside0.mk i2; have BB := Aside0.mk b2; have KK := Aside0.mk k2; clear i2 b2 k2)
            go_ret
            rw [HV.out]
            exact ⟨rfl, set58 II.out true, BB.out.setCell (p := ⟨g, 1, none⟩) II.out.2 _, keepSet (keepTr hK1.out KK.out) _⟩
          · have e3 : decide ((0 : Int) < (sh : Int)) = false := decide_eq_false (by omega)
            have e4 : decide (0 < sh) = false := decide_eq_false q3
            have hv : R = (n + cN % 128 * 2 ^ sh, t1, false) := by rw [hHR.out]; simp [q1, q3]
            have HV := Aside0.mk hv
            clear hv
            clear q2 q3
            go_wp2_with (go_at_call 28; refine CH.out.mono ?_; rintro e W2 ⟨rfl, i2, b2, k2⟩; have c0 := cellB i2.1 0; have c1 := cellB i2.1 1; have f1 := frozB i2.1 1; simp at c0 c1; have II := Aside0.mk i2; have BB := Aside0.mk b2; have KK := Aside0.mk k2; clear i2 b2 k2)
            go_ret
            rw [HV.out]
            exact ⟨rfl, set58 II.out false, BB.out.setCell (p := ⟨g, 1, none⟩) II.out.2 _, keepSet (keepTr hK1.out KK.out) _⟩
        · have e2 : ((cN : Int) == 0) = false := by simp [q2]
          have hv : R = (n + cN % 128 * 2 ^ sh, t1, false) := by rw [hHR.out]; simp [q1, q2]
          have HV := Aside0.mk hv
          clear hv
          clear q2
          go_wp2_with (go_at_call 28; refine CH.out.mono ?_; rintro e W2 ⟨rfl, i2, b2, k2⟩; have c0 := cellB i2.1 0; have c1 := cellB i2.1 1; have f1 := frozB i2.1 1; simp at c0 c1; have II := Aside0.mk i2; have BB := Aside0.mk b2; have KK := Aside0.mk k2; clear i2 b2 k2)
          go_ret
          rw [HV.out]
          exact ⟨rfl, set58 II.out false, BB.out.setCell (p := ⟨g, 1, none⟩) II.out.2 _, keepSet (keepTr hK1.out KK.out) _⟩
    · have e1 : decide ((cN : Int) < 128) = false := decide_eq_false (by omega)
      obtain ⟨N1, hN1⟩ : ∃ N1, N1 = n + cN % 128 * 2 ^ sh := ⟨_, rfl⟩
      obtain ⟨sh1, hs1⟩ : ∃ sh1, sh1 = sh + 7 := ⟨_, rfl⟩
      have hw : wrap64 ((sh : Int) + 7) = (sh1 : Int) := by have := HH.out; rw [hs1]; unfold wrap64; omega
      have hlt1 : N1 < 2 ^ sh1 := by
        have : cN % 128 < 128 := Nat.mod_lt _ (by decide)
        rw [hN1, hs1]
        rcases HH.out with h | h | h <;> (subst h; omega)
      have HS1 := Aside0.mk hs1
      have HR3 := hHR.out
      rw [if_neg q1, ← hN1, ← hs1] at HR3
      rw [← hN1] at ho
      have HR4 := Aside0.mk HR3
      have HL := Aside0.mk hlt1
      clear HR3 hHR hN1 hs1 hlt1
      by_cases q4 : 16384 < N1
      · have hv : R = (0, t1, true) := by rw [HR4.out, if_pos (Or.inl q4)]
        have HV := Aside0.mk hv
        clear hv
        have e5 : decide ((16384 : Int) < (N1 : Int)) = true := decide_eq_true (by exact_mod_cast q4)
        clear q4
        go_wp2_with (go_at_call 28; refine CH.out.mono ?_; rintro e W2 ⟨rfl, i2, b2, k2⟩; have c0 := cellB i2.1 0; have c1 := cellB i2.1 1; have f1 := frozB i2.1 1; simp at c0 c1; have II := Aside0.mk i2; have BB := Aside0.mk b2; have KK := Aside0.mk k2; clear i2 b2 k2)
        go_ret
        rw [HV.out]
        exact ⟨rfl, set58 II.out true, BB.out.setCell (p := ⟨g, 1, none⟩) II.out.2 _, keepSet (keepTr hK1.out KK.out) _⟩
      · have e5 : decide ((16384 : Int) < (N1 : Int)) = false := decide_eq_false (by exact_mod_cast q4)
        by_cases q5 : 14 < sh1
        · have hv : R = (0, t1, true) := by rw [HR4.out, if_pos (Or.inr q5)]
          have HV := Aside0.mk hv
          clear hv
          have e6 : decide ((14 : Int) < (sh1 : Int)) = true := decide_eq_true (by omega)
          clear q4 q5
          go_wp2_with (go_at_call 28; refine CH.out.mono ?_; rintro e W2 ⟨rfl, i2, b2, k2⟩; have c0 := cellB i2.1 0; have c1 := cellB i2.1 1; have f1 := frozB i2.1 1; simp at c0 c1; have II := Aside0.mk i2; have BB := Aside0.mk b2; have KK := Aside0.mk k2; clear i2 b2 k2)
          go_ret
          rw [HV.out]
          exact ⟨rfl, set58 II.out true, BB.out.setCell (p := ⟨g, 1, none⟩) II.out.2 _, keepSet (keepTr hK1.out KK.out) _⟩
        · have e6 : decide ((14 : Int) < (sh1 : Int)) = false := decide_eq_false (by omega)
          have hv : R = numP f0 t1 d1 N1 sh1 := by rw [HR4.out, if_neg (by omega)]
          have HV := Aside0.mk hv
          have Q5 := Aside0.mk q5
          clear hv q4 q5
          go_wp2_with (go_at_call 28; refine CH.out.mono ?_; rintro e W2 ⟨rfl, i2, b2, k2⟩; have c0 := cellB i2.1 0; have c1 := cellB i2.1 1; have f1 := frozB i2.1 1; simp at c0 c1; have II := Aside0.mk i2; have BB := Aside0.mk b2; have KK := Aside0.mk k2; clear i2 b2 k2)
          obtain ⟨g1, rfl⟩ : ∃ g1, gk = g1 + 1 := ⟨gk - 1, by omega⟩
          go_roundg g1
          case measure => omega
          case rel =>
            have a1 := HS.out
            have a2 := HS1.out
            have a3 := Q5.out
            exact ⟨N1, sh1, f0, t1, d1, rfl, congrArg (Value.int .i64) hw, by omega, by omega, by omega, by omega, HL.out, HV, II, BB, ⟨keepTr hK1.out KK.out⟩⟩
end Go.Proofs.Ytkjkkebaafmheaa
