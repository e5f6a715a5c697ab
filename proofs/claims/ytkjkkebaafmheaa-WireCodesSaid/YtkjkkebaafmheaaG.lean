/- Package wire, in plain words: a number's bytes, the sum, the written program; and that the walks' functions compute them. -/
import Derived.Test.YtkjkkebaafmheaaF
import Derived.Test.YtkjkkebaafmheaaPWireCodesx4
import Derived.Test.YtkjkkebaafmheaaPWireCodesx5
import Derived.Test.YtkjkkebaafmheaaPWireCodesx6
import Derived.Test.YtkjkkebaafmheaaPWireCodesx7
import Derived.Laws.Bits128
namespace Go.Proofs.Ytkjkkebaafmheaa
open Go.RowKit PWireCodes Go.Proofs.YtkjkkebaafmheaaW.PrintWords Go.Proofs.YtkjkkebaafmheaaW.PrintLast Go.Proofs.YtkjkkebaafmheaaW.PrintMore
open Go.Shelf
set_option linter.unusedVariables false
set_option linter.unusedSimpArgs false
def num (n : Nat) : List UInt8 :=
  if n < 128 then [UInt8.ofNat n] else if n < 16384 then [UInt8.ofNat (n % 128 + 128), UInt8.ofNat (n / 128)]
  else [UInt8.ofNat (n % 128 + 128), UInt8.ofNat (n / 128 % 128 + 128), UInt8.ofNat (n / 16384)]
theorem i64_or128 (y : Int) (h₀ : 0 ≤ y) (h₁ : y < 128) : bits .or .i64 y 128 = y + 128 := by
  have hc : bits .or .i64 y 128 = bits .or .i64 128 y := by simp only [bits, BitVec.or_comm]
  rw [hc, bits_join .i64 8 (by decide) (fun n a b => by rw [IntKind.wrap_i64]; omega) 7 128 y (by decide) (by decide) (by decide) h₀ h₁ (by omega)]
  omega
theorem low7 (n : Nat) : (bits .or .i64 (bits .and .i64 (n : Int) 127) 128) % 256 = ((n % 128 + 128 : Nat) : Int) := by
  rw [i64_and127, i64_or128 _ (by omega) (by omega)]
  omega
theorem wire_num (n : Nat) (h : n < 2097152) (k : Nat) : wire_number.f (k + 3) n = some ⟨(num n).toArray⟩ := by
  unfold wire_number.f num
  by_cases h1 : n < 128
  · rw [if_pos h1, wire_number.l0, if_neg (by omega), if_pos (by decide)]
    rw [show ((n : Int) % 256) = ((n : Nat) : Int) by omega]
    rfl
  rw [if_neg h1]
  by_cases h2 : n < 16384
  · rw [if_pos h2, wire_number.l0, if_pos (by omega), if_pos (by decide), low7, show (n : Int) / 128 = ((n / 128 : Nat) : Int) by omega, wire_number.l0, if_neg (by omega), if_pos (by simp)]
    rw [show (((n / 128 : Nat) : Int) % 256) = ((n / 128 : Nat) : Int) by omega]
    rfl
  rw [if_neg h2, wire_number.l0, if_pos (by omega), if_pos (by decide), low7, show (n : Int) / 128 = ((n / 128 : Nat) : Int) by omega, wire_number.l0, if_pos (by omega), if_pos (by simp), low7,
    show ((n / 128 : Nat) : Int) / 128 = ((n / 16384 : Nat) : Int) by omega, wire_number.l0, if_neg (by omega), if_pos (by simp)]
  rw [show (((n / 16384 : Nat) : Int) % 256) = ((n / 16384 : Nat) : Int) by omega]
  rfl
theorem number_calls (n : Nat) (h : n < 2097152) (w : World) : Calls Try.prog 18 #[.int .i64 (n : Int)] w fun e w' => e = .returned (.string ⟨(num n).toArray⟩) ∧ Kp [] w w' :=
  (wire_number.calls 3 n _ w (wire_num n h 0)).mono fun e w' ⟨he, hb⟩ => ⟨he, Kp.ofBelow hb⟩
theorem num_len (n : Nat) : 1 ≤ (num n).length ∧ (num n).length ≤ 3 := by unfold num; split <;> (try split) <;> simp
def oneL (x : S40) : List UInt8 :=
  UInt8.ofNat x.f0.toNat :: ((if (ownF x.f0).1 then num x.f1.toNat else []) ++ (if (ownF x.f0).2.1 then num x.f2.toNat else []) ++ (if (ownF x.f0).2.2.1 then num x.f3.toNat else []) ++ (if (ownF x.f0).2.2.2 then num x.f4.toNat else []))
def headL (n : Nat) (start slots : Int) : List UInt8 := [66, 82, 49] ++ num start.toNat ++ num slots.toNat ++ num n
def bodyL (l : List S40) (start slots : Int) : List UInt8 := headL l.length start slots ++ l.flatMap oneL
def xorL (l : List UInt8) : UInt8 := l.foldl (· ^^^ ·) 0
def writtenL (l : List S40) (start slots : Int) : List UInt8 := bodyL l start slots ++ [xorL (bodyL l start slots)]
theorem fields_ok (op : Int) : wire_fields.f op = some (ownF op) := by
  unfold wire_fields.f ownF
  by_cases h1 : op = 1
  · simp [h1]
  by_cases h2 : op = 2
  · simp [h2]
  by_cases h3 : op = 3
  · simp [h3]
  by_cases h4 : op = 4
  · simp [h4]
  simp [h1, h2, h3, h4]
theorem wfields_calls (op : Int) (w : World) : Calls Try.prog 20 #[.int .i64 op] w fun e w' => e = .returned (.tuple #[.bool (ownF op).1, .bool (ownF op).2.1, .bool (ownF op).2.2.1, .bool (ownF op).2.2.2]) ∧ Drawn0 w w' :=
  wire_fields.calls op _ _ _ _ w (fields_ok op)
/-- A used builder. -/
def UB (B b : Nat) (bs : List UInt8) (w : World) : Prop := Lib.BuilderAt 43 5 B b (.pointer (some ⟨b, 0, none⟩)) (Lib.byteCells bs) w
def UBP (B b : Nat) (bs : List UInt8) (w w' : World) : Prop := UB B b bs w' ∧ Below B w w' ∧ Lib.OthersKept 5 (some b) w w'
theorem keptOf {w w' : World} {b : Option Nat} (k : Kp [] w w') : Lib.OthersKept 5 b w w' := fun i o h _ _ => kblk k h
theorem UB.kp {B b : Nat} {bs : List UInt8} {w w' : World} (h : UB B b bs w) (k : Kp [] w w') : UB B b bs w' := by
  obtain ⟨hB, v, hb, ho, hn⟩ := h
  refine ⟨hB, v, kblk k hb, own_move ho (fun i hi => ?_), hn⟩
  obtain ⟨c, hc⟩ := own_typed ho i hi
  exact (kblk k hc).trans hc.symm
theorem UBP.refl {B b : Nat} {bs : List UInt8} {w : World} (h : UB B b bs w) : UBP B b bs w w := ⟨h, Below.refl _ _, Lib.OthersKept.refl _ _ _⟩
theorem UBP.trans {B b : Nat} {bs cs : List UInt8} {a c d : World} (h : UBP B b bs a c) (k : UBP B b cs c d) : UBP B b cs a d := ⟨k.1, h.2.1.trans k.2.1, h.2.2.trans k.2.2⟩
theorem UBP.kp {B b : Nat} {bs : List UInt8} {a w w' : World} (h : UBP B b bs a w) (k : Kp [] w w') (hB : B ≤ w.heap.size) : UBP B b bs a w' :=
  ⟨h.1.kp k, h.2.1.trans (k.below hB (by simp)), h.2.2.trans (keptOf k)⟩
theorem ubs_calls (B b : Nat) (bs : List UInt8) (s : List UInt8) (w : World) (h : UB B b bs w) (hlen : bs.length + s.length ≤ 140737488355328) (hBw : B ≤ w.heap.size) :
    Calls Try.prog 17 #[.pointer (some ⟨b, 0, none⟩), .string ⟨s.toArray⟩] w fun e w' => e = .returned (.tuple #[.int .i64 s.length, .nilIface]) ∧ UBP B b (bs ++ s) w w' := by
  refine (ws_calls B b _ ⟨s.toArray⟩ w (Or.inr h) (by rw [Lib.byteCells_length]; exact hlen) hBw).mono ?_
  rintro e w' ⟨rfl, h1, h2, h3⟩
  refine ⟨rfl, ?_, h2, h3⟩
  unfold UB
  rw [Lib.byteCells_append]
  exact h1
theorem ubb_calls (B b : Nat) (bs : List UInt8) (c : Int) (h0 : 0 ≤ c) (h1 : c < 256) (w : World) (h : UB B b bs w) (hlen : bs.length + 1 ≤ 140737488355328) (hBw : B ≤ w.heap.size) :
    Calls Try.prog 19 #[.pointer (some ⟨b, 0, none⟩), .int .u8 c] w fun e w' => e = .returned .nilIface ∧ UBP B b (bs ++ [UInt8.ofNat c.toNat]) w w' := by
  refine (wb_calls B b _ c w (Or.inr h) (by rw [Lib.byteCells_length]; exact hlen) hBw).mono ?_
  rintro e w' ⟨rfl, k1, k2, k3⟩
  refine ⟨rfl, ?_, k2, k3⟩
  unfold UB
  rw [Lib.byteCells_append]
  have : Lib.byteCells [UInt8.ofNat c.toNat] = [.int .u8 c] := by
    simp only [Lib.byteCells, List.map_cons, List.map_nil, UInt8.toNat_ofNat']
    congr 2
    omega
  rw [this]
  exact k1
def putL (t : Bool) (x : Int) : List UInt8 := if t then num x.toNat else []
theorem putL_len (t : Bool) (x : Int) : (putL t x).length ≤ 3 := by unfold putL; split; exact (num_len _).2; simp
set_option maxHeartbeats 2000000 in
set_option maxRecDepth 100000 in
theorem put_calls (B b : Nat) (bs : List UInt8) (t : Bool) (x : Int) (w : World) (h : UB B b bs w) (hx : t = true → 0 ≤ x ∧ x < 2097152) (hlen : bs.length + 3 ≤ 140737488355328) (hBw : B ≤ w.heap.size) :
    Calls Try.prog 21 #[.bool t, .int .i64 x, .pointer (some ⟨b, 0, none⟩)] w fun e w' => e = .returned (.tuple #[]) ∧ UBP B b (bs ++ putL t x) w w' := by
  cases t with
  | false =>
    go_enter Try.func21, Try.ntmps21
    go_wp2
    go_end0
    exact ⟨rfl, by rw [show putL false x = [] from rfl, List.append_nil]; exact UBP.refl h⟩
  | true =>
    obtain ⟨x0, x1⟩ := hx rfl
    obtain ⟨n, rfl⟩ := Int.eq_ofNat_of_zero_le x0
    have C18 := Lib.hid (number_calls n (by omega))
    have C17 := Lib.hid (fun w h hB => ubs_calls B b bs (num n) w h (by have := (num_len n).2; omega) hB)
    go_enter Try.func21, Try.ntmps21
    go_wp2_with (first
      | (go_at_call 18; refine (C18.out _).mono ?_; rintro e w1 ⟨rfl, k1⟩)
      | (go_at_call 17; refine (C17.out _ (h.kp k1) (Nat.le_trans hBw k1.size)).mono ?_; rintro e w2 ⟨rfl, k2⟩))
    go_end0
    exact ⟨rfl, k2.1, (k1.below hBw (by simp)).trans k2.2.1, (keptOf k1).trans k2.2.2⟩
end Go.Proofs.Ytkjkkebaafmheaa
