/- strings.Cut at a separator of one byte, walked. -/
import Derived.Test.YtgjjkpnfnjpfgaaDoorG
import Derived.IntWalk
namespace Go.Proofs.YtgjjkpnfnjpfgaaDoor
open Go.RowKit PAll Go.Proofs.YtgjjkpnfnjpfgaaDoorW.PrintWords Go.Proofs.YtgjjkpnfnjpfgaaDoorW.PrintLast Go.Proofs.YtgjjkpnfnjpfgaaDoorW.PrintMore
open Go.Shelf
set_option linter.unusedVariables false
set_option linter.unusedSimpArgs false
theorem Kp.drewN {S} {a w : World} (h : Kp S a w) (n : Nat) : Kp S a (w.drewN n) := ⟨h.os, h.tape, h.output, h.size, h.block⟩
set_option maxRecDepth 100000 in
set_option maxHeartbeats 2000000 in
theorem cut_hit (s : ByteArray) (i : Nat) (hi : i < s.size) (hs : s.size ≤ 1000000) (hx : Lib.indexByte s.data.toList 36 = (i : Int)) (w : World) : Calls Tryd.prog 17 #[.string s, .string ⟨#[36]⟩] w fun e w' => e = .returned (.tuple #[.string (s.extract 0 i), .string (s.extract (i + 1) s.size), .bool true]) ∧ Kp [] w w' := by
  have C := Lib.hid (Tryd.stringslite_Index_one s 36)
  have d0 : decide ((0 : Int) ≤ (i : Int)) = true := decide_eq_true (by omega)
  have hw : IntKind.i64.wrap ((i : Int) + 1) = (i : Int) + 1 := IntWalk.i64_in _ (by omega)
  have h1 : (i : Int) ≤ (s.size : Int) := by omega
  have h2 : (0 : Int) ≤ (i : Int) + 1 := by omega
  have h3 : (i : Int) + 1 ≤ (s.size : Int) := by omega
  have h4 : ((i : Int) + 1).toNat = i + 1 := by omega
  have h5 : i ≤ s.size := by omega
  have h6 : i + 1 ≤ s.size := by omega
  go_enter Tryd.func17, Tryd.ntmps17
  go_wp2_with (go_at_call 27; refine (C.out w).mono ?_; rintro e w1 ⟨rfl, rfl⟩; rw [hx])
  go_quiet (skip)
  go_wp2_with fail
  go_ret3
  exact ⟨rfl, (Kp.refl [] _).drewN _⟩
set_option maxRecDepth 100000 in
set_option maxHeartbeats 2000000 in
theorem cut_miss (s : ByteArray) (hx : Lib.indexByte s.data.toList 36 = -1) (w : World) : Calls Tryd.prog 17 #[.string s, .string ⟨#[36]⟩] w fun e w' => e = .returned (.tuple #[.string s, .string ⟨#[]⟩, .bool false]) ∧ Kp [] w w' := by
  have C := Lib.hid (Tryd.stringslite_Index_one s 36)
  go_enter Tryd.func17, Tryd.ntmps17
  go_wp2_with (go_at_call 27; refine (C.out w).mono ?_; rintro e w1 ⟨rfl, rfl⟩; rw [hx])
  go_ret3
  exact ⟨rfl, Kp.refl [] _⟩
set_option maxRecDepth 100000 in
set_option maxHeartbeats 2000000 in
theorem cut12 (s a b : ByteArray) (f : Bool) (w : World) (h : Calls Tryd.prog 17 #[.string s, .string ⟨#[36]⟩] w fun e w' => e = .returned (.tuple #[.string a, .string b, .bool f]) ∧ Kp [] w w') : Calls Tryd.prog 9 #[.string s, .string ⟨#[36]⟩] w fun e w' => e = .returned (.tuple #[.string a, .string b, .bool f]) ∧ Kp [] w w' := by
  have C := Lib.hid h
  clear h
  go_enter Tryd.func9, Tryd.ntmps9
  go_wp2_with (go_at_call 17; refine (C.out).mono ?_; rintro e w1 ⟨rfl, k1⟩)
  go_ret3
  exact ⟨rfl, k1⟩
end Go.Proofs.YtgjjkpnfnjpfgaaDoor
