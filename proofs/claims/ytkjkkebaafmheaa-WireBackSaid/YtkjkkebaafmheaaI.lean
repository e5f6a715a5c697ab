/- Package prog: the walk of Same (slices.Equal over instructions). -/
import Derived.Test.YtkjkkebaafmheaaH
import Derived.Shelf.SlicesE.Kit
namespace Go.Proofs.Ytkjkkebaafmheaa
open Go.RowKit PWireCodes Go.Proofs.YtkjkkebaafmheaaW.PrintWords Go.Proofs.YtkjkkebaafmheaaW.PrintLast Go.Proofs.YtkjkkebaafmheaaW.PrintMore
open Go.Shelf
set_option linter.unusedVariables false
set_option linter.unusedSimpArgs false
def instB (x y : S40) : Bool := x.f0 == y.f0 && (x.f1 == y.f1 && (x.f2 == y.f2 && (x.f3 == y.f3 && (x.f4 == y.f4))))
attribute [local go_sem high] eqA40 in
theorem inst_neq : NeqAt Try.prog 40 (fun x => .agg (encI x).toArray) instB :=
  ⟨fun x y w => by simp only [encI]; go_simp; simp [instB, Bool.not_and], GuardAt.agg _ (by kernel_rfl)⟩
theorem allEq_len : ∀ (xs ys : List S40), xs.length ≠ ys.length → Lib.allEq instB xs ys = false
  | [], [], h => absurd rfl h
  | [], _ :: _, _ => rfl
  | _ :: _, [], _ => rfl
  | x :: xs, y :: ys, h => by
    rw [Lib.allEq, allEq_len xs ys (by simpa using h), Bool.and_false]
theorem equal_calls (A1 A2 : Option Addr) (c d : Nat) (xs ys : List S40) (w : World) (h1 : Kd.C k40 w A1 xs.length xs) (h2 : Kd.C k40 w A2 ys.length ys) (hx : xs.length ≤ 1000000) (hy : ys.length ≤ 1000000) :
    Calls Try.prog 35 #[.slice A1 xs.length c, .slice A2 ys.length d] w fun e w' => e = .returned (.bool (Lib.allEq instB xs ys)) ∧ Drawn0 w w' := by
  by_cases hl : xs.length = ys.length
  · by_cases h0 : 0 < xs.length
    · obtain ⟨b1, o1, rfl, l1, c1⟩ := rowOpen h1 h0
      obtain ⟨b2, o2, rfl, l2, c2⟩ := rowOpen h2 (by omega)
      refine (AnyQ.slices_Equal Try.eqInst 5 (by intro w; kernel_rfl) (by intro w; kernel_rfl) encI (fun _ => rfl) instB inst_neq b1 o1 xs.length c b2 o2 ys.length d xs ys w (Nat.le_refl _) (Nat.le_refl _) (by omega) (by omega) c1 c2).mono ?_
      rintro e w' ⟨rfl, q, rfl⟩
      rw [List.take_length, List.take_length]
      exact ⟨rfl, ⟨q, rfl⟩⟩
    · obtain rfl : xs = [] := List.eq_nil_of_length_eq_zero (by omega)
      obtain rfl : ys = [] := List.eq_nil_of_length_eq_zero (by simpa using hl.symm)
      simp only [List.length_nil]
      go_enter Try.func35, Try.ntmps35
      go_wp2
      go_loopg [13] 1 (fun gk v13 wr => v13 = .int .i64 0 ∧ Drawn0 w wr ∧ 0 < gk)
      case atStart => exact ⟨rfl, ⟨0, rfl⟩, by omega⟩
      case round =>
        obtain ⟨rfl, hd, hg⟩ := hrel
        go_wp2
        go_ret
        exact ⟨rfl, hd⟩
  · have hz : Lib.allEq instB xs ys = false := allEq_len xs ys hl
    have hne : ((xs.length : Int) != (ys.length : Int)) = true := by simp; omega
    rw [hz]
    replace hz := Lib.hid hz
    go_enter Try.func35, Try.ntmps35
    go_wp2
    go_ret
    exact ⟨rfl, ⟨0, rfl⟩⟩
def sameB (l1 : List S40) (a1 b1 : Int) (l2 : List S40) (a2 b2 : Int) : Bool := a1 == a2 && (b1 == b2 && Lib.allEq instB l1 l2)
set_option maxRecDepth 100000 in
set_option maxHeartbeats 4000000 in
theorem same_calls (A1 A2 : Option Addr) (c d : Nat) (xs ys : List S40) (s1 p1 s2 p2 : Int) (w : World) (h1 : Kd.C k40 w A1 xs.length xs) (h2 : Kd.C k40 w A2 ys.length ys) (hx : xs.length ≤ 1000000) (hy : ys.length ≤ 1000000) :
    Calls Try.prog 16 #[.agg #[.slice A1 xs.length c, .int .i64 s1, .int .i64 p1], .agg #[.slice A2 ys.length d, .int .i64 s2, .int .i64 p2]] w fun e w' => e = .returned (.bool (sameB xs s1 p1 ys s2 p2)) ∧ Kp [] w w' := by
  have C35 := Lib.hid (fun W g1 g2 => equal_calls A1 A2 c d xs ys W g1 g2 hx hy)
  have kk := ((Kp.refl [] w).alloc (.cells #[.slice A1 xs.length c, .int .i64 s1, .int .i64 p1] 24)).alloc (.cells #[.slice A2 ys.length d, .int .i64 s2, .int .i64 p2] 24)
  have g1 := Kd.C_below h1 (kk.below (Nat.le_refl _) (by simp))
  have g2 := Kd.C_below h2 (kk.below (Nat.le_refl _) (by simp))
  by_cases e1 : s1 = s2
  · by_cases e2 : p1 = p2
    · have hv : sameB xs s1 p1 ys s2 p2 = Lib.allEq instB xs ys := by simp [sameB, e1, e2]
      rw [hv]
      replace hv := Lib.hid hv
      subst e1 e2
      go_enter Try.func16, Try.ntmps16
      go_wp2_with (go_at_call 35; refine (C35.out _ g1 g2).mono ?_; rintro e W2 ⟨rfl, kd⟩; replace kk := kk.trans (Kp.ofDrawn kd))
      go_ret
      exact ⟨rfl, kk⟩
    · have hv : sameB xs s1 p1 ys s2 p2 = false := by simp [sameB, e2]
      rw [hv]
      replace hv := Lib.hid hv
      subst e1
      have b2 : (p1 == p2) = false := beq_eq_false_iff_ne.mpr e2
      go_enter Try.func16, Try.ntmps16
      go_wp2
      go_ret
      exact ⟨rfl, kk⟩
  · have hv : sameB xs s1 p1 ys s2 p2 = false := by simp [sameB, e1]
    rw [hv]
    replace hv := Lib.hid hv
    have b1 : (s1 == s2) = false := beq_eq_false_iff_ne.mpr e1
    go_enter Try.func16, Try.ntmps16
    go_wp2
    go_ret
    exact ⟨rfl, kk⟩
end Go.Proofs.Ytkjkkebaafmheaa
