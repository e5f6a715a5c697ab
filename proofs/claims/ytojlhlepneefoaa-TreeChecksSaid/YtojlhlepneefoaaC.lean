/- Package tree: the walk of Name. -/
import Derived.Test.YtojlhlepneefoaaA
import Derived.Shelf.SlicesE.IndexFunc
import Derived.Lib.ConvBytes
import Derived.Laws.IdiomStrings
namespace Go.Proofs.Ytojlhlepneefoaa
open Go.RowKit PAll Go.Proofs.YtojlhlepneefoaaW.PrintWords Go.Proofs.YtojlhlepneefoaaW.PrintLast Go.Proofs.YtojlhlepneefoaaW.PrintMore
open Go.Shelf
set_option linter.unusedVariables false
set_option linter.unusedSimpArgs false

def letB (c : UInt8) : Bool := decide (65 ≤ c.toNat) && decide (c.toNat ≤ 90) || (decide (97 ≤ c.toNat) && decide (c.toNat ≤ 122) || (decide (48 ≤ c.toNat) && decide (c.toNat ≤ 57) || decide (c.toNat = 95)))
def nameB (s : List UInt8) : Bool := decide (1 ≤ s.length) && (decide (s.length ≤ 32) && (!(decide (48 ≤ (s.headD 0).toNat) && decide ((s.headD 0).toNat ≤ 57)) && s.all letB))
theorem let_gives (c : UInt8) (w : World) : Calls Try.prog 79 #[.int .u8 (c.toNat : Int)] w fun e w' => e = .returned (.bool (!letB c)) ∧ w' = w := by
  obtain ⟨x, hx⟩ : ∃ x, c.toNat = x := ⟨_, rfl⟩
  have hlt : x < 256 := by rw [← hx]; exact UInt8.toNat_lt c
  unfold letB
  rw [hx]
  by_cases a1 : 65 ≤ x
  · by_cases a2 : x ≤ 90
    · have d1 : decide ((65 : Int) ≤ (x : Int)) = true := decide_eq_true (by omega)
      have d2 : decide ((x : Int) ≤ 90) = true := decide_eq_true (by omega)
      go_enter Try.func79, Try.ntmps79
      go_wp2
      go_ret
      exact ⟨by simp [a1, a2], rfl⟩
    · have d1 : decide ((65 : Int) ≤ (x : Int)) = true := decide_eq_true (by omega)
      have d2 : decide ((x : Int) ≤ 90) = false := decide_eq_false (by omega)
      by_cases a3 : x = 95
      · subst a3
        go_enter Try.func79, Try.ntmps79
        go_wp2
        go_ret
        exact ⟨rfl, rfl⟩
      · have d5 : decide ((48 : Int) ≤ (x : Int)) = true := decide_eq_true (by omega)
        have d6 : decide ((x : Int) ≤ 57) = false := decide_eq_false (by omega)
        have d7 : ((x : Int) == 95) = false := by rw [beq_eq_false_iff_ne]; omega
        by_cases a4 : 97 ≤ x
        · have d3 : decide ((97 : Int) ≤ (x : Int)) = true := decide_eq_true (by omega)
          by_cases a5 : x ≤ 122
          · have d4 : decide ((x : Int) ≤ 122) = true := decide_eq_true (by omega)
            go_enter Try.func79, Try.ntmps79
            go_wp2
            go_ret
            exact ⟨by simp [a4, a5], rfl⟩
          · have d4 : decide ((x : Int) ≤ 122) = false := decide_eq_false (by omega)
            go_enter Try.func79, Try.ntmps79
            go_wp2
            go_ret
            refine ⟨?_, rfl⟩
            simp [a2, a5, a3]; omega
        · have d3 : decide ((97 : Int) ≤ (x : Int)) = false := decide_eq_false (by omega)
          go_enter Try.func79, Try.ntmps79
          go_wp2
          go_ret
          refine ⟨?_, rfl⟩
          simp [a2, a4, a3]; omega
  · have d1 : decide ((65 : Int) ≤ (x : Int)) = false := decide_eq_false (by omega)
    have d3 : decide ((97 : Int) ≤ (x : Int)) = false := decide_eq_false (by omega)
    have d7 : ((x : Int) == 95) = false := by rw [beq_eq_false_iff_ne]; omega
    by_cases a4 : 48 ≤ x
    · have d5 : decide ((48 : Int) ≤ (x : Int)) = true := decide_eq_true (by omega)
      by_cases a5 : x ≤ 57
      · have d6 : decide ((x : Int) ≤ 57) = true := decide_eq_true (by omega)
        go_enter Try.func79, Try.ntmps79
        go_wp2
        go_ret
        exact ⟨by simp [a4, a5], rfl⟩
      · have d6 : decide ((x : Int) ≤ 57) = false := decide_eq_false (by omega)
        go_enter Try.func79, Try.ntmps79
        go_wp2
        go_ret
        refine ⟨?_, rfl⟩
        simp [a1, a5]; omega
    · have d5 : decide ((48 : Int) ≤ (x : Int)) = false := decide_eq_false (by omega)
      go_enter Try.func79, Try.ntmps79
      go_wp2
      go_ret
      refine ⟨?_, rfl⟩
      simp [a1, a4]; omega
theorem let_pred (w : World) : PredAt Try.prog 79 #[] (fun c : UInt8 => .int .u8 (c.toNat : Int)) (fun c => !letB c) w := by
  intro W x hW
  refine (let_gives x W).mono ?_
  rintro e w' ⟨rfl, rfl⟩
  first
    | exact ⟨rfl, 0, rfl⟩
    | exact ⟨0, rfl, rfl⟩
theorem bytesWorld_kp (w : World) (s : ByteArray) : Kp [] w (Lib.bytesWorld w 5 s) :=
  ⟨rfl, rfl, rfl, by rw [Lib.bytesWorld_size]; omega, fun k hk _ => Lib.bytesWorld_at_old w 5 s k hk⟩
theorem all_not (l : List UInt8) : (l.any fun c => !letB c) = !(l.all letB) := by
  induction l with
  | nil => rfl
  | cons c l ih => rw [List.any_cons, List.all_cons, ih]; cases letB c <;> simp
set_option maxRecDepth 100000 in
set_option maxHeartbeats 2000000 in
theorem name_calls (s : List UInt8) (w : World) : Calls Try.prog 34 #[.string ⟨s.toArray⟩] w fun e w' => e = .returned (.bool (nameB s)) ∧ Kp [] w w' := by
  have hsz : (⟨s.toArray⟩ : ByteArray).size = s.length := by simp [ByteArray.size]
  cases s with
  | nil =>
    go_enter Try.func34, Try.ntmps34
    go_wp2
    go_ret
    exact ⟨rfl, Kp.refl _ _⟩
  | cons c t =>
    have he : (⟨(c :: t).toArray⟩ : ByteArray).toList.isEmpty = false := by simp [ByteArray.toList_eq]
    have hpos : 0 < (c :: t).length := by simp
    obtain ⟨s, hs'⟩ : ∃ s, s = c :: t := ⟨_, rfl⟩
    have hh : s.headD 0 = c := by rw [hs']; rfl
    have he2 : s.isEmpty = false := by rw [hs']; rfl
    rw [← hs'] at he hpos hsz ⊢
    have hix : ((⟨s.toArray⟩ : ByteArray)[0]'(by rw [hsz]; exact hpos)).toNat = c.toNat := by subst hs'; rfl
    replace hs' := Lib.hid hs'
    by_cases h32 : s.length ≤ 32
    rotate_left
    · have hv : nameB s = false := by simp [nameB, h32]
      have d1 : decide ((32 : Int) < (s.length : Int)) = true := decide_eq_true (by omega)
      rw [hv]
      replace hv := Lib.hid hv
      replace hh := Lib.hid hh
      go_enter Try.func34, Try.ntmps34
      go_wp2
      go_ret
      exact ⟨rfl, Kp.refl _ _⟩
    have d1 : decide ((32 : Int) < (s.length : Int)) = false := decide_eq_false (by omega)
    obtain ⟨x, hx⟩ : ∃ x, c.toNat = x := ⟨_, rfl⟩
    have hlt : x < 256 := by rw [← hx]; exact UInt8.toNat_lt c
    rw [hx] at hix
    by_cases hd : 48 ≤ x ∧ x ≤ 57
    · have hv : nameB s = false := by simp only [nameB, hh, hx, decide_eq_true hd.1, decide_eq_true hd.2]; simp
      have d2 : decide ((48 : Int) ≤ (x : Int)) = true := decide_eq_true (by omega)
      have d3 : decide ((x : Int) ≤ 57) = true := decide_eq_true (by omega)
      rw [hv]
      replace hv := Lib.hid hv
      replace hh := Lib.hid hh
      replace hx := Lib.hid hx
      go_enter Try.func34, Try.ntmps34
      go_wp2
      go_ret
      exact ⟨rfl, Kp.refl _ _⟩
    · have hv : nameB s = s.all letB := by
        have : (!(decide (48 ≤ x) && decide (x ≤ 57))) = true := by
          rcases Nat.lt_or_ge x 48 with h | h
          · simp [show ¬ 48 ≤ x by omega]
          · simp [show ¬ x ≤ 57 by omega]
        simp only [nameB, hh, hx, this]
        rw [decide_eq_true (show 1 ≤ s.length by omega), decide_eq_true h32]
        simp
      have CF : Hid (∀ W : World, Calls Try.prog 78 #[.slice (some ⟨w.heap.size, 0, none⟩) s.length (grownCap w s.length 0 5), .func (.func 79) #[] #[]] (Lib.bytesWorld w 5 ⟨s.toArray⟩) fun e w' => e = .returned (.bool (!(s.all letB))) ∧ Kp [] w w') := by
        intro _
        have := AnyE.slices_ContainsFunc Try.cfByte (fun c : UInt8 => .int .u8 (c.toNat : Int)) (fun c => !letB c) 79 #[] (fun args w => by go_simp) w.heap.size 0 s.length (grownCap w s.length 0 5) s (Lib.bytesWorld w 5 ⟨s.toArray⟩) (let_pred _) (Nat.le_refl _) (by omega) (fun j hj => by
          rw [Nat.zero_add, Lib.bytesWorld_cell w 5 ⟨s.toArray⟩ j (by rw [hsz]; exact hj)]
          simp [List.getD, hj])
        refine this.mono ?_
        rintro e w' ⟨rfl, q, rfl⟩
        rw [List.take_length, all_not]
        exact ⟨rfl, (bytesWorld_kp w _).drewN q⟩
      have HCV := Lib.run_convert_string_bytes (P := Try.prog) w 9 100 5 ⟨s.toArray⟩ Try.underlying9 Try.underlying100 Try.underlying5
      rw [hv]
      replace hv := Lib.hid hv
      replace hh := Lib.hid hh
      replace hx := Lib.hid hx
      by_cases h48 : 48 ≤ x
      · have d2 : decide ((48 : Int) ≤ (x : Int)) = true := decide_eq_true (by omega)
        have d3 : decide ((x : Int) ≤ 57) = false := decide_eq_false (by omega)
        go_enter Try.func34, Try.ntmps34
        go_wp2_with (go_at_call 78; refine (CF.out w).mono ?_; rintro e w1 ⟨rfl, k1⟩)
        go_ret
        exact ⟨by simp, k1⟩
      · have d2 : decide ((48 : Int) ≤ (x : Int)) = false := decide_eq_false (by omega)
        go_enter Try.func34, Try.ntmps34
        go_wp2_with (go_at_call 78; refine (CF.out w).mono ?_; rintro e w1 ⟨rfl, k1⟩)
        go_ret
        exact ⟨by simp, k1⟩
end Go.Proofs.Ytojlhlepneefoaa
