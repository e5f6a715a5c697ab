/- The document's Costs: what it computes (the walk). -/
import Derived.Test.YtlahjieodcoecaaRO
import Derived.Deep.Cut
namespace Go.Proofs.Ytlahjieodcoecaa
open Go.RowKit
set_option linter.unusedVariables false
attribute [local go_sem] run_store_float

theorem fm_one (p : Nat) (h : p ≤ 9218868437227405312) : fm 4607182418800017408 p = p := by
  by_cases h1 : p < 9218868437227405312
  · by_cases h0 : p = 0
    · subst h0; decide +kernel
    · obtain ⟨m, k, e, hv⟩ := read_pos p h1
      have e1 : FloatKind.f64.format.read 4607182418800017408 = .number false 4503599627370496 (-52) := by decide +kernel
      have main : ∀ s e' : Nat, p = e' * 4503599627370496 + s → 0 < s → s < 9007199254740992 → (e' = 0 ∨ 4503599627370496 ≤ s) → vr p = s * 2 ^ e' → fm 4607182418800017408 p = p := by
        intro s e' hp hs hs1 hse hvp
        unfold fm Ieee.Format.mul
        simp only [e1, e, Ieee.Datum.product, Option.map, Option.getD, Ieee.Format.write]
        refine (near_exact (4503599627370496 * m) k 52 s e' _ (by omega) hs hs1 hse ?_ (by omega)).trans hp.symm
        rw [Nat.mul_assoc, hv, hvp, Nat.pow_add, show (2 : Nat) ^ 52 = 4503599627370496 from rfl]
        ac_rfl
      by_cases hs : p < 4503599627370496
      · exact main p 0 (by omega) (by omega) (by omega) (.inl rfl) (by unfold vr; rw [if_pos hs]; simp)
      · exact main (4503599627370496 + p % 4503599627370496) (p / 4503599627370496 - 1) (by omega) (by omega) (by omega) (.inr (by omega)) (by unfold vr; rw [if_neg hs])
  · obtain rfl : p = 9218868437227405312 := by omega
    decide +kernel

set_option maxHeartbeats 16000000 in
theorem refCosts_any (i n b : Int) (s : Bool) (hi : (Lit.int .i64 i).wf = true) (hn : (Lit.int .i64 n).wf = true) (hb : (Lit.int .i64 b).wf = true) (w : World) :
    Calls Try.prog 11 #[.int .i64 i, .int .i64 n, .int .i64 b, .bool s] w fun e w' => (∃ x, e = .returned (.slice (some ⟨x, 0, none⟩) 5 5) ∧ w.heap.size ≤ x ∧ (∀ j, j < 5 → w'.cell? ⟨x, 0 + j, none⟩ = some (.float .f64 ((costs i n b s).getD j 0)))) ∧ Kp [] w w' := by
  have hi := wf_i64 hi
  have hn := wf_i64 hn
  have hb := wf_i64 hb
  obtain ⟨I, hI⟩ : ∃ I, (if i < 0 then 0 else i) = I := ⟨_, rfl⟩
  obtain ⟨L, hL⟩ : ∃ L, (if n < 0 then 0 else n) = L := ⟨_, rfl⟩
  obtain ⟨B, hB⟩ : ∃ B, (if b < 0 then 0 else b) = B := ⟨_, rfl⟩
  have I0 : 0 ≤ I ∧ I ≤ 9223372036854775807 := by rw [← hI]; split <;> omega
  have L0 : 0 ≤ L ∧ L ≤ 9223372036854775807 := by rw [← hL]; split <;> omega
  have B0 : 0 ≤ B ∧ B ≤ 9223372036854775807 := by rw [← hB]; split <;> omega
  have fi : floatOfInt .f64 I < 9218868437227405312 := ofInt_fin I (by omega) (by omega)
  have fl : floatOfInt .f64 (L + 1) < 9218868437227405312 := ofInt_fin (L + 1) (by omega) (by omega)
  have fb : floatOfInt .f64 B < 9218868437227405312 := ofInt_fin B (by omega) (by omega)
  obtain ⟨NN, hNN⟩ : ∃ q, floatOfInt .f64 I = q := ⟨_, rfl⟩
  obtain ⟨MM, hMM⟩ : ∃ q, floatOfInt .f64 (L + 1) = q := ⟨_, rfl⟩
  obtain ⟨BB, hBB⟩ : ∃ q, floatOfInt .f64 B = q := ⟨_, rfl⟩
  rw [hNN] at fi
  rw [hMM] at fl
  rw [hBB] at fb
  obtain ⟨ep, lp⟩ := mul_fin NN MM fi fl
  obtain ⟨P, hP⟩ : ∃ q, fm NN MM = q := ⟨_, rfl⟩
  rw [hP] at ep lp
  obtain ⟨e8, l8⟩ := mul_pos' 4620693217682128896 P (by omega) (by omega) lp
  obtain ⟨e3, l3⟩ := mul_pos' 4613937818241073152 P (by omega) (by omega) lp
  have h1 := fm_one P lp
  obtain ⟨e2, l2⟩ := mul_pos' 4611686018427387904 MM (by omega) (by omega) (by omega)
  obtain ⟨e64, l64⟩ := mul_pos' 4634204016564240384 NN (by omega) (by omega) (by omega)
  obtain ⟨ej, lj⟩ := add_pos' P 4656510908468559872 lp (by omega)
  obtain ⟨ed, ld⟩ := add_pos' _ _ l2 l64
  obtain ⟨P8, h8⟩ : ∃ q, fm 4620693217682128896 P = q := ⟨_, rfl⟩
  obtain ⟨P3, h3⟩ : ∃ q, fm 4613937818241073152 P = q := ⟨_, rfl⟩
  obtain ⟨P2, h2⟩ : ∃ q, fm 4611686018427387904 MM = q := ⟨_, rfl⟩
  obtain ⟨P64, h64⟩ : ∃ q, fm 4634204016564240384 NN = q := ⟨_, rfl⟩
  rw [h8] at e8
  rw [h3] at e3
  rw [h2] at e2 ed
  rw [h64] at e64 ed
  obtain ⟨PJ, hJ⟩ : ∃ q, fa P 4656510908468559872 = q := ⟨_, rfl⟩
  obtain ⟨PD, hD⟩ : ∃ q, fa P2 P64 = q := ⟨_, rfl⟩
  rw [hJ] at ej
  rw [hD] at ed
  have rp := fun w' : World => run_float_arith (P := Try.prog) w' .mul 29 .f64 _ _ _ ep
  have r8 := fun w' : World => run_float_arith (P := Try.prog) w' .mul 29 .f64 _ _ _ e8
  have r3 := fun w' : World => run_float_arith (P := Try.prog) w' .mul 29 .f64 _ _ _ e3
  have r2 := fun w' : World => run_float_arith (P := Try.prog) w' .mul 29 .f64 _ _ _ e2
  have r64 := fun w' : World => run_float_arith (P := Try.prog) w' .mul 29 .f64 _ _ _ e64
  have rj := fun w' : World => run_float_arith (P := Try.prog) w' .add 29 .f64 _ _ _ ej
  have rd := fun w' : World => run_float_arith (P := Try.prog) w' .add 29 .f64 _ _ _ ed
  obtain ⟨v, hv⟩ : ∃ v, (FloatKind.f64.format.order P BB == some .lt || FloatKind.f64.format.order P BB == some .eq) = v := ⟨_, rfl⟩
  have hcost : costs i n b s = [PINF, P8, if v then P3 else PINF, if s then PD else PINF, if v then PJ else PINF] := by
    unfold costs inF nF mF
    simp only [max_if, hI, hL, hB, hNN, hMM, hBB, hP, h8, h3, h1, h2, h64, hJ, hD, hv]
  have HC := Lib.hid hcost
  clear hcost hP h8 h3 h1 h2 h64 hJ hD ep e8 e3 e2 e64 ej ed hi hn hb
  have hi : (i < 0 ∧ I = 0) ∨ (¬ i < 0 ∧ I = i) := by by_cases h : i < 0 <;> simp [h] at hI <;> omega
  have hn : (n < 0 ∧ L = 0) ∨ (¬ n < 0 ∧ L = n) := by by_cases h : n < 0 <;> simp [h] at hL <;> omega
  have hb : (b < 0 ∧ B = 0) ∨ (¬ b < 0 ∧ B = b) := by by_cases h : b < 0 <;> simp [h] at hB <;> omega
  clear hI hL hB
  obtain ⟨x, hx⟩ : ∃ x, x = w.heap.size := ⟨_, rfl⟩
  obtain ⟨w0, hw0⟩ : ∃ w0, w0 = w.alloc (.cells #[.float .f64 9218868437227405312, .float .f64 P8, .float .f64 9218868437227405312, .float .f64 9218868437227405312, .float .f64 9218868437227405312] 29) := ⟨_, rfl⟩
  have hbk : w0.heap[x]? = some (.cells #[.float .f64 9218868437227405312, .float .f64 P8, .float .f64 9218868437227405312, .float .f64 9218868437227405312, .float .f64 9218868437227405312] 29 (0, 0)) := by rw [hw0, hx]; exact heap_alloc_new w _
  have k0 : Kp [] w w0 := by rw [hw0]; exact (Kp.refl _ _).alloc _
  have c2 := cellB hbk 2
  have c3 := cellB hbk 3
  have c4 := cellB hbk 4
  simp at c2 c3 c4
  have f2 := frozB hbk 2
  have f3 := frozB hbk 3
  have f4 := frozB hbk 4
  have hxw : w.heap.size ≤ x := by omega
  have HX := Lib.hid hx
  have HW := Lib.hid hw0
  have HK := Lib.hid k0
  have HB := Lib.hid hbk
  clear hx hw0 k0 hbk
  have hNB : I = B → NN = BB := fun h => by rw [← hNN, ← hBB, h]
  rcases hi with ⟨hi, rfl⟩ | ⟨hi, rfl⟩ <;> rcases hn with ⟨hn, rfl⟩ | ⟨hn, rfl⟩ <;> rcases hb with ⟨hb, rfl⟩ | ⟨hb, rfl⟩
  all_goals (try rw [Int.zero_add] at hMM)
  all_goals (try simp at hNB)
  all_goals (try subst hNB)
  all_goals cases v
  all_goals cases s
  all_goals go_enter Try.func11, Try.ntmps11
  all_goals go_wp2_with fail
  all_goals refine (inf_any _).mono ?_
  all_goals rintro e w1 ⟨rfl, rfl⟩
  all_goals go_upto_region 12 with (fail)
  all_goals rw [← HW.out, ← HX.out]
  all_goals go_wp2
  all_goals go_ret
  all_goals refine ⟨⟨x, rfl, hxw, fun j hj => ?_⟩, ?_⟩
  all_goals first
    | (rw [HC.out, cellB HB.out]; rcases j with _ | _ | _ | _ | _ | _ <;> first | omega | simp [PINF])
    | (rw [HC.out, cellB (setB HB.out _ _)]; rcases j with _ | _ | _ | _ | _ | _ <;> first | omega | simp [PINF])
    | (rw [HC.out, cellB (setB (setB HB.out _ _) _ _)]; rcases j with _ | _ | _ | _ | _ | _ <;> first | omega | simp [PINF])
    | (rw [HC.out, cellB (setB (setB (setB HB.out _ _) _ _) _ _)]; rcases j with _ | _ | _ | _ | _ | _ <;> first | omega | simp [PINF])
    | exact HK.out
    | exact HK.out.setNew hxw _
    | exact (HK.out.setNew hxw _).setNew hxw _
    | exact ((HK.out.setNew hxw _).setNew hxw _).setNew hxw _
end Go.Proofs.Ytlahjieodcoecaa
