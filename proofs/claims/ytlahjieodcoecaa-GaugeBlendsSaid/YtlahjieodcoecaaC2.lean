/- gauge.Costs, gauge.Choose: what they compute, for every case (the walk). -/
import Derived.Test.YtlahjieodcoecaaC
import Derived.Laws.Entries
import Derived.KernelRfl
namespace Go.Proofs.Ytlahjieodcoecaa
open Go.RowKit
set_option linter.unusedVariables false

def PINF : Nat := 9218868437227405312
def nF (i : Int) : Nat := floatOfInt .f64 (max i 0)
def mF (i : Int) : Nat := floatOfInt .f64 (max i 0 + 1)
def inF (p : Nat) (b : Int) : Bool := FloatKind.f64.format.order p (nF b) == some .lt || FloatKind.f64.format.order p (nF b) == some .eq
def costs (i n b : Int) (s : Bool) : List Nat :=
  [PINF, fm 4620693217682128896 (fm (nF i) (mF n)),
   if inF (fm (nF i) (mF n)) b then fm 4613937818241073152 (fm (nF i) (mF n)) else PINF,
   if s then fa (fm 4611686018427387904 (mF n)) (fm 4634204016564240384 (nF i)) else PINF,
   if inF (fm (nF i) (mF n)) b then fa (fm 4607182418800017408 (fm (nF i) (mF n))) 4656510908468559872 else PINF]

def five (f : Nat → Nat) : Array Value := #[.float .f64 (f 0), .float .f64 (f 1), .float .f64 (f 2), .float .f64 (f 3), .float .f64 (f 4)]
theorem five_get (f : Nat → Nat) (k : Nat) (h : k < 5) : (five f)[k]? = some (.float .f64 (f k)) := by
  rcases k with _ | _ | _ | _ | _ | _ <;> first | rfl | omega
theorem five_set (f g : Nat → Nat) (k : Nat) (v : Nat) (h : k < 5) (hg : g k = v) (ho : ∀ m, m ≠ k → g m = f m) : (five f).setIfInBounds k (.float .f64 v) = five g := by
  subst hg
  rcases k with _ | _ | _ | _ | _ | _ <;> first | omega | simp [five, ho]

theorem run_store_float (P : Program) (w : World) (a : Addr) (m : Mode) (k : FloatKind) (b : Nat) : (store a (.float k b) m).run P w = stored P w a (.float k b) m := run_store P w a _ m rfl
attribute [local go_sem] run_store_float max2_int

theorem made5 (v : Value) : madeCells #[v] 5 = #[v, v, v, v, v] := by
  apply Array.ext'
  simp [madeCells, List.range, List.range.loop]
theorem max_if (i : Int) : max i 0 = if i < 0 then 0 else i := by
  split <;> omega
theorem wf_i64 {i : Int} (h : (Lit.int .i64 i).wf = true) : -9223372036854775808 ≤ i ∧ i ≤ 9223372036854775807 := by
  simpa [Lit.wf, IntKind.min, IntKind.max, IntKind.signed, IntKind.bits] using h

theorem costs_any (i n b : Int) (s : Bool) (hi : (Lit.int .i64 i).wf = true) (hn : (Lit.int .i64 n).wf = true) (hb : (Lit.int .i64 b).wf = true) (w : World) :
    Calls Try.prog 10 #[.agg #[.int .i64 i, .int .i64 n, .int .i64 b, .bool s]] w fun e w' => (∃ x, e = .returned (.slice (some ⟨x, 0, none⟩) 5 5) ∧ w.heap.size ≤ x ∧ (∀ j, j < 5 → w'.cell? ⟨x, 0 + j, none⟩ = some (.float .f64 ((costs i n b s).getD j 0)))) ∧ Kp [] w w' := by
  have hm1 : ∀ w : World, (Instr.makeSlice 22 (.int .i64 5) (.int .i64 5)).run Try.prog w = .ok (.slice (some ⟨w.heap.size, 0, none⟩) 5 5) (w.alloc (.cells (madeCells #[Value.float .f64 0] 5) 29)) := run_make_row' (P := Try.prog) 22 29 (.float .f64 0) 8 Try.underlying22 (by kernel_rfl) rfl .i64 .i64 5 (by omega) (by omega)
  go_enter Try.func10, Try.ntmps10
  go_wp2_with fail
  obtain ⟨bx, hbx⟩ : ∃ bx, bx = w.heap.size := ⟨_, rfl⟩
  obtain ⟨x, hx⟩ : ∃ x, x = bx + 1 := ⟨_, rfl⟩
  have HBX := Lib.hid hbx
  have HX := Lib.hid hx
  have hne : x ≠ bx := by omega
  rw [← hbx]
  rw [← hx]
  go_loopw [11] (fun i' wr => ∃ j : Nat, j ≤ 5 ∧ i' = .int .i64 j ∧ wr.heap[x]? = some (.cells (five (fun q => if q < j then PINF else 0)) 29 (0, 0)) ∧ wr.heap[bx]? = some (.cells #[.int .i64 i, .int .i64 n, .int .i64 b, .bool s] 24 (0, 0)) ∧ Kp [] w wr) (fun i' _ => 5 - (intOf i').toNat)
  case atStart =>
    refine ⟨0, by omega, rfl, ?_, ?_, ((Kp.refl _ _).alloc _).alloc _⟩
    · rw [hx, hbx]
      show ((w.heap.push _).push _)[_]? = _
      simp only [Array.getElem?_push, Array.size_push, if_pos]
      exact congrArg (fun z => some (Obj.cells z 29 (0, 0))) (made5 _)
    · rw [hbx]
      show ((w.heap.push _).push _)[_]? = _
      simp only [Array.getElem?_push, Array.size_push]
      rw [if_neg (by omega), if_pos trivial]
  case round =>
    obtain ⟨j, hj, rfl, hbk, hbb, hK⟩ := hrel
    clear hx hbx
    by_cases hj5 : j < 5
    · have hdj : decide ((j : Int) < 5) = true := by simp; omega
      have hcell := cellB hbk j
      rw [five_get _ j hj5] at hcell
      have hfrz := frozB hbk j
      go_wp2_with fail
      refine (inf_any _).mono ?_
      rintro e w' ⟨rfl, rfl⟩
      have HB := Lib.hid hbk
      have HBB := Lib.hid hbb
      have HK := Lib.hid hK
      clear hbk hbb hK
      go_wp2_with fail
      go_round
      case rel =>
        refine ⟨j + 1, by omega, by go_num, ?_, ?_, HK.out.setNew (by rw [HX.out, HBX.out]; simp) _⟩
        · rw [setB HB.out, five_set _ (fun q => if q < j + 1 then PINF else 0) j _ hj5 (by simp [PINF]) (fun m hm => by
            by_cases h : m < j
            · rw [if_pos h, if_pos (by omega)]
            · rw [if_neg h, if_neg (by omega)])]
        · rw [Below.heap_setCell _ _ _ _ (by simpa using Ne.symm hne)]
          exact HBB.out
      case measure => simp [intOf]; omega
    · obtain rfl : j = 5 := by omega
      have d0 := cellB hbb 0
      have d1 := cellB hbb 1
      have d2 := cellB hbb 2
      have d3 := cellB hbb 3
      simp at d0 d1 d2 d3
      have c1 := cellB hbk 1
      have c2 := cellB hbk 2
      have c3 := cellB hbk 3
      have c4 := cellB hbk 4
      rw [five_get _ _ (by omega)] at c1 c2 c3 c4
      have f1 := frozB hbk 1
      have f2 := frozB hbk 2
      have f3 := frozB hbk 3
      have f4 := frozB hbk 4
      have HB := Lib.hid hbk
      have HBB := Lib.hid hbb
      have HK := Lib.hid hK
      clear hbk hbb hK hm1
      have hi := wf_i64 hi
      have hn := wf_i64 hn
      have hb := wf_i64 hb
      obtain ⟨I, hI⟩ : ∃ I, (if i < 0 then 0 else i) = I := ⟨_, rfl⟩
      obtain ⟨L, hL⟩ : ∃ L, (if n < 0 then 0 else n) = L := ⟨_, rfl⟩
      obtain ⟨B, hB⟩ : ∃ B, (if b < 0 then 0 else b) = B := ⟨_, rfl⟩
      have fi : floatOfInt .f64 I < 9218868437227405312 := ofInt_fin I (by rw [← hI]; split <;> omega) (by rw [← hI]; split <;> omega)
      have fl : floatOfInt .f64 (L + 1) < 9218868437227405312 := ofInt_fin (L + 1) (by rw [← hL]; split <;> omega) (by rw [← hL]; split <;> omega)
      have fb : floatOfInt .f64 B < 9218868437227405312 := ofInt_fin B (by rw [← hB]; split <;> omega) (by rw [← hB]; split <;> omega)
      obtain ⟨NN, hNN⟩ : ∃ q, floatOfInt .f64 I = q := ⟨_, rfl⟩
      obtain ⟨MM, hMM⟩ : ∃ q, floatOfInt .f64 (L + 1) = q := ⟨_, rfl⟩
      obtain ⟨BB, hBB⟩ : ∃ q, floatOfInt .f64 B = q := ⟨_, rfl⟩
      rw [hNN] at fi
      rw [hMM] at fl
      rw [hBB] at fb
      obtain ⟨ep, lp⟩ := mul_fin NN MM fi fl
      obtain ⟨P, hP⟩ : ∃ q, fm NN MM = q := ⟨_, rfl⟩
      rw [hP] at ep lp
      obtain ⟨e8, l8⟩ := mul_pos' 4620693217682128896 P (by omega) (by omega) lp
      obtain ⟨e3, l3⟩ := mul_pos' 4613937818241073152 P (by omega) (by omega) lp
      obtain ⟨e1, l1⟩ := mul_pos' 4607182418800017408 P (by omega) (by omega) lp
      obtain ⟨e2, l2⟩ := mul_pos' 4611686018427387904 MM (by omega) (by omega) (by omega)
      obtain ⟨e64, l64⟩ := mul_pos' 4634204016564240384 NN (by omega) (by omega) (by omega)
      obtain ⟨ej, lj⟩ := add_pos' _ 4656510908468559872 l1 (by omega)
      obtain ⟨ed, ld⟩ := add_pos' _ _ l2 l64
      obtain ⟨P8, h8⟩ : ∃ q, fm 4620693217682128896 P = q := ⟨_, rfl⟩
      obtain ⟨P3, h3⟩ : ∃ q, fm 4613937818241073152 P = q := ⟨_, rfl⟩
      obtain ⟨P1, h1⟩ : ∃ q, fm 4607182418800017408 P = q := ⟨_, rfl⟩
      obtain ⟨P2, h2⟩ : ∃ q, fm 4611686018427387904 MM = q := ⟨_, rfl⟩
      obtain ⟨P64, h64⟩ : ∃ q, fm 4634204016564240384 NN = q := ⟨_, rfl⟩
      rw [h8] at e8
      rw [h3] at e3
      rw [h1] at e1 ej
      rw [h2] at e2 ed
      rw [h64] at e64 ed
      obtain ⟨PJ, hJ⟩ : ∃ q, fa P1 4656510908468559872 = q := ⟨_, rfl⟩
      obtain ⟨PD, hD⟩ : ∃ q, fa P2 P64 = q := ⟨_, rfl⟩
      rw [hJ] at ej
      rw [hD] at ed
      have rp := fun w' : World => run_float_arith (P := Try.prog) w' .mul 29 .f64 _ _ _ ep
      have r8 := fun w' : World => run_float_arith (P := Try.prog) w' .mul 29 .f64 _ _ _ e8
      have r3 := fun w' : World => run_float_arith (P := Try.prog) w' .mul 29 .f64 _ _ _ e3
      have r1 := fun w' : World => run_float_arith (P := Try.prog) w' .mul 29 .f64 _ _ _ e1
      have r2 := fun w' : World => run_float_arith (P := Try.prog) w' .mul 29 .f64 _ _ _ e2
      have r64 := fun w' : World => run_float_arith (P := Try.prog) w' .mul 29 .f64 _ _ _ e64
      have rj := fun w' : World => run_float_arith (P := Try.prog) w' .add 29 .f64 _ _ _ ej
      have rd := fun w' : World => run_float_arith (P := Try.prog) w' .add 29 .f64 _ _ _ ed
      have hcost : costs i n b s = [PINF, P8, if FloatKind.f64.format.order P BB == some .lt || FloatKind.f64.format.order P BB == some .eq then P3 else PINF, if s then PD else PINF, if FloatKind.f64.format.order P BB == some .lt || FloatKind.f64.format.order P BB == some .eq then PJ else PINF] := by
        unfold costs inF nF mF
        simp only [max_if, hI, hL, hB, hNN, hMM, hBB, hP, h8, h3, h1, h2, h64, hJ, hD]
      have HC := Lib.hid hcost
      clear hcost hP h8 h3 h1 h2 h64 hJ hD ep e8 e3 e1 e2 e64 ej ed
      obtain ⟨v, hv⟩ : ∃ v, (FloatKind.f64.format.order P BB == some .lt || FloatKind.f64.format.order P BB == some .eq) = v := ⟨_, rfl⟩
      have HC' := HC.out
      rw [hv] at HC'
      have HC2 := Lib.hid HC'
      clear HC HC'
      have hxw : w.heap.size ≤ x := by rw [HX.out, HBX.out]; omega
      cases v
      · cases s
        · go_wp2
          go_ret
          refine ⟨⟨x, rfl, hxw, fun j hj => ?_⟩, HK.out.setNew hxw _⟩
          rw [HC2.out, cellB (setB HB.out _ _)]
          rcases j with _ | _ | _ | _ | _ | _ <;> first | omega | simp [five]
        · go_wp2
          go_ret
          refine ⟨⟨x, rfl, hxw, fun j hj => ?_⟩, (HK.out.setNew hxw _).setNew hxw _⟩
          rw [HC2.out, cellB (setB (setB HB.out _ _) _ _)]
          rcases j with _ | _ | _ | _ | _ | _ <;> first | omega | simp [five]
      · cases s
        · go_wp2
          go_ret
          refine ⟨⟨x, rfl, hxw, fun j hj => ?_⟩, ((HK.out.setNew hxw _).setNew hxw _).setNew hxw _⟩
          rw [HC2.out, cellB (setB (setB (setB HB.out _ _) _ _) _ _)]
          rcases j with _ | _ | _ | _ | _ | _ <;> first | omega | simp [five]
        · go_wp2
          go_ret
          refine ⟨⟨x, rfl, hxw, fun j hj => ?_⟩, (((HK.out.setNew hxw _).setNew hxw _).setNew hxw _).setNew hxw _⟩
          rw [HC2.out, cellB (setB (setB (setB (setB HB.out _ _) _ _) _ _) _ _)]
          rcases j with _ | _ | _ | _ | _ | _ <;> first | omega | simp [five]

theorem costs_bits (i n b : Int) (s : Bool) (hi : (Lit.int .i64 i).wf = true) (hn : (Lit.int .i64 n).wf = true) (hb : (Lit.int .i64 b).wf = true) (j : Nat) (hj : j < 5) : (costs i n b s).getD j 0 ≤ 9218868437227405312 := by
  have hi := wf_i64 hi
  have hn := wf_i64 hn
  have hb := wf_i64 hb
  have fi : nF i < 9218868437227405312 := ofInt_fin _ (by omega) (by omega)
  have fl : mF n < 9218868437227405312 := ofInt_fin _ (by omega) (by omega)
  obtain ⟨ep, lp⟩ := mul_fin _ _ fi fl
  have l8 := (mul_pos' 4620693217682128896 _ (by omega) (by omega) lp).2
  have l3 := (mul_pos' 4613937818241073152 _ (by omega) (by omega) lp).2
  have l1 := (mul_pos' 4607182418800017408 _ (by omega) (by omega) lp).2
  have l2 := (mul_pos' 4611686018427387904 _ (by omega) (by omega) (Nat.le_of_lt fl)).2
  have l64 := (mul_pos' 4634204016564240384 _ (by omega) (by omega) (Nat.le_of_lt fi)).2
  have lj := (add_pos' _ 4656510908468559872 l1 (by omega)).2
  have ld := (add_pos' _ _ l2 l64).2
  unfold costs PINF
  rcases j with _ | _ | _ | _ | _ | _
  · exact Nat.le_refl _
  · exact l8
  · show (if _ then _ else _) ≤ _; split <;> omega
  · show (if _ then _ else _) ≤ _; split <;> omega
  · show (if _ then _ else _) ≤ _; split <;> omega
  · omega

theorem choose_any (i n b : Int) (s : Bool) (hi : (Lit.int .i64 i).wf = true) (hn : (Lit.int .i64 n).wf = true) (hb : (Lit.int .i64 b).wf = true) (w : World) :
    Calls Try.prog 15 #[.agg #[.int .i64 i, .int .i64 n, .int .i64 b, .bool s]] w fun e w' => e = .returned (.int .i64 (lst (costs i n b s) 5)) ∧ Kp [] w w' := by
  have H1 := fun w => costs_any i n b s hi hn hb w
  have H2 := costs_bits i n b s hi hn hb
  have HL : (costs i n b s).length = 5 := rfl
  obtain ⟨l, hl⟩ : ∃ l, l = costs i n b s := ⟨_, rfl⟩
  rw [← hl] at H1 H2 HL ⊢
  clear hl hi hn hb
  go_enter Try.func15, Try.ntmps15
  go_wp2_with fail
  refine (H1 _).mono ?_
  rintro e w2 ⟨⟨x, rfl, hx, hc⟩, k2⟩
  go_wp2_with fail
  refine (least_any w2 _ 5 5 l ⟨HL, fun j hj => by have := H2 j hj; omega, fun _ => ⟨x, 0, rfl, hc⟩, by omega⟩).mono ?_
  rintro e w3 ⟨rfl, rfl⟩
  go_wp2
  go_ret
  exact ⟨rfl, ((Kp.refl [] w).alloc _).trans k2⟩
end Go.Proofs.Ytlahjieodcoecaa
