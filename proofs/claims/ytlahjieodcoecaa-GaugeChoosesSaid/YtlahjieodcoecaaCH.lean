/- burinlaw32.GaugeChooses: it answers true, for every slice of floats and every case (the walk). -/
import Derived.Test.YtlahjieodcoecaaRL
import Derived.Test.YtlahjieodcoecaaRC
import Derived.Test.YtlahjieodcoecaaK
import Derived.Deep.RegionHeld3
import Derived.Deep.RegionWith
namespace Go.Proofs.Ytlahjieodcoecaa
open Go.RowKit
set_option linter.unusedVariables false

theorem sx4_step {W w' w'' : World} {bx : Nat} {i n b : Int} {s : Bool} (h : (Kp [] W w' ∧ w'.cell? ⟨bx, 0, none⟩ = some (.int .i64 i) ∧ w'.cell? ⟨bx, 1, none⟩ = some (.int .i64 n) ∧ w'.cell? ⟨bx, 2, none⟩ = some (.int .i64 b) ∧ w'.cell? ⟨bx, 3, none⟩ = some (.bool s))) (k : Kp [] w' w'') : (Kp [] W w'' ∧ w''.cell? ⟨bx, 0, none⟩ = some (.int .i64 i) ∧ w''.cell? ⟨bx, 1, none⟩ = some (.int .i64 n) ∧ w''.cell? ⟨bx, 2, none⟩ = some (.int .i64 b) ∧ w''.cell? ⟨bx, 3, none⟩ = some (.bool s)) := by
  have hb := World.block_lt_of_cell? w' _ h.2.1
  have e := k.block bx hb (by simp)
  refine ⟨h.1.trans k, ?_, ?_, ?_, ?_⟩
  · rw [← h.2.1]; unfold World.cell?; simp only [e]
  · rw [← h.2.2.1]; unfold World.cell?; simp only [e]
  · rw [← h.2.2.2.1]; unfold World.cell?; simp only [e]
  · rw [← h.2.2.2.2]; unfold World.cell?; simp only [e]

theorem ord_self (x : Nat) : ord x x = 0 := by unfold ord; rw [if_neg (by omega), if_neg (by omega)]

def Five (x : Nat) (l : List Nat) (w : World) : Prop := ∀ j, j < 5 → w.cell? ⟨x, 0 + j, none⟩ = some (.float .f64 (l.getD j 0))
theorem five_row {x : Nat} {l : List Nat} {w : World} (hl : l.length = 5) (hb : ∀ j, j < 5 → l.getD j 0 < 18446744073709551616) (h : Five x l w) : FRow w (some ⟨x, 0, none⟩) 5 l := ⟨hl, hb, fun _ => ⟨x, 0, rfl, h⟩, by omega⟩

theorem five_step {x : Nat} {l : List Nat} {w w' : World} (h : Five x l w) (k : Kp [] w w') : Five x l w' := fun j hj => by
  have hb := World.block_lt_of_cell? w _ (h j hj)
  rw [← h j hj]
  unfold World.cell?
  simp only [k.block x hb (by simp)]

set_option maxHeartbeats 8000000 in
theorem law_chooses (W : World) (a : Option Addr) (len cap : Nat) (l : List Nat) (i n b : Int) (s : Bool) (h : FRow W a len l) (hwf : (Lit.int .i64 i).wf = true ∧ (Lit.int .i64 n).wf = true ∧ (Lit.int .i64 b).wf = true) :
    Calls Try.prog 3 #[.slice a len cap, .agg #[.int .i64 i, .int .i64 n, .int .i64 b, .bool s]] W fun e w' => e = .returned (.bool true) ∧ Below W.heap.size W w' := by
  have ht := h.top
  obtain ⟨bx, hbx⟩ : ∃ bx, bx = W.heap.size := ⟨_, rfl⟩
  obtain ⟨w0, hw0⟩ : ∃ w0, w0 = W.alloc (.cells #[.int .i64 i, .int .i64 n, .int .i64 b, .bool s] 24) := ⟨_, rfl⟩
  have k0 : Kp [] W w0 := by rw [hw0]; exact (Kp.refl _ _).alloc _
  have hw0' := Lib.hid hw0
  by_cases h100 : 100 < len
  · clear h hw0 hbx
    go_enter Try.func3, Try.ntmps3
    go_wp2_with fail
    rw [← hw0'.out]
    refine (works_any _).mono ?_
    rintro e w1 ⟨rfl, k⟩
    go_wp2
    go_ret
    exact ⟨rfl, (k0.trans k).below (Nat.le_refl _) (by simp)⟩
  · have hbb : w0.heap[bx]? = some (.cells #[.int .i64 i, .int .i64 n, .int .i64 b, .bool s] 24 (0, 0)) := by rw [hw0, hbx]; exact heap_alloc_new W _
    have d0 := cellB hbb 0
    have d1 := cellB hbb 1
    have d2 := cellB hbb 2
    have d3 := cellB hbb 3
    simp at d0 d1 d2 d3
    have S0 : (Kp [] W w0 ∧ w0.cell? ⟨bx, 0, none⟩ = some (.int .i64 i) ∧ w0.cell? ⟨bx, 1, none⟩ = some (.int .i64 n) ∧ w0.cell? ⟨bx, 2, none⟩ = some (.int .i64 b) ∧ w0.cell? ⟨bx, 3, none⟩ = some (.bool s)) := ⟨k0, d0, d1, d2, d3⟩
    have HF := Lib.hid h
    have D1 := fun w => costs_any i n b s hwf.1 hwf.2.1 hwf.2.2 w
    have D2 := fun w => refCosts_any i n b s hwf.1 hwf.2.1 hwf.2.2 w
    have D3 := fun w => choose_any i n b s hwf.1 hwf.2.1 hwf.2.2 w
    have B5 := costs_bits i n b s hwf.1 hwf.2.1 hwf.2.2
    have L5 : (costs i n b s).length = 5 := rfl
    generalize costs i n b s = m at D1 D2 D3 B5 L5
    have B6 : ∀ j, j < 5 → m.getD j 0 < 18446744073709551616 := fun j hj => by have := B5 j hj; omega
    have C10 : Hid (∀ w', (Kp [] W w' ∧ w'.cell? ⟨bx, 0, none⟩ = some (.int .i64 i) ∧ w'.cell? ⟨bx, 1, none⟩ = some (.int .i64 n) ∧ w'.cell? ⟨bx, 2, none⟩ = some (.int .i64 b) ∧ w'.cell? ⟨bx, 3, none⟩ = some (.bool s)) → Calls Try.prog 10 #[.agg #[.int .i64 i, .int .i64 n, .int .i64 b, .bool s]] w' fun e w'' => (∃ x, e = .returned (.slice (some ⟨x, 0, none⟩) 5 5) ∧ Five x m w'') ∧ Kp [] w' w'' ∧ (Kp [] W w'' ∧ w''.cell? ⟨bx, 0, none⟩ = some (.int .i64 i) ∧ w''.cell? ⟨bx, 1, none⟩ = some (.int .i64 n) ∧ w''.cell? ⟨bx, 2, none⟩ = some (.int .i64 b) ∧ w''.cell? ⟨bx, 3, none⟩ = some (.bool s))) := fun w' k => (D1 w').mono fun e w'' ⟨⟨x, h1, _, h3⟩, h4⟩ => ⟨⟨x, h1, h3⟩, h4, sx4_step k h4⟩
    have C11 : Hid (∀ w', (Kp [] W w' ∧ w'.cell? ⟨bx, 0, none⟩ = some (.int .i64 i) ∧ w'.cell? ⟨bx, 1, none⟩ = some (.int .i64 n) ∧ w'.cell? ⟨bx, 2, none⟩ = some (.int .i64 b) ∧ w'.cell? ⟨bx, 3, none⟩ = some (.bool s)) → Calls Try.prog 11 #[.int .i64 i, .int .i64 n, .int .i64 b, .bool s] w' fun e w'' => (∃ x, e = .returned (.slice (some ⟨x, 0, none⟩) 5 5) ∧ Five x m w'') ∧ Kp [] w' w'' ∧ (Kp [] W w'' ∧ w''.cell? ⟨bx, 0, none⟩ = some (.int .i64 i) ∧ w''.cell? ⟨bx, 1, none⟩ = some (.int .i64 n) ∧ w''.cell? ⟨bx, 2, none⟩ = some (.int .i64 b) ∧ w''.cell? ⟨bx, 3, none⟩ = some (.bool s))) := fun w' k => (D2 w').mono fun e w'' ⟨⟨x, h1, _, h3⟩, h4⟩ => ⟨⟨x, h1, h3⟩, h4, sx4_step k h4⟩
    have HB6 := Lib.hid B6
    have HD3 := Lib.hid D3
    clear h D1 D2 D3 B5 B6 k0 hbb d0 d1 d2 d3 hwf
    have hbx' := Lib.hid hbx
    clear hw0 hbx
    go_enter Try.func3, Try.ntmps3
    go_wp2_with fail
    rw [← hw0'.out, ← hbx'.out]
    go_region_held3 (fun w' => (Kp [] W w' ∧ w'.cell? ⟨bx, 0, none⟩ = some (.int .i64 i) ∧ w'.cell? ⟨bx, 1, none⟩ = some (.int .i64 n) ∧ w'.cell? ⟨bx, 2, none⟩ = some (.int .i64 b) ∧ w'.cell? ⟨bx, 3, none⟩ = some (.bool s))) (first | assumption | exact ⟨Kp.drew (And.left (by assumption)), And.right (by assumption)⟩)
      (first
       | (go_at_call 10; refine (C10.out _ (by assumption)).mono ?_; rintro e wA ⟨⟨xa, rfl, ha⟩, ka, sa⟩)
       | (go_at_call 11; refine (C11.out _ (by assumption)).mono ?_; rintro e wB ⟨⟨xb, rfl, hb⟩, kb, sb⟩))
    · have X : Five xa m wB ∧ Five xb m wB ∧ (Kp [] W wB ∧ wB.cell? ⟨bx, 0, none⟩ = some (.int .i64 i) ∧ wB.cell? ⟨bx, 1, none⟩ = some (.int .i64 n) ∧ wB.cell? ⟨bx, 2, none⟩ = some (.int .i64 b) ∧ wB.cell? ⟨bx, 3, none⟩ = some (.bool s)) := ⟨five_step ha kb, hb, sb⟩
      clear ha hb sa ka kb sb
      obtain ⟨w5, rfl⟩ : ∃ w5, w5 = wB := ⟨_, rfl⟩
      obtain ⟨hA, hB, SS⟩ := X
      clear S0 C10 C11
      go_wp2_with fail
      go_loopw [7] (fun i' wr => ∃ k : Nat, k ≤ 5 ∧ i' = .int .i64 k ∧ Five xa m wr ∧ Five xb m wr ∧ (Kp [] W wr ∧ wr.cell? ⟨bx, 0, none⟩ = some (.int .i64 i) ∧ wr.cell? ⟨bx, 1, none⟩ = some (.int .i64 n) ∧ wr.cell? ⟨bx, 2, none⟩ = some (.int .i64 b) ∧ wr.cell? ⟨bx, 3, none⟩ = some (.bool s))) (fun i' _ => 5 - (intOf i').toNat)
      case atStart => exact ⟨0, by omega, rfl, hA, hB, SS⟩
      case round =>
        clear hA hB SS
        obtain ⟨k, hk, rfl, hA, hB, SS⟩ := hrel
        by_cases hk5 : k < 5
        · have hx := hA k hk5
          have hy := hB k hk5
          rw [Nat.zero_add] at hx hy
          have hvw := HB6.out k hk5
          have hk1 : (k : Int) < 5 := by omega
          have hk0 : (0 : Int) ≤ (k : Int) := by omega
          obtain ⟨v, hv⟩ : ∃ v, v = m.getD k 0 := ⟨_, rfl⟩
          rw [← hv] at hx hy hvw
          have C12 : Hid (∀ w', Calls Try.prog 12 #[.float .f64 v, .float .f64 v] w' fun e w'' => e = .returned (.bool true) ∧ w'' = w') := fun w' => (same_any v v hvw hvw w').mono fun e w'' ⟨h1, h2⟩ => ⟨by rw [h1, ord_self]; rfl, h2.symm⟩
          clear hv
          have HA := Lib.hid hA
          have HB := Lib.hid hB
          have HS := Lib.hid SS
          clear hA hB SS
          go_wp2_with fail
          go_quiet ((go_at_call 12; exact Calls.quiet_of_same (C12.out _)))
          go_wp2_with fail
          go_round
          case rel => exact ⟨k + 1, by omega, by go_num, fun j hj => HA.out j hj, fun j hj => HB.out j hj, HS.out.1.drewN _, HS.out.2⟩
          case measure => simp [intOf]; omega
        · obtain rfl : k = 5 := by omega
          have HFa := frow_below HF.out SS.1
          have HB := Lib.hid hB
          have HS := Lib.hid SS
          clear hA hB SS HF
          go_wp2_with fail
          refine (least_any wr a len cap l HFa).mono ?_
          rintro e w6 ⟨rfl, rfl⟩
          go_wp2_with fail
          refine (refLeast_any wr a len cap l HFa).mono ?_
          rintro e w6 ⟨rfl, k6⟩
          have S6 := sx4_step HS.out k6
          obtain ⟨kk, d0, d1, d2, d3⟩ := S6
          have hB6 := Lib.hid (five_step HB.out k6)
          have KK := Lib.hid kk
          generalize lst l len = y
          clear HFa HB HS k6 kk
          go_wp2_with fail
          refine (HD3.out _).mono ?_
          rintro e w7 ⟨rfl, k7⟩
          have hR := five_row L5 HB6.out (five_step hB6.out k7)
          have KK7 := Lib.hid (KK.out.trans k7)
          clear hB6 KK k7 d0 d1 d2 d3
          go_wp2_with fail
          refine (refLeast_any w7 _ 5 5 m hR).mono ?_
          rintro e w8 ⟨rfl, k8⟩
          have KK8 := Lib.hid (KK7.out.trans k8)
          generalize lst m 5 = z
          clear hR KK7 k8
          go_wp2_with fail
          refine (works_any _).mono ?_
          rintro e w9 ⟨rfl, k9⟩
          go_wp2_with fail
          go_ret
          exact ⟨rfl, (KK8.out.trans k9).below (Nat.le_refl _) (by simp)⟩

theorem law_chooses' (W : World) (a : Option Addr) (len cap : Nat) (l : List Nat) (i n b : Int) (s : Bool) (h : FRow W a len l) (hwf : (Lit.int .i64 i).wf = true ∧ (Lit.int .i64 n).wf = true ∧ (Lit.int .i64 b).wf = true) :
    Calls Try.prog 3 #[.slice a len cap, .agg #[.int .i64 i, .int .i64 n, .int .i64 b, .bool s]] W fun e w' => e = .returned (.bool true) ∧ Below W.heap.size W w' := law_chooses W a len cap l i n b s h hwf
end Go.Proofs.Ytlahjieodcoecaa
