/- Package tree: slices.ContainsFunc over nodes; the walk of nullable. -/
import Derived.Test.YtojlhlepneefoaaA
import Derived.Shelf.SlicesQ.IndexFunc
import Derived.Laws.EntriesVeiled
namespace Go.Proofs.Ytojlhlepneefoaa
open Go.RowKit PAll Go.Proofs.YtojlhlepneefoaaW.PrintWords Go.Proofs.YtojlhlepneefoaaW.PrintLast Go.Proofs.YtojlhlepneefoaaW.PrintMore
open Go.Shelf
set_option linter.unusedVariables false
set_option linter.unusedSimpArgs false

abbrev NVokF (w : World) := { v : NV // v.ok w }
theorem zero_ok (w : World) : (⟨z25, none, 0, none, 0⟩ : NV).ok w := ⟨Nat.le_refl _, ⟨rfl, by decide, fun h => absurd h (by decide)⟩, Nat.le_refl _, ⟨rfl, by decide, fun h => absurd h (by decide)⟩⟩
theorem index_nil (A : Option Addr) (c : Nat) (fv : Value) (w : World) : Calls Try.prog 132 #[.slice A 0 c, fv] w fun e w' => e = .returned (.int .i64 (-1)) ∧ Kp [] w w' := by
  go_enter Try.func132, Try.ntmps132
  go_wp2
  go_loopg [8] 1 (fun gk v8 wr => v8 = .int .i64 0 ∧ Kp [] w wr)
  case atStart => exact ⟨rfl, Kp.refl _ _⟩
  case round =>
    obtain ⟨rfl, hk⟩ := hrel
    go_wp2
    go_ret
    exact ⟨rfl, hk⟩
theorem contains_nil (A : Option Addr) (c : Nat) (fv : Value) (w : World) : Calls Try.prog 111 #[.slice A 0 c, fv] w fun e w' => e = .returned (.bool false) ∧ Kp [] w w' := by
  go_enter Try.func111, Try.ntmps111
  go_wp2_with (go_at_call 132; refine (index_nil A c fv _).mono ?_; rintro e w1 ⟨rfl, k1⟩)
  go_ret
  exact ⟨rfl, k1⟩
theorem contains_calls (A : Option Addr) (c : Nat) (l : List S25) (w : World) (h : Kd.C k25 w A l.length l) (g : Nat) (lb : Array Value) (p : S25 → Bool) (eg : ∀ args w, (callFunc g args).run Try.prog w = .ok (.enter g args) w)
    (hp : ∀ (v : NV) (W : World), v.ok w → Kp [] w W → Calls Try.prog g (#[v.val] ++ lb) W fun e w' => e = .returned (.bool (p v.n)) ∧ Kp [] W w') :
    Calls Try.prog 111 #[.slice A l.length c, .func (.func g) #[] lb] w fun e w' => e = .returned (.bool (l.any p)) ∧ Kp [] w w' := by
  by_cases hn : 0 < l.length
  · obtain ⟨b, o, rfl, hlt, vs, hvs, hok, hc⟩ := rowOpen h hn
    have hlen : vs.length = l.length := by rw [← hvs]; simp
    have inh : Inhabited (NVokF w) := ⟨⟨_, zero_ok w⟩⟩
    have hml : l.length ≤ 9223372036854775807 := h.2.1
    refine (AnyQ.slices_ContainsFunc (α := NVokF w) Try.cfNode 8 (by intro w; kernel_rfl) (by intro w; kernel_rfl) (fun x => x.1.cells) (fun _ => rfl) (fun x => p x.1.n) g lb eg b o l.length c (vs.attach.map (fun x => ⟨x.1, hok x.1 x.2⟩)) w ?_ (by simp [hlen]) hml hlt ?_).mono ?_
    · intro W x hW
      refine (hp x.1 W x.2 (Kp.ofBelow hW)).mono ?_
      rintro e w' ⟨rfl, k⟩
      exact ⟨rfl, hW.trans (k.below hW.size (by simp))⟩
    · intro j hj i u hu
      have hj' : j < vs.length := by simpa using hj
      have he : ((vs.attach.map (fun x => (⟨x.1, hok x.1 x.2⟩ : NVokF w)))[j]!).1 = vs[j] := by
        rw [getElem!_pos _ j hj]
        simp
      rw [he] at hu
      exact hc j hj' i u hu
    · rintro e w' ⟨rfl, hb⟩
      refine ⟨?_, Kp.ofBelow hb⟩
      have : ((vs.attach.map (fun x => (⟨x.1, hok x.1 x.2⟩ : NVokF w))).take l.length).any (fun x => p x.1.n) = l.any p := by
        rw [List.take_of_length_le (by simp [hlen]), ← hvs, List.any_map, List.any_map]
        conv => rhs; rw [← List.attach_map_subtype_val vs, List.any_map]
        rfl
      rw [this]
  · obtain rfl : l = [] := List.eq_nil_of_length_eq_zero (by omega)
    exact contains_nil A c _ w
def nullP : Nat → S25 → Bool
  | 0, _ => false
  | m + 1, n => if n.f0 = 1 ∨ n.f0 = 5 then true else if n.f0 = 6 ∨ n.f0 = 7 then n.f7.all (nullP m) else if n.f0 = 8 then n.f7.any (nullP m) else if n.f0 = 9 then (decide (n.f4 = 0) || n.f7.all (nullP m)) else false
theorem any_not (p : S25 → Bool) (l : List S25) : (l.any fun x => !p x) = !(l.all p) := by
  induction l with
  | nil => rfl
  | cons c l ih => rw [List.any_cons, List.all_cons, ih]; cases p c <;> simp
/-- The closure 'may'. -/
theorem may_calls (m : Nat) (ih : ∀ (v : NV) (w : World), v.ok w → Calls Try.prog 82 #[v.val, .int .i64 (m : Int)] w fun e w' => e = .returned (.bool (nullP m v.n)) ∧ Kp [] w w') (hm : m < 1000000) (B : Nat) (v : NV) (W : World) (hv : v.ok W) (hB : W.heap[B]? = some (.cells #[.int .i64 ((m + 1 : Nat) : Int)] 3 (0, 0))) :
    Calls Try.prog 110 #[v.val, .pointer (some ⟨B, 0, none⟩)] W fun e w' => e = .returned (.bool (nullP m v.n)) ∧ Kp [] W w' := by
  have kk := (Kp.refl [] W).alloc (.cells v.cells.toArray 25)
  have C := ih v _ (hv.kp kk)
  have hlt := ltB hB
  have y0 : W.cell? ⟨B, 0, none⟩ = some (.int .i64 ((m : Int) + 1)) := (cellB hB 0).trans rfl
  obtain ⟨⟨kd, set, num, nm, mn, mx, lz, subs⟩, A1, c1, A7, c7⟩ := v
  dsimp only [NV.val, NV.cells] at C kk ⊢
  replace C := Lib.hid C
  go_enter Try.func110, Try.ntmps110
  go_wp2_with (go_at_call 82; refine C.out.mono ?_; rintro e w1 ⟨rfl, k1⟩)
  go_ret
  exact ⟨rfl, kk.trans k1⟩
/-- 'not may'. -/
theorem not_calls (m : Nat) (ih : ∀ (v : NV) (w : World), v.ok w → Calls Try.prog 82 #[v.val, .int .i64 (m : Int)] w fun e w' => e = .returned (.bool (nullP m v.n)) ∧ Kp [] w w') (hm : m < 1000000) (g : Nat) (hg : g = 112 ∨ g = 113) (B D : Nat) (v : NV) (W : World) (hv : v.ok W) (hB : W.heap[B]? = some (.cells #[.int .i64 ((m + 1 : Nat) : Int)] 3 (0, 0))) (hD : W.heap[D]? = some (.cells #[.func (.func 110) #[] #[.pointer (some ⟨B, 0, none⟩)]] 36 (0, 0))) :
    Calls Try.prog g #[v.val, .pointer (some ⟨D, 0, none⟩)] W fun e w' => e = .returned (.bool (!nullP m v.n)) ∧ Kp [] W w' := by
  have kk := (Kp.refl [] W).alloc (.cells v.cells.toArray 25)
  have C := may_calls m ih hm B v _ (hv.kp kk) (kblk kk hB)
  have hlt := ltB hD
  have y0 : W.cell? ⟨D, 0, none⟩ = some (.func (.func 110) #[] #[.pointer (some ⟨B, 0, none⟩)]) := (cellB hD 0).trans rfl
  obtain ⟨⟨kd, set, num, nm, mn, mx, lz, subs⟩, A1, c1, A7, c7⟩ := v
  dsimp only [NV.val, NV.cells] at C kk ⊢
  replace C := Lib.hid C
  rcases hg with rfl | rfl
  · go_enter Try.func112, Try.ntmps112
    go_wp2_with (go_at_call 110; refine C.out.mono ?_; rintro e w1 ⟨rfl, k1⟩)
    go_ret
    exact ⟨rfl, kk.trans k1⟩
  · go_enter Try.func113, Try.ntmps113
    go_wp2_with (go_at_call 110; refine C.out.mono ?_; rintro e w1 ⟨rfl, k1⟩)
    go_ret
    exact ⟨rfl, kk.trans k1⟩
set_option maxRecDepth 100000 in
set_option maxHeartbeats 8000000 in
theorem null_calls : ∀ (m : Nat), m ≤ 1000 → ∀ (v : NV) (w : World), v.ok w → Calls Try.prog 82 #[v.val, .int .i64 (m : Int)] w fun e w' => e = .returned (.bool (nullP m v.n)) ∧ Kp [] w w'
  | 0, _, v, w, hv => by
    obtain ⟨⟨kd, set, num, nm, mn, mx, lz, subs⟩, A1, c1, A7, c7⟩ := v
    dsimp only [NV.val, NV.cells]
    go_enter Try.func82, Try.ntmps82
    go_wp2
    go_ret
    exact ⟨rfl, ((Kp.refl [] w).alloc _).alloc _⟩
  | m + 1, hm, v, w, hv => by
    have ih := null_calls m (by omega)
    obtain ⟨⟨kd, set, num, nm, mn, mx, lz, subs⟩, A1, c1, A7, c7⟩ := v
    obtain ⟨l1, h1, l7, h7⟩ := hv
    dsimp only [NV.val, NV.cells] at h7 l7 ⊢
    obtain ⟨W0, hW0⟩ : ∃ W0, W0 = ((w.alloc (.cells #[.int .i64 kd, .slice A1 set.length c1, .int .i64 num, .string nm, .int .i64 mn, .int .i64 mx, .bool lz, .slice A7 subs.length c7] 25)).alloc (.cells #[.int .i64 ((m + 1 : Nat) : Int)] 3)).alloc (.cells #[.func (.func 110) #[] #[.pointer (some ⟨w.heap.size + 1, 0, none⟩)]] 36) := ⟨_, rfl⟩
    have kk : Kp [] w W0 := by rw [hW0]; exact (((Kp.refl [] w).alloc _).alloc _).alloc _
    have hB : W0.heap[w.heap.size + 1]? = some (.cells #[.int .i64 ((m + 1 : Nat) : Int)] 3 (0, 0)) := by
      rw [hW0]; exact (Below.heap_alloc _ _ _ (by simp)).trans (new_at _ _ _ (by simp))
    have hD : W0.heap[w.heap.size + 1 + 1]? = some (.cells #[.func (.func 110) #[] #[.pointer (some ⟨w.heap.size + 1, 0, none⟩)]] 36 (0, 0)) := by
      rw [hW0]; exact new_at _ _ _ (by simp)
    have CA : Calls Try.prog 111 #[.slice A7 subs.length c7, .func (.func 112) #[] #[.pointer (some ⟨w.heap.size + 1 + 1, 0, none⟩)]] W0 fun e w' => e = .returned (.bool (!(subs.all (nullP m)))) ∧ Kp [] W0 w' := by
      have := contains_calls A7 c7 subs W0 (Kd.C_below h7 kk.bel) 112 #[.pointer (some ⟨w.heap.size + 1 + 1, 0, none⟩)] (fun x => !nullP m x) (fun args w => by go_simp) (fun v W hv k => not_calls m ih (by omega) 112 (Or.inl rfl) _ _ v W (hv.kp k) (kblk k hB) (kblk k hD))
      rw [any_not] at this
      exact this
    have CA2 : Calls Try.prog 111 #[.slice A7 subs.length c7, .func (.func 113) #[] #[.pointer (some ⟨w.heap.size + 1 + 1, 0, none⟩)]] W0 fun e w' => e = .returned (.bool (!(subs.all (nullP m)))) ∧ Kp [] W0 w' := by
      have := contains_calls A7 c7 subs W0 (Kd.C_below h7 kk.bel) 113 #[.pointer (some ⟨w.heap.size + 1 + 1, 0, none⟩)] (fun x => !nullP m x) (fun args w => by go_simp) (fun v W hv k => not_calls m ih (by omega) 113 (Or.inr rfl) _ _ v W (hv.kp k) (kblk k hB) (kblk k hD))
      rw [any_not] at this
      exact this
    have CO : Calls Try.prog 111 #[.slice A7 subs.length c7, .func (.func 110) #[] #[.pointer (some ⟨w.heap.size + 1, 0, none⟩)]] W0 fun e w' => e = .returned (.bool (subs.any (nullP m))) ∧ Kp [] W0 w' :=
      contains_calls A7 c7 subs W0 (Kd.C_below h7 kk.bel) 110 #[.pointer (some ⟨w.heap.size + 1, 0, none⟩)] (nullP m) (fun args w => by go_simp) (fun v W hv k => may_calls m ih (by omega) _ v W (hv.kp k) (kblk k hB))
    have hv : nullP (m + 1) ⟨kd, set, num, nm, mn, mx, lz, subs⟩ = if kd = 1 ∨ kd = 5 then true else if kd = 6 ∨ kd = 7 then subs.all (nullP m) else if kd = 8 then subs.any (nullP m) else if kd = 9 then (decide (mn = 0) || subs.all (nullP m)) else false := rfl
    have em : ((m + 1 : Nat) : Int) = (m : Int) + 1 := rfl
    rw [em] at hW0 ⊢
    clear ih hB hD
    rw [hW0] at CA CA2 CO kk
    rw [hv]
    clear hv em
    replace CA := Lib.hid CA
    replace CA2 := Lib.hid CA2
    replace CO := Lib.hid CO
    replace hW0 := Lib.hid hW0
    have dm : decide ((m : Int) + 1 < 1) = false := decide_eq_false (by omega)
    by_cases q1 : kd = 1 ∨ kd = 5
    · rw [if_pos q1]
      rcases q1 with rfl | rfl
      all_goals
        go_enter Try.func82, Try.ntmps82
        go_wp2
        go_ret
        exact ⟨rfl, kk⟩
    rw [if_neg q1]
    by_cases q2 : kd = 6 ∨ kd = 7
    · rw [if_pos q2]
      rcases q2 with rfl | rfl
      all_goals
        clear q1
        go_enter Try.func82, Try.ntmps82
        go_wp2_with (go_at_call 111; refine CA.out.mono ?_; rintro e w1 ⟨rfl, k1⟩)
        go_ret
        exact ⟨by simp, kk.trans k1⟩
    rw [if_neg q2]
    by_cases q3 : kd = 8
    · subst q3
      clear q1 q2
      rw [if_pos rfl]
      go_enter Try.func82, Try.ntmps82
      go_wp2_with (go_at_call 111; refine CO.out.mono ?_; rintro e w1 ⟨rfl, k1⟩)
      go_ret
      exact ⟨rfl, kk.trans k1⟩
    rw [if_neg q3]
    by_cases q4 : kd = 9
    · subst q4
      clear q1 q2 q3
      rw [if_pos rfl]
      by_cases q5 : mn = 0
      · subst q5
        go_enter Try.func82, Try.ntmps82
        go_wp2
        go_ret
        exact ⟨rfl, kk⟩
      · have d5 : (mn == 0) = false := by rw [beq_eq_false_iff_ne]; exact q5
        rw [decide_eq_false q5, Bool.false_or]
        clear q5
        go_enter Try.func82, Try.ntmps82
        go_wp2_with (go_at_call 111; refine CA2.out.mono ?_; rintro e w1 ⟨rfl, k1⟩)
        go_ret
        exact ⟨by simp, kk.trans k1⟩
    rw [if_neg q4]
    have e1 : (kd == 1) = false := by rw [beq_eq_false_iff_ne]; omega
    have e5 : (kd == 5) = false := by rw [beq_eq_false_iff_ne]; omega
    have e6 : (kd == 6) = false := by rw [beq_eq_false_iff_ne]; omega
    have e7 : (kd == 7) = false := by rw [beq_eq_false_iff_ne]; omega
    have e8 : (kd == 8) = false := by rw [beq_eq_false_iff_ne]; omega
    have e9 : (kd == 9) = false := by rw [beq_eq_false_iff_ne]; omega
    clear q1 q2 q3 q4
    go_enter Try.func82, Try.ntmps82
    go_wp2
    go_ret
    exact ⟨rfl, kk⟩
theorem nullable_calls (v : NV) (w : World) (hv : v.ok w) : Calls Try.prog 40 #[v.val] w fun e w' => e = .returned (.bool (nullP 1000 v.n)) ∧ Kp [] w w' := by
  have kk := (Kp.refl [] w).alloc (.cells v.cells.toArray 25)
  have C := null_calls 1000 (Nat.le_refl _) v _ (hv.kp kk)
  obtain ⟨⟨kd, set, num, nm, mn, mx, lz, subs⟩, A1, c1, A7, c7⟩ := v
  dsimp only [NV.val, NV.cells] at C kk ⊢
  replace C := Lib.hid C
  go_enter Try.func40, Try.ntmps40
  go_wp2_with (go_at_call 82; refine C.out.mono ?_; rintro e w1 ⟨rfl, k1⟩)
  go_ret
  exact ⟨rfl, kk.trans k1⟩
end Go.Proofs.Ytojlhlepneefoaa
