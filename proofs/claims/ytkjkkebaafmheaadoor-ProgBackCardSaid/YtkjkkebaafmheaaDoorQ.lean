/- Package prog: the walk of Show. -/
import Derived.Test.YtkjkkebaafmheaaDoorM2
namespace Go.Proofs.YtkjkkebaafmheaaDoor
open Go.RowKit PAll Go.Proofs.YtkjkkebaafmheaaDoorW.PrintWords Go.Proofs.YtkjkkebaafmheaaDoorW.PrintLast Go.Proofs.YtkjkkebaafmheaaDoorW.PrintMore
open Go.Shelf
set_option linter.unusedVariables false
set_option linter.unusedSimpArgs false
def showL (l : List S35) (st sl : Int) : List UInt8 × Int := if checkB l st sl = 0 then (progT l st sl, 0) else ([], checkB l st sl)
theorem Kp.undrew {S} {w w' : World} (h : Kp S w.drew w') : Kp S w w' := ⟨h.os, h.tape, h.output, h.size, h.block⟩
theorem ints2_C (W : World) (a b : Nat) : Kd.C (Kd.int .i64) (W.alloc (.cells #[.int .i64 (a : Nat), .int .i64 (b : Nat)] 3)) (some ⟨W.heap.size, 0, none⟩) 2 (ints [a, b]) := by
  refine Kd.C_of_reads (enc := Value.int .i64) (d := 0) ⟨rfl, by decide, fun _ => ⟨_, rfl, fun j hj => ?_⟩⟩
  rw [addNone, Nat.zero_add, cellB (heap_alloc_new W _)]
  obtain rfl | rfl : j = 0 ∨ j = 1 := by omega
  · rfl
  · rfl
theorem bat_kp {T B b : Nat} {p : Value} {bs : List Value} {w w' : World} (h : Lib.BuilderAt T 5 B b p bs w) (k : Kp [] w w') : Lib.BuilderAt T 5 B b p bs w' := by
  obtain ⟨hB, v, hb, ho, hn⟩ := h
  refine ⟨hB, v, kblk k hb, own_move ho (fun i hi => ?_), hn⟩
  obtain ⟨c, hc⟩ := own_typed ho i hi
  exact (kblk k hc).trans hc.symm
theorem isb_kp {B b : Nat} {bs : List Value} {w w' : World} (h : Lib.IsBuilder 43 5 B b bs w) (k : Kp [] w w') : Lib.IsBuilder 43 5 B b bs w' := h.imp (fun x => bat_kp x k) (fun x => bat_kp x k)
theorem head_len (s0 p0 : Nat) (h1 : s0 < 10000) (h2 : p0 < 10000) : (headT s0 p0).length ≤ 1000 := by
  have := digN_len4 h1
  have := digN_len4 h2
  simp only [headT, lineP, Int.toNat_natCast, List.flatMap_cons, List.flatMap_nil, List.length_append, List.length_cons, List.length_nil]
  omega
theorem inst_len {x : S35} (h : rawI x) : (instT x).length ≤ 1000 := by
  obtain ⟨h1, h2, h3⟩ := h
  have hn : (nameL x.f0).length ≤ 6 := by
    obtain h | h | h | h | h | h : x.f0 = 1 ∨ x.f0 = 2 ∨ x.f0 = 3 ∨ x.f0 = 4 ∨ x.f0 = 5 ∨ x.f0 = 6 := by omega
    all_goals (rw [h]; decide)
  have hl : (ownNums x).length ≤ 3 := by unfold ownNums; repeat' split
                                         all_goals simp
  have key : ∀ r : List Nat, (∀ n ∈ r, n < 10000) → (r.flatMap fun n => (32 : UInt8) :: digN n).length ≤ 5 * r.length := by
    intro r
    induction r with
    | nil => intro _; simp
    | cons a r ih =>
      intro hr
      have h1 := ih (fun n hn => hr n (by simp [hn]))
      have h2 := digN_len4 (hr a (by simp))
      rw [List.flatMap_cons, List.length_append, List.length_cons, List.length_cons]
      omega
  have := key _ h2
  simp only [instT, lineP, List.length_append, List.length_cons, List.length_nil]
  omega
def fieldAt (x : S35) (j : Nat) : Int := match j with | 0 => x.f1 | 1 => x.f2 | 2 => x.f3 | _ => x.f4
def ownTake (p q r s : Bool) (x : S35) : Nat → List Nat
  | 0 => []
  | j + 1 => ownTake p q r s x j ++ (if ownAt p q r s j = true then [(fieldAt x j).toNat] else [])
theorem take_own (x : S35) (h : 1 ≤ x.f0 ∧ x.f0 ≤ 6) : ownTake (ownF x.f0).1 (ownF x.f0).2.1 (ownF x.f0).2.2.1 (ownF x.f0).2.2.2 x 4 = ownNums x := by
  obtain ⟨op, lo, hi, X, Y⟩ := x
  dsimp only at h
  obtain rfl | rfl | rfl | rfl | rfl | rfl : op = 1 ∨ op = 2 ∨ op = 3 ∨ op = 4 ∨ op = 5 ∨ op = 6 := by omega
  all_goals rfl
theorem own_nonneg {x : S35} (h : rawI x) : ∀ j, j < 4 → ownAt (ownF x.f0).1 (ownF x.f0).2.1 (ownF x.f0).2.2.1 (ownF x.f0).2.2.2 j = true → ((fieldAt x j).toNat : Int) = fieldAt x j := by
  obtain ⟨op, lo, hi, X, Y⟩ := x
  obtain ⟨h1, h2, h3⟩ := h
  dsimp only at h1 h3
  obtain rfl | rfl | rfl | rfl | rfl | rfl : op = 1 ∨ op = 2 ∨ op = 3 ∨ op = 4 ∨ op = 5 ∨ op = 6 := by omega
  all_goals
    simp only [fillL, ownNums] at h3
    simp (decide := true) only [if_true, if_false, Option.some.injEq, S35.mk.injEq] at h3
    intro j hj ho
    obtain rfl | rfl | rfl | rfl : j = 0 ∨ j = 1 ∨ j = 2 ∨ j = 3 := by omega
    all_goals
      first
        | (exfalso; revert ho; decide)
        | (simp only [fieldAt]; omega)
theorem name_idx (op : Int) (h : 1 ≤ op ∧ op ≤ 6) (w : World) : Sem.run Tryd.prog (Instr.index 58 (.agg wordsC) (.int .i64 op)) w = .ok (.agg #[.string (bs (nameL op)), .bool (ownF op).1, .bool (ownF op).2.1, .bool (ownF op).2.2.1, .bool (ownF op).2.2.2]) w := by
  obtain rfl | rfl | rfl | rfl | rfl | rfl : op = 1 ∨ op = 2 ∨ op = 3 ∨ op = 4 ∨ op = 5 ∨ op = 6 := by omega
  · exact idx1 w
  · exact idx2 w
  · exact idx3 w
  · exact idx4 w
  · exact idx5 w
  · exact idx6 w
theorem take_skip {p q r s : Bool} {x : S35} {j : Nat} (h : ownAt p q r s j = false) : ownTake p q r s x (j + 1) = ownTake p q r s x j := by
  show ownTake p q r s x j ++ _ = _
  rw [h]; simp
theorem take_more {p q r s : Bool} {x : S35} {j u : Nat} (h : ownAt p q r s j = true) (hu : (fieldAt x j).toNat = u) : ownTake p q r s x (j + 1) = ownTake p q r s x j ++ [u] := by
  show ownTake p q r s x j ++ _ = _
  rw [h, hu]; simp
theorem nums_snoc (l : List Nat) (u : Nat) : nums (l ++ [u]) = nums l ++ [.int .i64 (u : Nat)] := by simp [nums]
theorem own_a {wr : World} {B E s : Nat} {v : Value} {n : Nat} {xs : List Value} (hO : wr.ownsRow B E s v n xs) (o : Obj) : (wr.alloc o).ownsRow B E s v n xs := own_da hO 0 o
def ShowI (w : World) (B : Nat) (l : List S35) (s0 p0 : Nat) (cv : Value) (wr : World) : Prop :=
  ∃ (k : Nat) (tx : List UInt8), cv = .int .i64 k ∧ k ≤ l.length ∧ Kp [] w wr ∧ B < wr.heap.size ∧ UB B B tx wr ∧ Aside0 (tx = headT s0 p0 ++ (l.take k).flatMap instT ∧ tx.length ≤ 1000 + 1000 * k)
def InI (W8 : World) (p q r s : Bool) (x : S35) (v cv : Value) (wi : World) : Prop :=
  ∃ j : Nat, cv = .int .i64 j ∧ j ≤ 4 ∧ Kp [] W8 wi ∧ wi.ownsRow W8.heap.size 3 1 v (ownTake p q r s x j).length (nums (ownTake p q r s x j))
theorem take_le (p q r s : Bool) (x : S35) : ∀ j, (ownTake p q r s x j).length ≤ j
  | 0 => by simp [ownTake]
  | j + 1 => by
    have := take_le p q r s x j
    unfold ownTake
    rw [List.length_append]
    split <;> simp <;> omega
theorem fldName (s : ByteArray) (a b c d : Bool) (w : World) : Sem.run Tryd.prog (Instr.field 57 (.agg #[.string s, .bool a, .bool b, .bool c, .bool d]) 0) w = .ok (.string s) w := by kernel_rfl
set_option maxRecDepth 100000 in
set_option maxHeartbeats 8000000 in
theorem show_bad (A : Option Addr) (c : Nat) (l : List S35) (st sl : Int) (w : World) (h : Kd.C k35 w A l.length l) (hc : checkB l st sl = 130) :
    Calls Tryd.prog 8 #[.agg #[.slice A l.length c, .int .i64 st, .int .i64 sl]] w fun e w' => e = .returned (.tuple #[.string ⟨#[]⟩, .int .i64 130]) ∧ Kp [] w w' := by
  have kk := (Kp.refl [] w).alloc (.cells #[.slice A l.length c, .int .i64 st, .int .i64 sl] 24)
  have hC : Kd.C k35 (w.alloc (.cells #[.slice A l.length c, .int .i64 st, .int .i64 sl] 24)) A l.length l := Kd.C_below h (kk.below (Nat.le_refl _) (by simp))
  have CC := Lib.hid (check_calls A c l st sl _ hC)
  rw [hc] at CC
  clear hc hC h
  go_enter Tryd.func8, Tryd.ntmps8
  go_wp2_with (go_at_call 15; refine CC.out.mono ?_; rintro e w1 ⟨rfl, k1⟩)
  go_ret2
  exact ⟨rfl, kk.trans k1⟩
set_option maxRecDepth 100000 in
set_option maxHeartbeats 8000000 in
theorem show_good (A : Option Addr) (c : Nat) (l : List S35) (s0 p0 : Nat) (w : World) (h : Kd.C k35 w A l.length l) (hcap : l.length ≤ c) (hc : checkB l s0 p0 = 0) :
    Calls Tryd.prog 8 #[.agg #[.slice A l.length c, .int .i64 s0, .int .i64 p0]] w fun e w' => e = .returned (.tuple #[.string (bs (progT l s0 p0)), .int .i64 0]) ∧ Kp [] w w' := by
  obtain ⟨n1, n2, n3, hfit⟩ := check_ok hc
  obtain ⟨i0, hi0, hz0, hz1, hz2⟩ := info_parts info3
  have kk := (Kp.refl [] w).alloc (.cells #[.slice A l.length c, .int .i64 s0, .int .i64 p0] 24)
  have hh := heap_alloc_new w (.cells #[.slice A l.length c, .int .i64 s0, .int .i64 p0] 24)
  have hC : Kd.C k35 (w.alloc (.cells #[.slice A l.length c, .int .i64 s0, .int .i64 p0] 24)) A l.length l := Kd.C_below h (kk.below (Nat.le_refl _) (by simp))
  have CC := Lib.hid (check_calls A c l s0 p0 _ hC)
  rw [hc] at CC
  have HFIT := Lib.hid hfit
  clear hC hfit hc
  go_enter Tryd.func8, Tryd.ntmps8
  go_upto_region 5 with (go_at_call 15; refine CC.out.mono ?_; rintro e w1 ⟨rfl, k1⟩; replace hh := kblk k1 hh; replace kk := kk.trans k1; have y0 := cellB hh 0; have y1 := cellB hh 1; have y2 := cellB hh 2; simp at y0 y1 y2)
  have hF := Lib.fresh_isBuilder 43 5 w1
  have kB := (Kp.refl [] w1).alloc (.cells #[.pointer none, .slice none 0 0] 43)
  have kk2 := kk.trans kB
  have hBlt : w1.heap.size < (w1.alloc (.cells #[.pointer none, .slice none 0 0] 43)).heap.size := by simp
  have hbw : w.heap.size < w1.heap.size := ltB hh
  replace hh := kblk kB hh
  clear y0 y1 y2 kB kk
  have y0 := cellB hh 0; have y1 := cellB hh 1; have y2 := cellB hh 2
  simp at y0 y1 y2
  generalize hW : (w1.alloc (.cells #[.pointer none, .slice none 0 0] 43)) = W at *
  generalize hB : w1.heap.size = B at *
  generalize hb0 : w.heap.size = b0 at *
  have HB0 := Lib.hid hb0
  clear hW hB hb0
  have hnn : ∀ n ∈ [s0, p0], n < 10000 := by intro n hn; simp at hn; omega
  have L1 := Lib.hid (fun W' => line_calls [112, 114, 111, 103, 114, 97, 109] [s0, p0] hnn (by decide) (by simp) (some ⟨W'.heap.size, 0, none⟩) 2 _ (ints2_C W' s0 p0) (by simp))
  have hhl := head_len s0 p0 (by omega) (by omega)
  have U1 := Lib.hid (fun W' hF hB => ubs_gen B B [] (headT s0 p0) W' hF (by simp; omega) hB)
  have HN := Lib.hid (And.intro n1 n2)
  clear hnn n1 n2 n3
  go_wp2_with (first
    | (go_at_call 20; refine (L1.out _).mono ?_; rintro e w3 ⟨rfl, k3⟩)
    | (go_at_call 19; refine (U1.out _ (isb_kp hF (((Kp.refl [] _).alloc _).trans k3)) (Nat.le_trans (Nat.le_of_lt hBlt) (((Kp.refl [] _).alloc _).trans k3).size)).mono ?_; rintro e w4 ⟨⟨r4, rfl⟩, u4⟩; have k24 := ((Kp.refl [] _).alloc _).trans k3; have hh4 := blk_ub (kblk k24 hh) u4 (Nat.ne_of_lt hbw) (by decide); have kk4 := kp_ub (kk2.trans k24) u4 (by rw [HB0.out]; exact Nat.le_of_lt hbw); clear y0 y1 y2; have y0 := cellB hh4 0; simp at y0))
  obtain ⟨bA, oA, rfl, hltA, hcells⟩ := rowOpen h (by have := HN.out; omega)
  have HC := Lib.hid hcells
  have hlenc : l.length ≤ 4000 := by have := HN.out; omega
  have hBw4 : B < w4.heap.size := by have := u4.2.1.size; have := k24.size; omega
  have U4 := u4.1
  clear hcells h hBlt u4 k24 k3 kk2 hh hF U1 L1 hh4
  go_loopw [26] (fun cv wr => ShowI w B l s0 p0 cv wr) (fun cv _ => l.length - (intOf cv).toNat)
  case atStart => exact ⟨0, _, rfl, by omega, kk4, hBw4, U4, ⟨by simp, by simpa using hhl⟩⟩
  case round =>
    obtain ⟨k, tx, rfl, hk, kk, hBs, ub, ⟨htx, htl⟩⟩ := hrel
    by_cases hlt : k < l.length
    · have dk : decide ((k : Int) < (l.length : Int)) = true := decide_eq_true (by omega)
      obtain ⟨x, hx⟩ : ∃ x, x = l[k]! := ⟨_, rfl⟩
      have hxm : x ∈ l := by rw [hx, getElem!_pos l k hlt]; exact List.getElem_mem hlt
      have hraw := fits_raw (HFIT.out x hxm)
      have q0 := kcell kk (HC.out k hlt 0 _ rfl)
      have q1 := kcell kk (HC.out k hlt 1 _ rfl)
      have q2 := kcell kk (HC.out k hlt 2 _ rfl)
      have q3 := kcell kk (HC.out k hlt 3 _ rfl)
      have q4 := kcell kk (HC.out k hlt 4 _ rfl)
      rw [← hx] at q0 q1 q2 q3 q4
      simp only [Nat.add_zero] at q0
      have hinst : l.take (k + 1) = l.take k ++ [x] := by rw [hx, getElem!_pos l k hlt, List.take_append_getElem hlt]
      have HT := Lib.hid (show tx ++ instT x = headT s0 p0 ++ (l.take (k + 1)).flatMap instT from by rw [hinst, htx]; simp)
      have hil := inst_len hraw
      have HTL := Lib.hid (show (tx ++ instT x).length ≤ 1000 + 1000 * (k + 1) from by rw [List.length_append]; omega)
      have F1 := Lib.hid (fields_op x hraw.1)
      have N1 := Lib.hid (name_idx x.f0 hraw.1)
      have O1 := Lib.hid (own_nonneg hraw)
      have T1 := Lib.hid (take_own x hraw.1)
      have RW := Lib.hid hraw
      replace htx := Lib.hid htx
      replace hx := Lib.hid hx
      obtain ⟨wo, hwo⟩ : ∃ wo : World, wo = wr := ⟨_, rfl⟩
      subst hwo
      clear hinst hxm hraw
      generalize hp : (ownF x.f0).1 = p at *
      generalize hq : (ownF x.f0).2.1 = q at *
      generalize hr : (ownF x.f0).2.2.1 = r at *
      generalize hs : (ownF x.f0).2.2.2 = s at *
      clear hp hq hr hs
      go_wp2_with fail
      refine (F1.out _).mono ?_
      rintro e W8 ⟨k8, gF, rfl, hFr⟩
      have h7 := kblk k8 (heap_alloc_new wo _)
      have k78 := ((Kp.refl [] wo).alloc _).trans k8
      clear k8
      obtain ⟨b7, hb7⟩ : ∃ b, b = wo.heap.size := ⟨_, rfl⟩
      rw [← hb7] at h7 ⊢
      clear hb7 q0 q1 q2 q3 q4
      have ltF := ltB hFr
      have lt7 := ltB h7
      go_wp2_with fail
      go_loopw [8, 33] (fun v cv wi => InI W8 p q r s x v cv wi) (fun _ cv _ => 4 - (intOf cv).toNat)
      case atStart => exact ⟨0, rfl, by omega, Kp.refl _ _, World.ownsRow_nil _ _ _ _⟩
      case round =>
        obtain ⟨j, rfl, hj, ki, hO⟩ := hrel
        have hle := take_le p q r s x j
        have hFi := kblk ki hFr
        have ltFi := ltB hFi
        have h7i := kblk ki h7
        have d0 := cellB hFi 0; have d1 := cellB hFi 1; have d2 := cellB hFi 2; have d3 := cellB hFi 3; have d4 := cellB hFi 4; have d5 := cellB hFi 5; have d6 := cellB hFi 6; have d7 := cellB hFi 7
        simp at d0 d1 d2 d3 d4 d5 d6 d7
        obtain rfl | rfl | rfl | rfl | rfl : j = 0 ∨ j = 1 ∨ j = 2 ∨ j = 3 ∨ j = 4 := by omega
        · cases p with
          | false =>
            go_wp2_with fail
            go_roundw
            case rel => exact ⟨1, rfl, by omega, ki.alloc _, by rw [take_skip rfl]; exact own_a hO _⟩
            case measure => simp [intOf]
          | true =>
            have hfv := O1.out 0 (by omega) rfl
            have hfe : fieldAt x 0 = x.f1 := rfl
            generalize hu : (fieldAt x 0).toNat = u at hfv
            rw [hfe] at hfv
            rw [← hfv] at d0
            replace hfe := Lib.hid hfe
            replace hfv := Lib.hid hfv
            replace hu := Lib.hid hu
            have hc1 : (ownTake true q r s x 0).length + 1 ≤ maxLen := by unfold maxLen; omega
            have hc2 : ((ownTake true q r s x 0).length + 1) * 8 ≤ 140737488355328 := by omega
            have hc3 : ∀ (o1 o2 : Obj), W8.heap.size ≤ ((wr.alloc o1).alloc o2).heap.size := fun o1 o2 => by
              have := ki.size
              show W8.heap.size ≤ ((wr.heap.push o1).push o2).size
              simp; omega
            go_wp2_with (at_builtin; refine wpList_append_own_at _ rfl _ _ 49 rfl W8.heap.size 3 i0 (.int .i64 0) 1 8 Tryd.underlying49 hi0 hz0 hz1 hz2 rfl (by decide) _ _ _ rfl (own_a (own_a hO _) _) ⟨wr.heap.size + 1, 0, none⟩ 1 1 [.int .i64 (u : Nat)] rfl rfl (fun j v hv => by cases j with | zero => (simp at hv; subst hv; exact cell_new1 _ _ _ (by simp)) | succ j => simp at hv) (by simp [Value.oneCell']) hc1 hc2 (hc3 _ _) ?_; intro v' w3 hown hgrow _ hat)
            go_roundw
            case rel => exact ⟨1, rfl, by omega, ((ki.alloc _).alloc _).grown hgrow (fun q hq => .inr (hO.lt q hq).1), by rw [take_more rfl hu.out, nums_snoc, List.length_append]; exact hown⟩
            case measure => simp [intOf]
        · cases q with
          | false =>
            go_wp2_with fail
            go_roundw
            case rel => exact ⟨2, rfl, by omega, ki.alloc _, by rw [take_skip rfl]; exact own_a hO _⟩
            case measure => simp [intOf]
          | true =>
            have hfv := O1.out 1 (by omega) rfl
            have hfe : fieldAt x 1 = x.f2 := rfl
            generalize hu : (fieldAt x 1).toNat = u at hfv
            rw [hfe] at hfv
            rw [← hfv] at d2
            replace hfe := Lib.hid hfe
            replace hfv := Lib.hid hfv
            replace hu := Lib.hid hu
            have hc1 : (ownTake p true r s x 1).length + 1 ≤ maxLen := by unfold maxLen; omega
            have hc2 : ((ownTake p true r s x 1).length + 1) * 8 ≤ 140737488355328 := by omega
            have hc3 : ∀ (o1 o2 : Obj), W8.heap.size ≤ ((wr.alloc o1).alloc o2).heap.size := fun o1 o2 => by
              have := ki.size
              show W8.heap.size ≤ ((wr.heap.push o1).push o2).size
              simp; omega
            go_wp2_with (at_builtin; refine wpList_append_own_at _ rfl _ _ 49 rfl W8.heap.size 3 i0 (.int .i64 0) 1 8 Tryd.underlying49 hi0 hz0 hz1 hz2 rfl (by decide) _ _ _ rfl (own_a (own_a hO _) _) ⟨wr.heap.size + 1, 0, none⟩ 1 1 [.int .i64 (u : Nat)] rfl rfl (fun j v hv => by cases j with | zero => (simp at hv; subst hv; exact cell_new1 _ _ _ (by simp)) | succ j => simp at hv) (by simp [Value.oneCell']) hc1 hc2 (hc3 _ _) ?_; intro v' w3 hown hgrow _ hat)
            go_roundw
            case rel => exact ⟨2, rfl, by omega, ((ki.alloc _).alloc _).grown hgrow (fun q hq => .inr (hO.lt q hq).1), by rw [take_more rfl hu.out, nums_snoc, List.length_append]; exact hown⟩
            case measure => simp [intOf]
        · cases r with
          | false =>
            go_wp2_with fail
            go_roundw
            case rel => exact ⟨3, rfl, by omega, ki.alloc _, by rw [take_skip rfl]; exact own_a hO _⟩
            case measure => simp [intOf]
          | true =>
            have hfv := O1.out 2 (by omega) rfl
            have hfe : fieldAt x 2 = x.f3 := rfl
            generalize hu : (fieldAt x 2).toNat = u at hfv
            rw [hfe] at hfv
            rw [← hfv] at d4
            replace hfe := Lib.hid hfe
            replace hfv := Lib.hid hfv
            replace hu := Lib.hid hu
            have hc1 : (ownTake p q true s x 2).length + 1 ≤ maxLen := by unfold maxLen; omega
            have hc2 : ((ownTake p q true s x 2).length + 1) * 8 ≤ 140737488355328 := by omega
            have hc3 : ∀ (o1 o2 : Obj), W8.heap.size ≤ ((wr.alloc o1).alloc o2).heap.size := fun o1 o2 => by
              have := ki.size
              show W8.heap.size ≤ ((wr.heap.push o1).push o2).size
              simp; omega
            go_wp2_with (at_builtin; refine wpList_append_own_at _ rfl _ _ 49 rfl W8.heap.size 3 i0 (.int .i64 0) 1 8 Tryd.underlying49 hi0 hz0 hz1 hz2 rfl (by decide) _ _ _ rfl (own_a (own_a hO _) _) ⟨wr.heap.size + 1, 0, none⟩ 1 1 [.int .i64 (u : Nat)] rfl rfl (fun j v hv => by cases j with | zero => (simp at hv; subst hv; exact cell_new1 _ _ _ (by simp)) | succ j => simp at hv) (by simp [Value.oneCell']) hc1 hc2 (hc3 _ _) ?_; intro v' w3 hown hgrow _ hat)
            go_roundw
            case rel => exact ⟨3, rfl, by omega, ((ki.alloc _).alloc _).grown hgrow (fun q hq => .inr (hO.lt q hq).1), by rw [take_more rfl hu.out, nums_snoc, List.length_append]; exact hown⟩
            case measure => simp [intOf]
        · cases s with
          | false =>
            go_wp2_with fail
            go_roundw
            case rel => exact ⟨4, rfl, by omega, ki.alloc _, by rw [take_skip rfl]; exact own_a hO _⟩
            case measure => simp [intOf]
          | true =>
            have hfv := O1.out 3 (by omega) rfl
            have hfe : fieldAt x 3 = x.f4 := rfl
            generalize hu : (fieldAt x 3).toNat = u at hfv
            rw [hfe] at hfv
            rw [← hfv] at d6
            replace hfe := Lib.hid hfe
            replace hfv := Lib.hid hfv
            replace hu := Lib.hid hu
            have hc1 : (ownTake p q r true x 3).length + 1 ≤ maxLen := by unfold maxLen; omega
            have hc2 : ((ownTake p q r true x 3).length + 1) * 8 ≤ 140737488355328 := by omega
            have hc3 : ∀ (o1 o2 : Obj), W8.heap.size ≤ ((wr.alloc o1).alloc o2).heap.size := fun o1 o2 => by
              have := ki.size
              show W8.heap.size ≤ ((wr.heap.push o1).push o2).size
              simp; omega
            go_wp2_with (at_builtin; refine wpList_append_own_at _ rfl _ _ 49 rfl W8.heap.size 3 i0 (.int .i64 0) 1 8 Tryd.underlying49 hi0 hz0 hz1 hz2 rfl (by decide) _ _ _ rfl (own_a (own_a hO _) _) ⟨wr.heap.size + 1, 0, none⟩ 1 1 [.int .i64 (u : Nat)] rfl rfl (fun j v hv => by cases j with | zero => (simp at hv; subst hv; exact cell_new1 _ _ _ (by simp)) | succ j => simp at hv) (by simp [Value.oneCell']) hc1 hc2 (hc3 _ _) ?_; intro v' w3 hown hgrow _ hat)
            go_roundw
            case rel => exact ⟨4, rfl, by omega, ((ki.alloc _).alloc _).grown hgrow (fun q hq => .inr (hO.lt q hq).1), by rw [take_more rfl hu.out, nums_snoc, List.length_append]; exact hown⟩
            case measure => simp [intOf]
        · have hle4 : (ownNums x).length ≤ 4 := by rw [← T1.out]; exact hle
          rw [T1.out] at hO
          obtain ⟨A', c', rfl, hc', hC⟩ := ownInts hO (by omega)
          have kall := k78.trans ki
          have ubi := ub.kp kall
          have kki := kk.trans kall
          have hBi : B < wr.heap.size := Nat.lt_of_lt_of_le hBs kall.size
          have e0 := cellB h7i 0
          simp at e0
          have lt7i := ltB h7i
          have L2 := Lib.hid (show ∀ W', Kp [] wr W' → Calls Tryd.prog 20 #[.string (bs (nameL x.f0)), .slice A' (ownNums x).length c'] W' fun e w' => e = .returned (.string (bs (instT x))) ∧ Kp [] W' w' from fun W' kW => line_calls (nameL x.f0) (ownNums x) RW.out.2.1 (by
            obtain h | h | h | h | h | h : x.f0 = 1 ∨ x.f0 = 2 ∨ x.f0 = 3 ∨ x.f0 = 4 ∨ x.f0 = 5 ∨ x.f0 = 6 := by have := RW.out.1; omega
            all_goals (rw [h]; decide)) (by omega) A' c' W' (Kd.C_below hC (kW.below (Nat.le_refl _) (by simp))) hc')
          have U2 := Lib.hid (show ∀ W', Kp [] wr W' → Calls Tryd.prog 19 #[.pointer (some ⟨B, 0, none⟩), .string (bs (instT x))] W' fun e w' => (∃ r, e = .returned r) ∧ UBP B B (tx ++ instT x) W' w' from fun W' kW => ubs_gen B B tx (instT x) W' (Or.inr (ubi.kp kW)) (by have := HTL.out; rw [List.length_append] at this; omega) (Nat.le_of_lt (Nat.lt_of_lt_of_le hBi kW.size)))
          have W1c := Lib.hid words_any
          have hfn := fldName
          have hni := N1.out
          clear hC hO d0 d1 d2 d3 d4 d5 d6 d7 ub
          go_upto_region 16 with fail
          go_region_with (first
            | (go_at_call 22; refine (W1c.out _).mono ?_; rintro e w5 ⟨rfl, k5⟩; (try replace k5 := Kp.undrew k5); have e5 := kcell k5 e0; have l5 := Nat.lt_of_lt_of_le lt7i k5.size)
            | (go_at_call 20; refine (L2.out _ k5).mono ?_; rintro e w6 ⟨rfl, k6⟩)
            | (go_at_call 19; refine (U2.out _ (k5.trans k6)).mono ?_; rintro e w9 ⟨⟨r9, rfl⟩, u9⟩; have kk9 := kp_ub (kki.trans (k5.trans k6)) u9 (by rw [HB0.out]; exact Nat.le_of_lt hbw); have hb9 := Nat.lt_of_lt_of_le hBi (Nat.le_trans (k5.trans k6).size u9.2.1.size); replace u9 := u9.1))
          all_goals
            go_wp2
            go_roundw
            case rel => exact ⟨k + 1, _, rfl, hlt, kk9, hb9, u9, ⟨HT.out, HTL.out⟩⟩
            case measure => simp [intOf]; omega
    · obtain rfl : k = l.length := by omega
      have dk : decide ((l.length : Int) < (l.length : Int)) = false := decide_eq_false (by omega)
      rw [List.take_length] at htx
      have SC := Lib.hid (Tryd.Builder_String_any B B tx wr (Or.inr ub) (Nat.le_of_lt hBs))
      have HTX := Lib.hid (show tx = progT l s0 p0 from htx)
      clear htx
      go_wp2_with (go_at_call 23; refine SC.out.mono ?_; rintro e w5 ⟨rfl, hb5⟩)
      go_ret2
      exact ⟨by rw [← HTX.out]; rfl, Kp.ofBelow ((kk.below (Nat.le_refl _) (by simp)).trans (hb5.mono (by rw [HB0.out]; exact Nat.le_of_lt hbw)))⟩
theorem show_calls (A : Option Addr) (c : Nat) (l : List S35) (st sl : Int) (w : World) (h : Kd.C k35 w A l.length l) (hcap : l.length ≤ c) :
    Calls Tryd.prog 8 #[.agg #[.slice A l.length c, .int .i64 st, .int .i64 sl]] w fun e w' => e = .returned (.tuple #[.string (bs (showL l st sl).1), .int .i64 (showL l st sl).2]) ∧ Kp [] w w' := by
  unfold showL
  rcases check_val l st sl with hc | hc
  · obtain ⟨_, n2, n3, _⟩ := check_ok hc
    obtain ⟨s0, rfl⟩ := Int.eq_ofNat_of_zero_le n2.1
    obtain ⟨p0, rfl⟩ := Int.eq_ofNat_of_zero_le n3.1
    rw [if_pos hc]
    exact show_good A c l s0 p0 w h hcap hc
  · rw [if_neg (by rw [hc]; decide), hc]
    exact show_bad A c l st sl w h hc
end Go.Proofs.YtkjkkebaafmheaaDoor
