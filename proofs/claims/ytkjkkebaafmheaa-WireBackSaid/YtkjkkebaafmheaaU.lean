/- Package wire: the walk of WireBack. -/
import Derived.Test.YtkjkkebaafmheaaS
import Derived.Test.YtkjkkebaafmheaaI
namespace Go.Proofs.Ytkjkkebaafmheaa
open Go.RowKit PWireCodes Go.Proofs.YtkjkkebaafmheaaW.PrintWords Go.Proofs.YtkjkkebaafmheaaW.PrintLast Go.Proofs.YtkjkkebaafmheaaW.PrintMore
open Go.Shelf
set_option linter.unusedVariables false
set_option linter.unusedSimpArgs false
theorem allEq_refl : ∀ l : List S40, Lib.allEq instB l l = true
  | [] => rfl
  | x :: l => by rw [Lib.allEq, allEq_refl l]; simp [instB]
theorem same_refl (l : List S40) (a b : Int) : sameB l a b l a b = true := by simp [sameB, allEq_refl]
theorem d_some {t : List UInt8} {l : List S40} {a b : Nat} (ht : t.length ≤ 1000000) (h : decP t = some (l, a, b)) (W : World) : Calls Try.prog 10 #[.string ⟨t.toArray⟩] W fun e w' => ∃ A c, e = .returned (.tuple #[.agg #[.slice A l.length c, .int .i64 a, .int .i64 b], .int .i64 0]) ∧ l.length ≤ c ∧ Kd.C k40 w' A l.length l ∧ Kp [] W w' := by
  refine (decode_calls t ht W).mono ?_
  intro e w' q
  unfold DecPost at q
  rw [h] at q
  obtain ⟨v, rfl, hR, k⟩ := q
  obtain ⟨A, c, rfl, hc, hC⟩ := Kd.R_reads hR
  exact ⟨A, c, rfl, hc, hC, k⟩
theorem d_none {t : List UInt8} (ht : t.length ≤ 1000000) (h : decP t = none) (W : World) : Calls Try.prog 10 #[.string ⟨t.toArray⟩] W fun e w' => e = .returned (.tuple #[.agg #[.slice none 0 0, .int .i64 0, .int .i64 0], .int .i64 140]) ∧ Kp [] W w' := by
  refine (decode_calls t ht W).mono ?_
  intro e w' q
  unfold DecPost at q
  rw [h] at q
  exact q
/-- What Decode has found. -/
def DX2 (st : List UInt8) (w : World) (A2 : Option Addr) (c2 : Nat) (l2 : List S40) (a2 b2 x2 : Int) : Prop :=
  (decP st = none ∧ x2 = 140 ∧ l2 = [] ∧ True) ∨ (x2 = 0 ∧ l2.length ≤ c2 ∧ Kd.C k40 w A2 l2.length l2 ∧ checkB l2 a2 b2 = 0 ∧ encS l2 a2 b2 = (⟨st.toArray⟩, 0))
theorem DX2.kp {st w w' A2 c2 l2 a2 b2 x2} (h : DX2 st w A2 c2 l2 a2 b2 x2) (k : Kp [] w w') : DX2 st w' A2 c2 l2 a2 b2 x2 := by
  rcases h with h | ⟨h1, h2, h3, h4⟩
  · exact Or.inl h
  · exact Or.inr ⟨h1, h2, Kd.C_below h3 (k.below (Nat.le_refl _) (by simp)), h4⟩
theorem dec_two (st : List UInt8) (ht : st.length ≤ 1000000) (Wd : World) : Calls Try.prog 10 #[.string ⟨st.toArray⟩] Wd fun e w' => ∃ (A2 : Option Addr) (c2 : Nat) (l2 : List S40) (a2 b2 x2 : Int), e = .returned (.tuple #[.agg #[.slice A2 l2.length c2, .int .i64 a2, .int .i64 b2], .int .i64 x2]) ∧ Kp [] Wd w' ∧ Aside0 (DX2 st w' A2 c2 l2 a2 b2 x2) := by
  cases hd : decP st with
  | none =>
    refine (d_none ht hd Wd).mono ?_
    rintro e w' ⟨rfl, k⟩
    exact ⟨none, 0, [], 0, 0, 140, rfl, k, ⟨Or.inl ⟨hd, rfl, rfl, trivial⟩⟩⟩
  | some p =>
    obtain ⟨l2, a2, b2⟩ := p
    obtain ⟨h1, h2⟩ := (decP_iff _ _ _ _).1 hd
    refine (d_some ht hd Wd).mono ?_
    rintro e w' ⟨A, c, rfl, hc, hC, k⟩
    exact ⟨A, c, l2, a2, b2, 0, rfl, k, ⟨Or.inr ⟨rfl, hc, hC, h1, by rw [encS, if_pos h1, h2]⟩⟩⟩
set_option maxRecDepth 100000 in
set_option maxHeartbeats 8000000 in
theorem back_walk (W : World) (A : Option Addr) (cap : Nat) (l : List S40) (s q : Int) (st : List UInt8) (h : IsInsts W A cap l) (hst : st.length ≤ 140737488351232) :
    Calls Try.prog 6 #[.agg #[.slice A l.length cap, .int .i64 s, .int .i64 q], .string ⟨st.toArray⟩] W fun e w' => e = .returned (.bool true) ∧ Below W.heap.size W w' := by
  have kk := (Kp.refl [] W).alloc (.cells #[.slice A l.length cap, .int .i64 s, .int .i64 q] 24)
  have hb := heap_alloc_new W (.cells #[.slice A l.length cap, .int .i64 s, .int .i64 q] 24)
  have CW := Lib.hid works_calls
  have CE := Lib.hid (fun W2 hC => encode_calls A cap l s q W2 hC h.2.1)
  obtain ⟨hC, hcap, hmax⟩ := h
  have hsz : (⟨st.toArray⟩ : ByteArray).size = st.length := by simp [ByteArray.size]
  have fin : ∀ {w'}, Kp [] W w' → Below W.heap.size W w' := fun k => k.below (Nat.le_refl _) (by simp)
  by_cases h5 : 100 < l.length
  · have d5 : decide ((100 : Int) < (l.length : Int)) = true := decide_eq_true (by omega)
    go_enter Try.func6, Try.ntmps6
    go_wp2_with (go_at_call 7; refine (CW.out _).mono ?_; rintro e w1 ⟨rfl, k1⟩; replace kk := kk.trans k1; replace hb := kblk k1 hb; have p0 := cellB hb 0; simp at p0)
    go_ret
    exact ⟨rfl, fin kk⟩
  have d5 : decide ((100 : Int) < (l.length : Int)) = false := decide_eq_false (by omega)
  by_cases h6 : 1000 < st.length
  · have d6 : decide ((1000 : Int) < (st.length : Int)) = true := decide_eq_true (by omega)
    go_enter Try.func6, Try.ntmps6
    go_wp2_with (go_at_call 7; refine (CW.out _).mono ?_; rintro e w1 ⟨rfl, k1⟩; replace kk := kk.trans k1; replace hb := kblk k1 hb; have p0 := cellB hb 0; simp at p0)
    go_ret
    exact ⟨rfl, fin kk⟩
  have d6 : decide ((1000 : Int) < (st.length : Int)) = false := decide_eq_false (by omega)
  have CDn := Lib.hid (fun (e : decP st = none) (w : World) => d_none (t := st) (by omega) e w)
  have CDs := Lib.hid (fun (l' : List S40) (a b : Nat) (e : decP st = some (l', a, b)) (w : World) => d_some (t := st) (by omega) e w)
  have CC := Lib.hid check_calls
  have CE2 := Lib.hid encode_calls
  go_enter Try.func6, Try.ntmps6
  go_upto_region 5 with (go_at_call 7; refine (CW.out _).mono ?_; rintro e w1 ⟨rfl, k1⟩; replace kk := kk.trans k1; replace hb := kblk k1 hb; have p0 := cellB hb 0; simp at p0)
  have hDec : Hid (∀ Wd, Calls Try.prog 10 #[.string ⟨st.toArray⟩] Wd fun e w' => ∃ (A2 : Option Addr) (c2 : Nat) (l2 : List S40) (a2 b2 x2 : Int), e = .returned (.tuple #[.agg #[.slice A2 l2.length c2, .int .i64 a2, .int .i64 b2], .int .i64 x2]) ∧ Kp [] Wd w' ∧ Aside0 (DX2 st w' A2 c2 l2 a2 b2 x2)) := fun Wd => dec_two st (by omega) Wd
  go_cut [5, 6] (fun v5 v6 wc => Kp [] W wc ∧ wc.heap[W.heap.size]? = some (.cells #[.slice A l.length cap, .int .i64 s, .int .i64 q] 24 (0, 0)) ∧ ∃ (g : Nat) (A2 : Option Addr) (c2 : Nat) (l2 : List S40) (a2 b2 x2 : Int), v5 = .pointer (some ⟨g, 0, none⟩) ∧ v6 = .int .i64 x2 ∧ wc.heap[g]? = some (.cells #[.slice A2 l2.length c2, .int .i64 a2, .int .i64 b2] 24 (0, 0)) ∧ Aside0 (DX2 st wc A2 c2 l2 a2 b2 x2))
  case first =>
    go_wp2_with (go_at_call 10; refine (hDec.out _).mono ?_; rintro e w2 ⟨A2, c2, l2, a2, b2, x2, rfl, k2, hx2⟩; replace kk := kk.trans k2; replace hb := kblk k2 hb)
    go_meet
    case rel => exact ⟨kk.alloc _, kblk ((Kp.refl [] _).alloc _) hb, _, A2, c2, l2, a2, b2, x2, rfl, rfl, heap_alloc_new _ _, ⟨hx2.out.kp ((Kp.refl [] _).alloc _)⟩⟩
  case rest =>
    obtain ⟨kkc, hbc, g, A2, c2, l2, a2, b2, x2, rfl, rfl, hg, hx⟩ := hcut
    clear kk hb p0
    have y0 := cellB hg 0; have y1 := cellB hg 1; have y2 := cellB hg 2
    simp at y0 y1 y2
    go_upto_if 34 with (fail)
    go_cut [] (fun wc => Kp [] W wc ∧ wc.heap[W.heap.size]? = some (.cells #[.slice A l.length cap, .int .i64 s, .int .i64 q] 24 (0, 0)))
    case first =>
      rcases hx.out with ⟨hn, rfl, rfl, _⟩ | ⟨rfl, hc2, hC2, hck, hE⟩
      · go_wp2
        go_meet
        case rel => exact ⟨kkc, hbc⟩
      · have CE3 := Lib.hid (fun W2 h2 => encode_calls A2 c2 l2 a2 b2 W2 h2 hc2)
        have CC3 := Lib.hid (fun W2 h2 => check_calls A2 c2 l2 a2 b2 W2 h2)
        rw [hck] at CC3
        rw [hE] at CE3
        replace hck := Lib.hid hck
        replace hE := Lib.hid hE
        go_wp2_with (first | (go_at_call 8; refine (CE3.out _ hC2).mono ?_; rintro e w3 ⟨rfl, k3⟩; replace kkc := kkc.trans k3; replace hbc := kblk k3 hbc; replace hg := kblk k3 hg; replace hC2 := Kd.C_below hC2 (k3.below (Nat.le_refl _) (by simp)); clear y0 y1 y2 k3; have y0 := cellB hg 0; have y1 := cellB hg 1; have y2 := cellB hg 2; simp at y0 y1 y2) | (go_at_call 15; refine (CC3.out _ hC2).mono ?_; rintro e w4 ⟨rfl, k4⟩; replace kkc := kkc.trans k4; replace hbc := kblk k4 hbc))
        go_meet
        case rel => exact ⟨kkc, hbc⟩
    case rest =>
      obtain ⟨kkd, hbd⟩ := hcut
      clear kkc hbc hg hx y0 y1 y2
      have p0 := cellB hbd 0; have p1 := cellB hbd 1; have p2 := cellB hbd 2
      simp at p0 p1 p2
      rcases check_or l s q with hc | hc
      · obtain ⟨n1, n2, n3, -, n5, -, -⟩ := check_zero hc
        obtain ⟨s0, rfl⟩ := Int.eq_ofNat_of_zero_le n3
        obtain ⟨q0, rfl⟩ := Int.eq_ofNat_of_zero_le n5
        obtain ⟨m1, m2⟩ := short_len l s0 q0 hc
        rw [encS, if_pos hc] at CE
        have hd1 : decP (writtenL l s0 q0) = some (l, s0, q0) := (decP_iff _ _ _ _).2 ⟨hc, rfl⟩
        have hd2 := more_none l s0 q0 hc 0
        have hd3 := less_none l s0 q0 hc
        obtain ⟨t, ht⟩ : ∃ t, t = writtenL l s0 q0 := ⟨_, rfl⟩
        rw [← ht] at CE m1 m2 hd1 hd2 hd3
        have D1 := Lib.hid (fun W2 => d_some (t := t) (by omega) hd1 W2)
        have D2 := Lib.hid (fun W2 => d_none (t := t ++ [0]) (by simp; omega) hd2 W2)
        have D3 := Lib.hid (fun W2 => d_none (t := t.dropLast) (by simp; omega) hd3 W2)
        have e2 : (⟨t.toArray⟩ : ByteArray) ++ ⟨#[0]⟩ = ⟨(t ++ [0]).toArray⟩ := by apply ByteArray.ext; simp
        have e3 : (⟨t.toArray⟩ : ByteArray).extract 0 (t.length - 1) = ⟨t.dropLast.toArray⟩ := by apply ByteArray.ext; simp [List.dropLast_eq_take]
        rw [← e2] at D2
        rw [← e3] at D3
        have CS := Lib.hid (fun (A2 : Option Addr) (c2 : Nat) (W2 : World) (g1 : Kd.C k40 W2 A l.length l) (g2 : Kd.C k40 W2 A2 l.length l) => same_calls A A2 cap c2 l l s0 q0 s0 q0 W2 g1 g2 (by omega) (by omega))
        rw [same_refl] at CS
        have hts : (⟨t.toArray⟩ : ByteArray).size = t.length := by simp [ByteArray.size]
        have hte : (⟨t.toArray⟩ : ByteArray).toList.isEmpty = false := by
          rw [ByteArray.toList_eq]
          simp
          intro e
          rw [e] at m2
          simp at m2
        have hte2 : t.isEmpty = false := by cases t with | nil => simp at m2 | cons c r => rfl
        have hbig : (9223372036854775807 < t.length + 1) = False := eq_false (by omega)
        replace hc := Lib.hid hc
        clear hd1 hd2 hd3 ht e2 e3
        go_wp2_with (first | (go_at_call 8; refine (CE.out _ (Kd.C_below hC (kkd.below (Nat.le_refl _) (by simp)))).mono ?_; rintro e w5 ⟨rfl, k5⟩; replace kkd := kkd.trans k5; replace hbd := kblk k5 hbd; clear p0 p1 p2 k5; have p0 := cellB hbd 0; have p1 := cellB hbd 1; have p2 := cellB hbd 2; simp at p0 p1 p2) | (go_at_call 10; ((with_reducible refine (D1.out _).mono ?_)); rintro e w6 ⟨A2, c2, rfl, hc2, hC2, k6⟩; replace kkd := kkd.trans k6; replace hbd := kblk k6 hbd) | (go_at_call 10; ((with_reducible refine (D2.out _).mono ?_)); rintro e w7 ⟨rfl, k7⟩; have hq := kblk k7 (heap_alloc_new w6 _); have k8 : Kp [] w6 w7 := ((Kp.refl [] w6).alloc _).trans k7; replace kkd := kkd.trans k8; replace hbd := kblk k8 hbd; replace hC2 := Kd.C_below hC2 (k8.below (Nat.le_refl _) (by simp)); clear k7 k8) | (go_at_call 10; ((with_reducible refine (D3.out _).mono ?_)); rintro e w9 ⟨rfl, k9⟩; have k8 : Kp [] w7 w9 := ((Kp.refl [] w7).alloc _).trans k9; have hq2 := kblk k8 hq; replace kkd := kkd.trans k8; replace hbd := kblk k8 hbd; replace hC2 := Kd.C_below hC2 (k8.below (Nat.le_refl _) (by simp)); clear p0 p1 p2 k9 k8; have p0 := cellB hbd 0; have p1 := cellB hbd 1; have p2 := cellB hbd 2; have q0' := cellB hq2 0; have q1 := cellB hq2 1; have q2 := cellB hq2 2; simp at p0 p1 p2 q0' q1 q2; have z1 := ltB hbd; have z2 := ltB hq2) | (go_at_call 16; refine (CS.out _ _ _ (Kd.C_below hC ((kkd.alloc _).below (Nat.le_refl _) (by simp))) (Kd.C_below hC2 (((Kp.refl [] _).alloc _).below (Nat.le_refl _) (by simp)))).mono ?_; rintro e w10 ⟨rfl, k10⟩; replace kkd := (kkd.alloc _).trans k10))
        go_ret
        exact ⟨rfl, fin kkd⟩
      · rw [encS, if_neg (by rw [hc]; decide), hc] at CE
        have CC3 := Lib.hid (fun W2 h2 => check_calls A cap l s q W2 h2)
        rw [hc] at CC3
        replace hc := Lib.hid hc
        go_wp2_with (first | (go_at_call 8; refine (CE.out _ (Kd.C_below hC (kkd.below (Nat.le_refl _) (by simp)))).mono ?_; rintro e w5 ⟨rfl, k5⟩; replace kkd := kkd.trans k5; replace hbd := kblk k5 hbd; clear p0 p1 p2 k5; have p0 := cellB hbd 0; have p1 := cellB hbd 1; have p2 := cellB hbd 2; simp at p0 p1 p2) | (go_at_call 15; refine (CC3.out _ (Kd.C_below hC (kkd.below (Nat.le_refl _) (by simp)))).mono ?_; rintro e w6 ⟨rfl, k6⟩; replace kkd := kkd.trans k6))
        go_ret
        exact ⟨rfl, fin kkd⟩
theorem back_walk' (W : World) (A : Option Addr) (cap : Nat) (l : List S40) (s q : Int) (st : ByteArray) (h : IsInsts W A cap l) (hst : st.size ≤ 140737488351232) :
    Calls Try.prog 6 #[.agg #[.slice A l.length cap, .int .i64 s, .int .i64 q], .string st] W fun e w' => e = .returned (.bool true) ∧ Below W.heap.size W w' :=
  back_walk W A cap l s q st.data.toList h (by simpa using hst)
end Go.Proofs.Ytkjkkebaafmheaa
