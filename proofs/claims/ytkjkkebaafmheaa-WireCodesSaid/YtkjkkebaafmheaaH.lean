/- Package wire: the walk of Encode. -/
import Derived.Test.YtkjkkebaafmheaaG
import Derived.Laws.BitsAllLaws
import Derived.Laws.IdiomStrings
namespace Go.Proofs.Ytkjkkebaafmheaa
open Go.RowKit PWireCodes Go.Proofs.YtkjkkebaafmheaaW.PrintWords Go.Proofs.YtkjkkebaafmheaaW.PrintLast Go.Proofs.YtkjkkebaafmheaaW.PrintMore
open Go.Shelf
set_option linter.unusedVariables false
set_option linter.unusedSimpArgs false
theorem fits_range {x : S40} (h : fitsB x = true) : (1 ≤ x.f0 ∧ x.f0 ≤ 6) ∧ ((ownF x.f0).1 = true → 0 ≤ x.f1 ∧ x.f1 < 2097152) ∧ ((ownF x.f0).2.1 = true → 0 ≤ x.f2 ∧ x.f2 < 2097152) ∧ ((ownF x.f0).2.2.1 = true → 0 ≤ x.f3 ∧ x.f3 < 2097152) ∧ ((ownF x.f0).2.2.2 = true → 0 ≤ x.f4 ∧ x.f4 < 2097152) := by
  obtain ⟨op, lo, hi, X, Y⟩ := x
  unfold fitsB at h
  dsimp only at h ⊢
  split at h
  · simp at h
  split at h
  · simp at h
  split at h
  · simp at h
  rename_i a1 a2 a3
  split at h
  · simp at h
  rename_i a4
  split at h
  · simp at h
  simp only [placeB, Bool.and_eq_false_iff, decide_eq_false_iff_not, not_or, Decidable.not_not] at a3 a4
  have X0 : 0 ≤ X ∧ X < 2097152 := by omega
  have Y0 : 0 ≤ Y ∧ Y < 2097152 := by omega
  refine ⟨by omega, ?_, ?_, fun _ => X0, fun _ => Y0⟩
  · intro ho
    by_cases q1 : op = 1
    · rw [if_pos q1] at h; simp at h; omega
    by_cases q2 : op = 2
    · simp [ownF, q2] at ho
    by_cases q3 : op = 3
    · rw [if_neg q1, if_pos q3] at h; simp at h; omega
    by_cases q4 : op = 4
    · rw [if_neg q1, if_neg q3, if_pos q4] at h; simp at h; omega
    simp [ownF, q1, q2, q3, q4] at ho
  · intro ho
    by_cases q1 : op = 1
    · rw [if_pos q1] at h; simp at h; omega
    by_cases q2 : op = 2
    · simp [ownF, q2] at ho
    by_cases q3 : op = 3
    · simp [ownF, q3] at ho
    by_cases q4 : op = 4
    · simp [ownF, q4] at ho
    simp [ownF, q1, q2, q3, q4] at ho
theorem check_zero {l : List S40} {start slots : Int} (h : checkB l start slots = 0) : 1 ≤ l.length ∧ l.length ≤ 4000 ∧ 0 ≤ start ∧ start < 4000 ∧ 0 ≤ slots ∧ slots ≤ 64 ∧ ∀ x ∈ l, fitsB x = true := by
  unfold checkB at h
  by_cases a1 : (l.length : Int) < 1
  · rw [if_pos a1] at h; exact absurd h (by decide)
  rw [if_neg a1] at h
  by_cases a2 : (l.length : Int) > 4000
  · rw [if_pos a2] at h; exact absurd h (by decide)
  rw [if_neg a2] at h
  by_cases a3 : placeB start = false
  · rw [if_pos a3] at h; exact absurd h (by decide)
  rw [if_neg a3] at h
  by_cases a4 : slots < 0
  · rw [if_pos a4] at h; exact absurd h (by decide)
  rw [if_neg a4] at h
  by_cases a5 : slots > 64
  · rw [if_pos a5] at h; exact absurd h (by decide)
  rw [if_neg a5] at h
  by_cases a6 : (l.any fun x => !fitsB x) = true
  · rw [if_pos a6] at h; exact absurd h (by decide)
  rw [if_neg a6] at h
  simp only [placeB, Bool.and_eq_false_iff, decide_eq_false_iff_not, not_or, Decidable.not_not] at a3
  refine ⟨by omega, by omega, a3.1, a3.2, by omega, by omega, fun x hx => ?_⟩
  simp only [List.any_eq_true, not_exists, not_and] at a6
  have := a6 x hx
  simpa using this
theorem check_or (l : List S40) (start slots : Int) : checkB l start slots = 0 ∨ checkB l start slots = 130 := by
  unfold checkB
  repeat' split
  all_goals simp
def encS (l : List S40) (start slots : Int) : ByteArray × Int := if checkB l start slots = 0 then (⟨(writtenL l start slots).toArray⟩, 0) else (⟨#[]⟩, checkB l start slots)
set_option maxHeartbeats 4000000 in
set_option maxRecDepth 100000 in
theorem encode_bad (A : Option Addr) (c : Nat) (l : List S40) (start slots : Int) (w : World) (h : Kd.C k40 w A l.length l) (hc : checkB l start slots = 130) :
    Calls Try.prog 8 #[.agg #[.slice A l.length c, .int .i64 start, .int .i64 slots]] w fun e w' => e = .returned (.tuple #[.string ⟨#[]⟩, .int .i64 130]) ∧ Kp [] w w' := by
  have kk := (Kp.refl [] w).alloc (.cells #[.slice A l.length c, .int .i64 start, .int .i64 slots] 24)
  have hh := heap_alloc_new w (.cells #[.slice A l.length c, .int .i64 start, .int .i64 slots] 24)
  have hC : Kd.C k40 (w.alloc (.cells #[.slice A l.length c, .int .i64 start, .int .i64 slots] 24)) A l.length l := Kd.C_below h (kk.below (Nat.le_refl _) (by simp))
  have CC := Lib.hid (check_calls A c l start slots _ hC)
  rw [hc] at CC
  clear hC
  go_enter Try.func8, Try.ntmps8
  go_upto_region 5 with (go_at_call 15; refine CC.out.mono ?_; rintro e w1 ⟨rfl, k1⟩)
  refine bodyPost_ret (results_list (rs := [.tmp 2, .tmp 3]) rfl (by simp) (.tmp (.tmp .nil))) rfl ?_
  exact ⟨rfl, kk.trans k1⟩
theorem sum_step (l : List UInt8) (hl : l.length < 1000000000) : ∀ (n i : Nat) (acc : UInt8), l.length - i ≤ n → i ≤ l.length →
    wire_sum.l0 (n + 1) ⟨l.toArray⟩ (acc.toNat : Int) (l.length : Int) (i : Int) = some (((l.drop i).foldl (· ^^^ ·) acc).toNat : Int)
  | 0, i, acc, hn, hi => by
    rw [wire_sum.l0, if_neg (by omega)]
    rw [List.drop_eq_nil_of_le (by omega)]
    rfl
  | n + 1, i, acc, hn, hi => by
    by_cases h : i < l.length
    · rw [wire_sum.l0, if_pos (by omega), if_pos (by omega), if_pos (by simp [ByteArray.size]; omega)]
      have hb : bt ⟨l.toArray⟩ (i : Int) = ((l[i]).toNat : Int) := by
        have := bt_at ⟨l.toArray⟩ (i : Int) (by simp [ByteArray.size]; omega)
        rw [← this]
        rfl
      rw [hb, u8_xor_nat _ _ (UInt8.toNat_lt _) (UInt8.toNat_lt _), ← UInt8.toNat_xor]
      rw [show wrap64 ((i : Int) + 1) = ((i + 1 : Nat) : Int) by unfold wrap64; omega]
      rw [sum_step l hl n (i + 1) _ (by omega) (by omega), List.drop_eq_getElem_cons h]
      rfl
    · rw [wire_sum.l0, if_neg (by omega)]
      rw [List.drop_eq_nil_of_le (by omega)]
      rfl
theorem sum_calls (l : List UInt8) (hl : l.length < 1000000000) (w : World) : Calls Try.prog 23 #[.string ⟨l.toArray⟩] w fun e w' => e = .returned (.int .u8 ((xorL l).toNat : Int)) ∧ Drawn0 w w' := by
  refine wire_sum.calls (l.length + 1) _ _ w ?_
  have := sum_step l hl l.length 0 0 (by omega) (by omega)
  exact this
theorem conv1 (W : World) (u : UInt8) : Sem.run Try.prog (convert 34 9 (.slice (some ⟨W.heap.size, 0, none⟩) 1 1)) (W.alloc (.cells #[.int .u8 (u.toNat : Int)] 5)) = .ok (.string ⟨#[u]⟩) (W.alloc (.cells #[.int .u8 (u.toNat : Int)] 5)) := by
  refine run_convert_bytes_back (P := Try.prog) _ 34 9 5 ⟨W.heap.size, 0, none⟩ 1 [u] Try.underlying34 Try.underlying5 Try.underlying9 ?_
  intro j hj
  obtain rfl : j = 0 := by simpa using hj
  rw [addNone, cellB (heap_alloc_new W _)]
  rfl
theorem end_str (l : List S40) (s0 p0 : Int) : (⟨(bodyL l s0 p0).toArray⟩ : ByteArray) ++ ⟨#[xorL (bodyL l s0 p0)]⟩ = ⟨(writtenL l s0 p0).toArray⟩ := by
  apply ByteArray.ext
  simp [writtenL]
theorem Kp.undrew {S} {w w' : World} (h : Kp S w.drew w') : Kp S w w' := ⟨h.os, h.tape, h.output, h.size, h.block⟩
theorem Kp.ofDrawn {w w' : World} (h : Drawn0 w w') : Kp [] w w' := by obtain ⟨n, rfl⟩ := h; exact (Kp.refl [] w).drewN n
theorem bat_kp {T B b : Nat} {p : Value} {bs : List Value} {w w' : World} (h : Lib.BuilderAt T 5 B b p bs w) (k : Kp [] w w') : Lib.BuilderAt T 5 B b p bs w' := by
  obtain ⟨hB, v, hb, ho, hn⟩ := h
  refine ⟨hB, v, kblk k hb, own_move ho (fun i hi => ?_), hn⟩
  obtain ⟨c, hc⟩ := own_typed ho i hi
  exact (kblk k hc).trans hc.symm
theorem isb_kp {B b : Nat} {bs : List Value} {w w' : World} (h : Lib.IsBuilder 43 5 B b bs w) (k : Kp [] w w') : Lib.IsBuilder 43 5 B b bs w' := h.imp (fun x => bat_kp x k) (fun x => bat_kp x k)
theorem head_str (n s0 p0 : Nat) : (⟨#[66, 82, 49]⟩ : ByteArray) ++ ⟨(num s0).toArray⟩ ++ ⟨(num p0).toArray⟩ ++ ⟨(num n).toArray⟩ = ⟨(headL n s0 p0).toArray⟩ := by
  apply ByteArray.ext
  simp [headL]
theorem headL_len (n : Nat) (s p : Int) : (headL n s p).length ≤ 12 := by
  have := (num_len s.toNat).2; have := (num_len p.toNat).2; have := (num_len n).2; simp [headL]; omega
theorem head_calls (B n s0 p0 : Nat) (w : World) (hF : Lib.IsBuilder 43 5 B B [] w) (hB : B ≤ w.heap.size) :
    Calls Try.prog 17 #[.pointer (some ⟨B, 0, none⟩), .string ⟨(headL n s0 p0).toArray⟩] w fun e w' => (∃ r, e = .returned r) ∧ UBP B B (headL n s0 p0) w w' := by
  have hl := headL_len n s0 p0
  refine (ws_calls B B [] ⟨(headL n s0 p0).toArray⟩ w hF (by simp [ByteArray.size]; omega) hB).mono ?_
  rintro e w' ⟨rfl, h1, h2, h3⟩
  exact ⟨⟨_, rfl⟩, h1, h2, h3⟩
theorem kp_ub {B b : Nat} {bs : List UInt8} {a w w' : World} (k : Kp [] a w) (h : UBP B b bs w w') (hB : a.heap.size ≤ B) : Kp [] a w' :=
  Kp.ofBelow ((k.below (Nat.le_refl _) (by simp)).trans (h.2.1.mono hB))
theorem blk_ub {B b k : Nat} {bs : List UInt8} {w w' : World} {cs : Array Value} {t : TypeId} {fz : Nat × Nat} (hh : w.heap[k]? = some (.cells cs t fz)) (h : UBP B b bs w w') (hk : k ≠ b) (ht : t ≠ 5) : w'.heap[k]? = some (.cells cs t fz) :=
  h.2.2 k _ hh (fun e => hk (Option.some.inj e)) (fun c fz e => by injection e with _ e2; exact ht e2)
theorem round_eq {l : List S40} {k : Nat} (hk : k < l.length) {x : S40} (hx : x = l[k]!) {hd bs : List UInt8} (h : bs = hd ++ (l.take k).flatMap oneL) :
    bs ++ [UInt8.ofNat x.f0.toNat] ++ putL (ownF x.f0).1 x.f1 ++ putL (ownF x.f0).2.1 x.f2 ++ putL (ownF x.f0).2.2.1 x.f3 ++ putL (ownF x.f0).2.2.2 x.f4 = hd ++ (l.take (k + 1)).flatMap oneL := by
  rw [getElem!_pos l k hk] at hx
  rw [List.take_succ_eq_append_getElem hk, List.flatMap_append, ← hx, h]
  simp [oneL, putL]
theorem round_len {k : Nat} {x : S40} {bs : List UInt8} (h : bs.length ≤ 12 + 13 * k) :
    (bs ++ [UInt8.ofNat x.f0.toNat] ++ putL (ownF x.f0).1 x.f1 ++ putL (ownF x.f0).2.1 x.f2 ++ putL (ownF x.f0).2.2.1 x.f3 ++ putL (ownF x.f0).2.2.2 x.f4).length ≤ 12 + 13 * (k + 1) := by
  have p1 := putL_len (ownF x.f0).1 x.f1
  have p2 := putL_len (ownF x.f0).2.1 x.f2
  have p3 := putL_len (ownF x.f0).2.2.1 x.f3
  have p4 := putL_len (ownF x.f0).2.2.2 x.f4
  simp only [List.length_append, List.length_cons, List.length_nil]
  omega
set_option maxHeartbeats 8000000 in
set_option maxRecDepth 100000 in
theorem encode_good (A : Option Addr) (c : Nat) (l : List S40) (s0 p0 : Nat) (w : World) (h : Kd.C k40 w A l.length l) (hcap : l.length ≤ c) (hc : checkB l s0 p0 = 0) :
    Calls Try.prog 8 #[.agg #[.slice A l.length c, .int .i64 s0, .int .i64 p0]] w fun e w' => e = .returned (.tuple #[.string ⟨(writtenL l s0 p0).toArray⟩, .int .i64 0]) ∧ Kp [] w w' := by
  obtain ⟨n1, n2, -, n3, -, n4, hfit⟩ := check_zero hc
  have kk := (Kp.refl [] w).alloc (.cells #[.slice A l.length c, .int .i64 s0, .int .i64 p0] 24)
  have hh := heap_alloc_new w (.cells #[.slice A l.length c, .int .i64 s0, .int .i64 p0] 24)
  have hC : Kd.C k40 (w.alloc (.cells #[.slice A l.length c, .int .i64 s0, .int .i64 p0] 24)) A l.length l := Kd.C_below h (kk.below (Nat.le_refl _) (by simp))
  have CC := Lib.hid (check_calls A c l s0 p0 _ hC)
  rw [hc] at CC
  clear hC
  have C18 := Lib.hid number_calls
  have hfit' := Lib.hid hfit
  have hcc := Lib.hid hc
  clear hfit hc
  go_enter Try.func8, Try.ntmps8
  go_upto_region 5 with (go_at_call 15; refine CC.out.mono ?_; rintro e w1 ⟨rfl, k1⟩; replace hh := kblk (b := w.heap.size) k1 hh; replace kk := kk.trans (show Kp [] _ _ from k1); have y0 := cellB hh 0; have y1 := cellB hh 1; have y2 := cellB hh 2; simp at y0 y1 y2)
  have hF := Lib.fresh_isBuilder 43 5 w1
  replace hh := hh
  have hlt := ltB hh
  have hh2 : (w1.alloc (.cells #[.pointer none, .slice none 0 0] 43)).heap[w.heap.size]? = _ := (Below.heap_alloc w1 _ _ hlt).trans hh
  have kk2 := kk.alloc (.cells #[.pointer none, .slice none 0 0] 43)
  have hBs : w1.heap.size ≤ (w1.alloc (.cells #[.pointer none, .slice none 0 0] 43)).heap.size := by simp
  have hBw : w.heap.size < w1.heap.size := hlt
  clear hh kk y0 y1 y2
  generalize (w1.alloc (.cells #[.pointer none, .slice none 0 0] 43)) = W at hF hh2 kk2 hBs ⊢
  generalize w1.heap.size = B at hF hBs hBw ⊢
  have y0 := cellB hh2 0
  have y1 := cellB hh2 1
  have y2 := cellB hh2 2
  simp at y0 y1 y2
  have C17 := Lib.hid (head_calls B l.length s0 p0)
  have hsum1 : (9223372036854775807 < 3 + (⟨(num s0).toArray⟩ : ByteArray).size) = False := eq_false (by have := (num_len s0).2; simp [ByteArray.size]; omega)
  have hsum2 : (9223372036854775807 < 3 + (⟨(num s0).toArray⟩ : ByteArray).size + (⟨(num p0).toArray⟩ : ByteArray).size) = False := eq_false (by have := (num_len s0).2; have := (num_len p0).2; simp [ByteArray.size]; omega)
  have hsum3 : (9223372036854775807 < 3 + (⟨(num s0).toArray⟩ : ByteArray).size + (⟨(num p0).toArray⟩ : ByteArray).size + (⟨(num l.length).toArray⟩ : ByteArray).size) = False := eq_false (by have := (num_len s0).2; have := (num_len p0).2; have := (num_len l.length).2; simp [ByteArray.size]; omega)
  have hsum4 : (9223372036854775807 < 3 + (num s0).length) = False := eq_false (by have := (num_len s0).2; omega)
  have hsum5 : (9223372036854775807 < 3 + (num s0).length + (num p0).length) = False := eq_false (by have := (num_len s0).2; have := (num_len p0).2; omega)
  have hsum6 : (9223372036854775807 < 3 + (num s0).length + (num p0).length + (num l.length).length) = False := eq_false (by have := (num_len s0).2; have := (num_len p0).2; have := (num_len l.length).2; omega)
  go_cut [] (fun wc => Kp [] w wc ∧ wc.heap[w.heap.size]? = some (.cells #[.slice A l.length c, .int .i64 s0, .int .i64 p0] 24 (0, 0)) ∧ B ≤ wc.heap.size ∧ UB B B (headL l.length s0 p0) wc)
  case first =>
    go_region_with (first
      | (go_at_call 18; refine (C18.out _ (by omega) _).mono ?_; rintro e w2 ⟨rfl, k2⟩; (try replace k2 := Kp.undrew k2); replace hF := isb_kp hF k2; replace hh2 := kblk (b := w.heap.size) k2 hh2; replace kk2 := kk2.trans k2; replace hBs := Nat.le_trans hBs k2.size; clear k2 y0 y1 y2; have y0 := cellB hh2 0; have y1 := cellB hh2 1; have y2 := cellB hh2 2; simp at y0 y1 y2)
      | (go_at_call 17; rw [head_str]; refine (C17.out _ hF hBs).mono ?_; rintro e w2 ⟨⟨r, rfl⟩, u2⟩; replace kk2 := kp_ub kk2 u2 (Nat.le_of_lt hBw); replace hh2 := blk_ub hh2 u2 (Nat.ne_of_lt hBw) (by decide); replace hBs := Nat.le_trans hBs u2.2.1.size; replace u2 := u2.1))
    all_goals
      go_wp2
      go_meet
      case rel => exact ⟨kk2, hh2, hBs, u2⟩
  case rest =>
    obtain ⟨kkc, hhc, hBc, uc⟩ := hcut
    clear y0 y1 y2 hh2 kk2 hF
    have y0 := cellB hhc 0
    simp at y0
    obtain ⟨bA, oA, rfl, hltA, hcells⟩ := rowOpen h (by omega)
    have hlen0 := headL_len l.length s0 p0
    have HC := Lib.hid hcells
    clear hcells
    go_wp2
    go_loopg [36] l.length (fun gk v36 wr => ∃ (k : Nat) (bs : List UInt8), k ≤ l.length ∧ l.length - k ≤ gk ∧ v36 = .int .i64 k ∧ Kp [] w wr ∧ wr.heap[w.heap.size]? = some (.cells #[.slice (some ⟨bA, oA, none⟩) l.length c, .int .i64 s0, .int .i64 p0] 24 (0, 0)) ∧ B ≤ wr.heap.size ∧ UB B B bs wr ∧ bs = headL l.length s0 p0 ++ (l.take k).flatMap oneL ∧ bs.length ≤ 12 + 13 * k)
    case atStart => exact ⟨0, _, by omega, by omega, rfl, kkc, hhc, hBc, uc, by simp, by omega⟩
    case round =>
      obtain ⟨k, bs, hkl, hgk, rfl, kkr, hhr, hBr, ur, hbs, hbl⟩ := hrel
      by_cases hk : k < l.length
      · cases gk with
        | zero => omega
        | succ g1 =>
          have hkb : ((k : Int) < (l.length : Int)) := by omega
          have d1 := decide_eq_true hkb
          obtain ⟨x, hx⟩ : ∃ x, x = l[k]! := ⟨_, rfl⟩
          have hxm : x ∈ l := by rw [hx, getElem!_pos l k hk]; exact List.getElem_mem hk
          obtain ⟨⟨o1, o6⟩, r1, r2, r3, r4⟩ := fits_range (hfit'.out x hxm)
          have q0 := kcell kkr (HC.out k hk 0 _ rfl)
          have q1 := kcell kkr (HC.out k hk 1 _ rfl)
          have q2 := kcell kkr (HC.out k hk 2 _ rfl)
          have q3 := kcell kkr (HC.out k hk 3 _ rfl)
          have q4 := kcell kkr (HC.out k hk 4 _ rfl)
          rw [← hx] at q0 q1 q2 q3 q4
          simp only [Nat.add_zero] at q0
          have hw8 : IntKind.u8.wrap x.f0 = x.f0 := by rw [IntKind.wrap_u8]; omega
          have hZ := Lib.hid (And.intro r1 (And.intro r2 (And.intro r3 r4)))
          have hO := Lib.hid (And.intro o1 o6)
          have hBL := Lib.hid hbl
          have hBS := Lib.hid hbs
          have hX := Lib.hid hx
          clear r1 r2 r3 r4 o1 o6 hx hbl hbs hxm
          have hBlt := Lib.hid (Lib.BuilderAt.lt ur)
          have u1 := ur.kp ((Kp.refl [] wr).alloc (.cells #[.int .i64 x.f0, .int .i64 x.f1, .int .i64 x.f2, .int .i64 x.f3, .int .i64 x.f4] 40))
          have hb7 := heap_alloc_new wr (.cells #[.int .i64 x.f0, .int .i64 x.f1, .int .i64 x.f2, .int .i64 x.f3, .int .i64 x.f4] 40)
          have hh1 := kblk ((Kp.refl [] wr).alloc (.cells #[.int .i64 x.f0, .int .i64 x.f1, .int .i64 x.f2, .int .i64 x.f3, .int .i64 x.f4] 40)) hhr
          have kk1 := kkr.alloc (.cells #[.int .i64 x.f0, .int .i64 x.f1, .int .i64 x.f2, .int .i64 x.f3, .int .i64 x.f4] 40)
          have hB1 : B ≤ (wr.alloc (.cells #[.int .i64 x.f0, .int .i64 x.f1, .int .i64 x.f2, .int .i64 x.f3, .int .i64 x.f4] 40)).heap.size := by simp; omega
          go_wp2_with (first
            | (go_at_call 19; refine (ubb_calls B B _ x.f0 (by have := hO.out; omega) (by have := hO.out; omega) _ u1 (by have := hBL.out; omega) hB1).mono ?_; rintro e W2 ⟨rfl, U2⟩; replace hb7 := blk_ub hb7 U2 (Nat.ne_of_gt hBlt.out) (by decide); replace hh1 := blk_ub hh1 U2 (Nat.ne_of_lt hBw) (by decide); replace kk1 := kp_ub kk1 U2 (Nat.le_of_lt hBw); replace hB1 := Nat.le_trans hB1 U2.2.1.size; replace u1 := U2.1; (try clear z0 z1 z2 z3 z4); have z0 := cellB hb7 0; have z1 := cellB hb7 1; have z2 := cellB hb7 2; have z3 := cellB hb7 3; have z4 := cellB hb7 4; simp at z0 z1 z2 z3 z4)
            | (go_at_call 20; refine (wfields_calls x.f0 _).mono ?_; rintro e W3 ⟨rfl, kd⟩; replace kd := Kp.ofDrawn kd; replace u1 := u1.kp kd; replace hb7 := kblk kd hb7; replace hh1 := kblk kd hh1; replace kk1 := kk1.trans kd; replace hB1 := Nat.le_trans hB1 kd.size; clear kd; (try clear z0 z1 z2 z3 z4); have z0 := cellB hb7 0; have z1 := cellB hb7 1; have z2 := cellB hb7 2; have z3 := cellB hb7 3; have z4 := cellB hb7 4; simp at z0 z1 z2 z3 z4)
            | (go_at_call 21; refine (put_calls B B _ _ _ _ u1 (by first | exact hZ.out.1 | exact hZ.out.2.1 | exact hZ.out.2.2.1 | exact hZ.out.2.2.2) (by have := hBL.out; have p1 := putL_len (ownF x.f0).1 x.f1; have p2 := putL_len (ownF x.f0).2.1 x.f2; have p3 := putL_len (ownF x.f0).2.2.1 x.f3; simp only [List.length_append, List.length_cons, List.length_nil]; omega) hB1).mono ?_; rintro e W2 ⟨rfl, U2⟩; replace hb7 := blk_ub hb7 U2 (Nat.ne_of_gt hBlt.out) (by decide); replace hh1 := blk_ub hh1 U2 (Nat.ne_of_lt hBw) (by decide); replace kk1 := kp_ub kk1 U2 (Nat.le_of_lt hBw); replace hB1 := Nat.le_trans hB1 U2.2.1.size; replace u1 := U2.1; (try clear z0 z1 z2 z3 z4); have z0 := cellB hb7 0; have z1 := cellB hb7 1; have z2 := cellB hb7 2; have z3 := cellB hb7 3; have z4 := cellB hb7 4; simp at z0 z1 z2 z3 z4))
          go_roundg g1
          case measure => omega
          case rel => exact ⟨k + 1, _, by omega, by omega, by simp, kk1, hh1, hB1, u1, round_eq hk hX.out hBS.out, round_len hBL.out⟩
      · obtain rfl : k = l.length := by omega
        have d1 := decide_eq_false (show ¬ ((l.length : Int) < (l.length : Int)) by omega)
        rw [List.take_length] at hbs
        have hbs' : bs = bodyL l s0 p0 := hbs
        have hne : bs ≠ [] := by rw [hbs']; simp [bodyL, headL]
        have hbl2 : bs.length ≤ 100000 := by omega
        rw [hbs'] at hbl2
        clear hbs hbl
        go_wp2_with (first
          | (go_at_call 22; refine (Try.Builder_String B B bs _ (Or.inr ur) hne).mono ?_; rintro e W2 ⟨rfl, hb2⟩; replace kkr := Kp.ofBelow ((kkr.below (Nat.le_refl _) (by simp)).trans (hb2.mono (Nat.le_of_lt hBw))))
          | (go_at_call 23; refine (sum_calls _ (by omega) _).mono ?_; rintro e W3 ⟨rfl, kd⟩; replace kkr := kkr.trans (Kp.ofDrawn kd)))
        have hz1 : (9223372036854775807 < (bodyL l s0 p0).length + 1) = False := eq_false (by omega)
        rw [conv1]
        simp only [Result.andThen]
        rw [Oper.upon_value]
        go_wp2
        refine bodyPost_ret (results_list (rs := [.tmp 2, .tmp 3]) rfl (by simp) (.tmp (.tmp .nil))) rfl ?_
        exact ⟨congrArg (fun z => Ending.returned (.tuple #[.string z, .int .i64 0])) (end_str l s0 p0), kkr.alloc _⟩
theorem encode_calls (A : Option Addr) (c : Nat) (l : List S40) (start slots : Int) (w : World) (h : Kd.C k40 w A l.length l) (hcap : l.length ≤ c) :
    Calls Try.prog 8 #[.agg #[.slice A l.length c, .int .i64 start, .int .i64 slots]] w fun e w' => e = .returned (.tuple #[.string (encS l start slots).1, .int .i64 (encS l start slots).2]) ∧ Kp [] w w' := by
  rcases check_or l start slots with hc | hc
  · obtain ⟨-, -, n3, -, n5, -, -⟩ := check_zero hc
    obtain ⟨s0, rfl⟩ := Int.eq_ofNat_of_zero_le n3
    obtain ⟨p0, rfl⟩ := Int.eq_ofNat_of_zero_le n5
    refine (encode_good A c l s0 p0 w h hcap hc).mono ?_
    rintro e w' ⟨rfl, k⟩
    rw [encS, if_pos hc]
    exact ⟨rfl, k⟩
  · refine (encode_bad A c l start slots w h hc).mono ?_
    rintro e w' ⟨rfl, k⟩
    rw [encS, if_neg (by rw [hc]; decide), hc]
    exact ⟨rfl, k⟩
end Go.Proofs.Ytkjkkebaafmheaa
