/- New: the template of a text, walked. -/
import Derived.Test.YtgjjkpnfnjpfgaaDoorL
namespace Go.Proofs.YtgjjkpnfnjpfgaaDoor
open Go.Shelf Go.RowKit PAll Go.Proofs.YtgjjkpnfnjpfgaaDoorW.PrintWords Go.Proofs.YtgjjkpnfnjpfgaaDoorW.PrintLast Go.Proofs.YtgjjkpnfnjpfgaaDoorW.PrintMore
set_option linter.unusedVariables false
set_option linter.unusedSimpArgs false
/-- A piece: bytes, or a group. -/
inductive Pc
  | t (l : List UInt8)
  | g (k : Int)
def Pc.val : Pc → Value
  | .t l => .iface 41 (.string (bs l))
  | .g k => .iface 44 (.int .i64 k)
theorem Pc.one (p : Pc) : p.val.oneCell' = true := by cases p <;> rfl
def pieceL (N : List ByteArray) (s : List UInt8) : Pc := if s = [36] then .t [36] else .g (numI N s)
def headL (l : List UInt8) : List UInt8 := l.takeWhile (fun c => c != 36)
/-- New, in plain words: the place where the text is wrong, or the pieces. -/
def newL (N : List ByteArray) : Nat → List UInt8 → Nat ⊕ List Pc
  | 0, _ => .inl 0
  | k + 1, l => match l.drop (headL l).length with
    | [] => .inr [.t (headL l)]
    | _ :: r => if (behL r).1 = 0 then .inl (headL l).length else
      match newL N k (r.drop (behL r).1) with
      | .inl e => .inl ((headL l).length + 1 + (behL r).1 + e)
      | .inr m => .inr (.t (headL l) :: pieceL N (behL r).2 :: m)
def comb (xs : List Pc) (off : Nat) : Nat ⊕ List Pc → Nat ⊕ List Pc
  | .inl e => .inl (off + e)
  | .inr m => .inr (xs ++ m)
theorem comb_comb (xs ys : List Pc) (a b : Nat) (R : Nat ⊕ List Pc) : comb xs a (comb ys b R) = comb (xs ++ ys) (a + b) R := by cases R <;> simp [comb, Nat.add_assoc]
theorem newL_miss (N : List ByteArray) (k : Nat) (l : List UInt8) (h : l.drop (headL l).length = []) : newL N (k + 1) l = .inr [.t (headL l)] := by
  rw [newL, h]
theorem newL_bad (N : List ByteArray) (k : Nat) (l r : List UInt8) (c : UInt8) (h : l.drop (headL l).length = c :: r) (hb : (behL r).1 = 0) : newL N (k + 1) l = .inl (headL l).length := by
  rw [newL, h]; simp only; rw [if_pos hb]
theorem newL_hit (N : List ByteArray) (k : Nat) (l r : List UInt8) (c : UInt8) (h : l.drop (headL l).length = c :: r) (hb : ¬ (behL r).1 = 0) : newL N (k + 1) l = comb [.t (headL l), pieceL N (behL r).2] ((headL l).length + 1 + (behL r).1) (newL N k (r.drop (behL r).1)) := by
  rw [newL, h]; simp only; rw [if_neg hb]
  cases newL N k (r.drop (behL r).1) <;> rfl
theorem newL_len (N : List ByteArray) : ∀ (k : Nat) (l : List UInt8) (m : List Pc), newL N k l = .inr m → m.length ≤ l.length + 1 := by
  intro k
  induction k with
  | zero => intro l m h; simp [newL] at h
  | succ k ih =>
    intro l m h
    cases hd : l.drop (headL l).length with
    | nil => rw [newL_miss N k l hd] at h; obtain rfl := Sum.inr.inj h; simp
    | cons c r =>
      by_cases hb : (behL r).1 = 0
      · rw [newL_bad N k l r c hd hb] at h; cases h
      · rw [newL_hit N k l r c hd hb] at h
        cases hn : newL N k (r.drop (behL r).1) with
        | inl e => rw [hn] at h; cases h
        | inr m' =>
          rw [hn] at h
          obtain rfl := Sum.inr.inj h
          have := ih _ _ hn
          have hl := congrArg List.length hd
          have hle := behL_le r
          simp only [List.length_drop, List.length_cons] at hl this
          simp only [List.length_append, List.length_cons, List.length_nil]
          omega
theorem head_idx (l : List UInt8) : ∀ r c, l.drop (headL l).length = c :: r → c = 36 ∧ Lib.indexByte l 36 = ((headL l).length : Int) ∧ l.take (headL l).length = headL l ∧ l.drop ((headL l).length + 1) = r ∧ l.length = (headL l).length + 1 + r.length := by
  intro r c h
  have ht : l.take (headL l).length = headL l := (List.prefix_iff_eq_take.1 (List.takeWhile_prefix _)).symm
  have hl := congrArg List.length h
  simp only [List.length_drop, List.length_cons] at hl
  have hd : l.drop ((headL l).length + 1) = r := by rw [← List.drop_drop, h]; rfl
  refine ⟨?_, ?_, ht, hd, by omega⟩
  · clear ht hd hl
    induction l with
    | nil => simp [headL] at h
    | cons x t ih =>
      by_cases e : x = 36
      · subst e
        simp [headL] at h
        exact h.1.symm
      · have : headL (x :: t) = x :: headL t := by simp [headL, e]
        rw [this] at h
        exact ih h
  · clear ht hd hl
    induction l generalizing r c with
    | nil => simp [headL] at h
    | cons x t ih =>
      unfold Lib.indexByte
      by_cases e : x = 36
      · subst e
        simp [headL]
      · have he : headL (x :: t) = x :: headL t := by simp [headL, e]
        have hb : (x == (36 : UInt8)) = false := by simpa using e
        rw [he] at h ⊢
        rw [hb, ih r c h]
        have : (((headL t).length : Int) == -1) = false := by rw [beq_eq_false_iff_ne]; omega
        rw [this]
        simp
theorem miss_idx : ∀ (l : List UInt8), l.drop (headL l).length = [] → Lib.indexByte l 36 = -1 ∧ headL l = l
  | [], _ => ⟨rfl, rfl⟩
  | x :: t, h => by
    by_cases e : x = 36
    · subst e
      simp [headL] at h
    · have he : headL (x :: t) = x :: headL t := by simp [headL, e]
      have hb : (x == (36 : UInt8)) = false := by simpa using e
      rw [he] at h ⊢
      obtain ⟨h1, h2⟩ := miss_idx t h
      unfold Lib.indexByte
      rw [hb, h1, h2]
      simp
theorem cutHit (l r : List UInt8) (c : UInt8) (h : l.drop (headL l).length = c :: r) (hl : l.length ≤ 1000000) (w : World) : Calls Tryd.prog 9 #[.string (bs l), .string ⟨#[36]⟩] w fun e w' => e = .returned (.tuple #[.string (bs (headL l)), .string (bs r), .bool true]) ∧ Kp [] w w' := by
  obtain ⟨_, h1, h2, h3, h4⟩ := head_idx l r c h
  refine cut12 _ _ _ _ w ?_
  have := cut_hit (bs l) (headL l).length (by rw [bs_size]; omega) (by rw [bs_size]; exact hl) (by rw [bs_eq]; exact h1) w
  rw [bs_size, bs_ext, bs_ext, h2, List.take_length, h3] at this
  simpa using this
theorem cutMiss (l : List UInt8) (h : l.drop (headL l).length = []) (w : World) : Calls Tryd.prog 9 #[.string (bs l), .string ⟨#[36]⟩] w fun e w' => e = .returned (.tuple #[.string (bs l), .string ⟨#[]⟩, .bool false]) ∧ Kp [] w w' := by
  obtain ⟨h1, h2⟩ := miss_idx l h
  exact cut12 _ _ _ _ w (cut_miss (bs l) (by rw [bs_eq]; exact h1) w)
def strLen : Value → Nat
  | .string s => s.size
  | _ => 0
/-- What New answers. -/
def NewPost (w : World) (R : Nat ⊕ List Pc) (e : Ending) (w' : World) : Prop := match R with
  | .inl at' => e = .returned (.tuple #[.pointer none, .int .i64 at', .int .i64 350]) ∧ Kp [] w w'
  | .inr m => ∃ b u, e = .returned (.tuple #[.pointer (some ⟨b, 0, none⟩), .int .i64 0, .int .i64 0]) ∧ w.heap.size ≤ b ∧ TBox b (m.map Pc.val) u w' ∧ Kp [] w w'
def NewI (w : World) (B : Nat) (N : List ByteArray) (n : Nat) (R : Nat ⊕ List Pc) (tv lv : Value) (wr : World) : Prop :=
  tv = .pointer (some ⟨B, 0, none⟩) ∧ ∃ (l : List UInt8) (xs : List Pc) (u : Value) (k : Nat), lv = .string (bs l) ∧ TBox B (xs.map Pc.val) u wr ∧ Kp [] w wr ∧ l.length ≤ n ∧ xs.length ≤ n - l.length ∧ l.length < k ∧ Aside0 (comb xs (n - l.length) (newL N k l) = R)
theorem behL_le2 (l : List UInt8) : (behL l).2.length ≤ l.length := by
  unfold behL
  by_cases h1 : l.head? = some 36
  · rw [if_pos h1]
    cases l with
    | nil => simp at h1
    | cons x t => simp
  · rw [if_neg h1]
    have := tw_le letL l.tail
    have h3 : l.tail.length ≤ l.length := by simp
    by_cases h2 : l.head? = some 123
    · rw [if_pos h2]
      by_cases h4 : l.tail.takeWhile letL = []
      · simp only; rw [if_pos h4]; simp
      · simp only
        rw [if_neg h4]
        by_cases h5 : (l.tail.drop (l.tail.takeWhile letL).length).head? = some 125
        · rw [if_pos h5]; simp only; omega
        · rw [if_neg h5]; simp
    · rw [if_neg h2]; exact tw_le _ _
theorem kpBelow {w a b : World} (h : Kp [] w a) (k : Below w.heap.size a b) : Kp [] w b :=
  ⟨k.os.trans h.os, k.tape.trans h.tape, k.output.trans h.output, Nat.le_trans h.size k.size, fun i hi hn => (k.block i hi).trans (h.block i hi hn)⟩
theorem TBox.alloc {b : Nat} {xs : List Value} {u : Value} {w : World} (h : TBox b xs u w) (o : Obj) : TBox b xs u (w.alloc o) := h.kp ((Kp.refl [] w).alloc o)
theorem TBox.drew {b : Nat} {xs : List Value} {u : Value} {w : World} (h : TBox b xs u w) : TBox b xs u w.drew := h.kp (Kp.refl [] w).drew
set_option maxRecDepth 100000 in
set_option maxHeartbeats 4000000 in
theorem new_calls (A : Option Addr) (c : Nat) (N : List ByteArray) (s : List UInt8) (w : World) (hc : N.length ≤ c) (hN : N.length ≤ 1000000) (hs : s.length ≤ 4096) (hK : ∀ w', Kp [] w w' → Kd.C Kd.string w' A N.length N) :
    Calls Tryd.prog 5 #[.string (bs s), .slice A N.length c] w fun e w' => NewPost w (newL N (s.length + 1) s) e w' := by
  have hsz : (bs s).size = s.length := bs_size s
  have d0 : decide ((4096 : Int) < (s.length : Int)) = false := decide_eq_false (by omega)
  have PC := Lib.hid put_calls
  have CH := Lib.hid cutHit
  have CM := Lib.hid cutMiss
  have BH := Lib.hid beh_calls
  have NB := Lib.hid (fun nm h w' (k : Kp [] w w') => number_calls A c N nm w' (hK w' k) hc hN h (fun w'' k' => hK w'' (k.trans k')))
  obtain ⟨R, hRR⟩ : ∃ R, newL N (s.length + 1) s = R := ⟨_, rfl⟩
  have hR : Aside0 (comb [] 0 (newL N (s.length + 1) s) = R) := ⟨by rw [hRR]; cases R <;> simp [comb]⟩
  rw [hRR]
  clear hRR
  clear hK
  go_enter Tryd.func5, Tryd.ntmps5
  go_wp2_with fail
  obtain ⟨B, hB⟩ : ∃ B, B = w.heap.size := ⟨_, rfl⟩
  obtain ⟨W1, hW1⟩ : ∃ W1, W1 = w.alloc (.cells #[.slice none 0 0] 37) := ⟨_, rfl⟩
  have hT0 : TBox B [] (.slice none 0 0) W1 := by rw [hW1, hB]; exact ⟨heap_alloc_new _ _, World.ownsRow_nil _ _ _ _⟩
  have k0 : Kp [] w W1 := by rw [hW1]; exact (Kp.refl [] w).alloc _
  rw [← hB, ← hW1]
  have HB := Lib.hid hB
  clear hB hW1
  go_loopw [4, 7] (fun tv lv wr => NewI w B N s.length R tv lv wr) (fun _ lv _ => strLen lv)
  case atStart => exact ⟨rfl, s, [], _, s.length + 1, rfl, hT0, k0, Nat.le_refl _, by simp, by omega, by rw [Nat.sub_self]; exact hR⟩
  case round =>
    obtain ⟨rfl, l, xs, u, k, rfl, hT, kk, hl, hx, hk, hcomb⟩ := hrel
    clear hT0 k0 hR
    obtain ⟨k, rfl⟩ : ∃ k', k = k' + 1 := ⟨k - 1, by omega⟩
    cases hd : l.drop (headL l).length with
    | nil =>
      have C1 := Lib.hid (fun W => CM.out l hd W)
      have hfin := hcomb.out
      rw [newL_miss N k l hd] at hfin
      have he := (miss_idx l hd).2
      rw [he] at hfin
      subst hfin
      have hbx := ltB hT.box
      replace hd := Lib.hid hd
      replace he := Lib.hid he
      clear hcomb
      go_wp2_with (first | (go_at_call 9; refine (C1.out _).mono ?_; rintro e w1 ⟨rfl, k1⟩; have hT1 := hT.kp k1) | (go_at_call 10; refine (PC.out B _ (xs.map Pc.val) u (.iface 41 (.string (bs l))) _ (hT1.alloc _) (cell_new1 _ _ _ rfl) rfl (by rw [List.length_map]; omega)).mono ?_; rintro e w2 ⟨rfl, ⟨u2, hT2⟩, kb2⟩))
      go_ret3
      refine ⟨B, u2, rfl, by rw [HB.out]; exact Nat.le_refl _, ?_, kpBelow ((kk.trans k1).alloc _) (by rw [← HB.out]; exact kb2)⟩
      rw [List.map_append]
      exact hT2
    | cons c0 r =>
      have C1 := Lib.hid (fun W => CH.out l r c0 hd (by omega) W)
      obtain ⟨_, _, _, _, hln⟩ := head_idx l r c0 hd
      have B1 := Lib.hid (fun W => BH.out r (by omega) W)
      have hbl := behL_le r
      have hbx := ltB hT.box
      have hsr : (bs r).size = r.length := bs_size r
      obtain ⟨h, hh⟩ : ∃ h, headL l = h := ⟨_, rfl⟩
      obtain ⟨nb, hnb⟩ : ∃ nb, (behL r).1 = nb := ⟨_, rfl⟩
      obtain ⟨sd, hsd⟩ : ∃ sd, (behL r).2 = sd := ⟨_, rfl⟩
      rw [hnb, hsd] at B1
      rw [hh] at C1
      have hsdl : sd.length ≤ 1000000 := by
        have := behL_le2 r
        rw [hsd] at this
        omega
      by_cases hz : nb = 0
      · have hfin := hcomb.out
        rw [newL_bad N k l r c0 hd (by rw [hnb, hz]), hh] at hfin
        subst hfin
        have w1 : IntKind.i64.wrap ((s.length : Int) - (r.length : Int)) = (s.length : Int) - (r.length : Int) := IntWalk.i64_in _ (by omega)
        have w2 : IntKind.i64.wrap ((s.length : Int) - (r.length : Int) - 1) = ((s.length - l.length + h.length : Nat) : Int) := by rw [IntWalk.i64_in _ (by omega), ← hh]; omega
        subst hz
        replace hd := Lib.hid hd
        replace hh := Lib.hid hh
        replace hnb := Lib.hid hnb
        replace hln := Lib.hid hln
        clear hcomb hsd
        go_wp2_with (first | (go_at_call 9; refine (C1.out _).mono ?_; rintro e w1 ⟨rfl, k1⟩; have hT1 := hT.kp k1) | (go_at_call 10; refine (PC.out B _ (xs.map Pc.val) u (.iface 41 (.string (bs h))) _ (hT1.alloc _) (cell_new1 _ _ _ rfl) rfl (by rw [List.length_map]; omega)).mono ?_; rintro e w2 ⟨rfl, ⟨u2, hT2⟩, kb2⟩) | (go_at_call 11; refine (B1.out _).mono ?_; rintro e w3 ⟨rfl, n3, rfl⟩))
        go_ret3
        exact ⟨rfl, (kpBelow ((kk.trans k1).alloc _) (by rw [← HB.out]; exact kb2)).drewN _⟩
      · have hfin := hcomb.out
        rw [newL_hit N k l r c0 hd (by rw [hnb]; exact hz), hh, hnb, hsd, comb_comb] at hfin
        have dz : ((nb : Int) == 0) = false := by rw [beq_eq_false_iff_ne]; omega
        have hnr : nb ≤ r.length := by rw [← hnb]; exact hbl
        have hi1 : (nb : Int) ≤ (r.length : Int) := by omega
        have hln' : l.length = h.length + 1 + r.length := by rw [← hh]; exact hln
        have hrb : (bs r).extract nb r.length = bs (r.drop nb) := by rw [bs_ext, List.take_length]
        have hdl : (r.drop nb).length = r.length - nb := List.length_drop
        have hoff : s.length - l.length + (h.length + 1 + nb) = s.length - (r.drop nb).length := by rw [hdl]; omega
        rw [hoff] at hfin
        replace hd := Lib.hid hd
        replace hh := Lib.hid hh
        replace hnb := Lib.hid hnb
        replace hln := Lib.hid hln
        replace hsd := Lib.hid hsd
        have HF := Lib.hid hfin
        replace hrb := Lib.hid hrb
        replace hdl := Lib.hid hdl
        have hnz : Hid (1 ≤ nb) := Lib.hid (by omega)
        replace hln' := Lib.hid hln'
        clear hcomb hfin hoff hz
        by_cases h36 : sd = [36]
        · subst h36
          have e36 : ((bs [36]).toList == [36]) = true := by rw [bs_list]; rfl
          have hp : pieceL N [36] = .t [36] := by unfold pieceL; rw [if_pos rfl]
          rw [hp] at HF
          clear hp
          go_wp2_with (first | (go_at_call 9; refine (C1.out _).mono ?_; rintro e w1 ⟨rfl, k1⟩; have hT1 := hT.kp k1) | (go_at_call 10; with_reducible refine (PC.out B _ (xs.map Pc.val) u (.iface 41 (.string (bs h))) _ (hT1.alloc _) (cell_new1 _ _ _ rfl) rfl (by rw [List.length_map]; omega)).mono ?_; rintro e w2 ⟨rfl, ⟨u2, hT2⟩, kb2⟩; have kk2 := kpBelow ((kk.trans k1).alloc _) (by rw [← HB.out]; exact kb2)) | (go_at_call 11; refine (B1.out _).mono ?_; rintro e w3 ⟨rfl, n3, rfl⟩; have hT3 := hT2.kp ((Kp.refl [] w2).drewN n3); have kk3 := kk2.drewN n3) | (go_at_call 10; refine (PC.out B _ (xs.map Pc.val ++ [.iface 41 (.string (bs h))]) u2 (.iface 41 (.string ⟨#[36]⟩)) _ (hT3.alloc _) (cell_new1 _ _ _ rfl) rfl (by rw [List.length_append, List.length_map, List.length_cons, List.length_nil]; omega)).mono ?_; rintro e w4 ⟨rfl, ⟨u4, hT4⟩, kb4⟩; have kk4 := kpBelow (kk3.alloc _) (by rw [← HB.out]; exact kb4)))
          rw [← bs_eq [36]] at hT4
          go_round
          case rel =>
            refine ⟨rfl, r.drop nb, xs ++ [.t h, .t [36]], u4, k, by rw [← hrb.out], by rw [List.map_append]; have := hT4; rw [List.append_assoc] at this; exact this, kk4, by rw [hdl.out]; have := hln'.out; omega, ?_, by rw [hdl.out]; have := hln'.out; omega, ⟨HF.out⟩⟩
            rw [hdl.out, List.length_append, List.length_cons, List.length_cons, List.length_nil]
            have := hln'.out
            have := hnz.out
            omega
          case measure =>
            show ((bs r).extract nb r.length).size < (bs l).size
            rw [hrb.out, bs_size, bs_size, hdl.out]
            have := hln'.out
            omega
        · have e36 : ((bs sd).toList == [36]) = false := by rw [bs_list]; simpa using h36
          have hp : pieceL N sd = .g (numI N sd) := by unfold pieceL; rw [if_neg h36]
          rw [hp] at HF
          have N1 := Lib.hid (NB.out sd hsdl)
          clear hp h36
          go_wp2_with (first | (go_at_call 9; refine (C1.out _).mono ?_; rintro e w1 ⟨rfl, k1⟩; have hT1 := hT.kp k1) | (go_at_call 10; with_reducible refine (PC.out B _ (xs.map Pc.val) u (.iface 41 (.string (bs h))) _ (hT1.alloc _) (cell_new1 _ _ _ rfl) rfl (by rw [List.length_map]; omega)).mono ?_; rintro e w2 ⟨rfl, ⟨u2, hT2⟩, kb2⟩; have kk2 := kpBelow ((kk.trans k1).alloc _) (by rw [← HB.out]; exact kb2)) | (go_at_call 11; refine (B1.out _).mono ?_; rintro e w3 ⟨rfl, n3, rfl⟩; have hT3 := hT2.kp ((Kp.refl [] w2).drewN n3); have kk3 := kk2.drewN n3) | (go_at_call 12; refine (N1.out _ kk3).mono ?_; rintro e w5 ⟨rfl, k5⟩; have hT5 := hT3.kp k5; have kk5 := kk3.trans k5) | (go_at_call 10; refine (PC.out B _ (xs.map Pc.val ++ [.iface 41 (.string (bs h))]) u2 (.iface 44 (.int .i64 (numI N sd))) _ (hT5.alloc _) (cell_new1 _ _ _ rfl) rfl (by rw [List.length_append, List.length_map, List.length_cons, List.length_nil]; omega)).mono ?_; rintro e w4 ⟨rfl, ⟨u4, hT4⟩, kb4⟩; have kk4 := kpBelow (kk5.alloc _) (by rw [← HB.out]; exact kb4)))
          go_round
          case rel =>
            refine ⟨rfl, r.drop nb, xs ++ [.t h, .g (numI N sd)], u4, k, by rw [← hrb.out], by rw [List.map_append]; have := hT4; rw [List.append_assoc] at this; exact this, kk4, by rw [hdl.out]; have := hln'.out; omega, ?_, by rw [hdl.out]; have := hln'.out; omega, ⟨HF.out⟩⟩
            rw [hdl.out, List.length_append, List.length_cons, List.length_cons, List.length_nil]
            have := hln'.out
            have := hnz.out
            omega
          case measure =>
            show ((bs r).extract nb r.length).size < (bs l).size
            rw [hrb.out, bs_size, bs_size, hdl.out]
            have := hln'.out
            omega
end Go.Proofs.YtgjjkpnfnjpfgaaDoor
