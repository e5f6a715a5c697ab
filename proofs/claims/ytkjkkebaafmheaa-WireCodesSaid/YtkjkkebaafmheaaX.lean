/- Package wire: the walks of the document's Decode and of WireCodes. -/
import Derived.Test.YtkjkkebaafmheaaR
import Derived.Test.YtkjkkebaafmheaaO
import Derived.Test.YtkjkkebaafmheaaP
namespace Go.Proofs.Ytkjkkebaafmheaa
open Go.RowKit PWireCodes Go.Proofs.YtkjkkebaafmheaaW.PrintWords Go.Proofs.YtkjkkebaafmheaaW.PrintLast Go.Proofs.YtkjkkebaafmheaaW.PrintMore
open Go.Shelf
set_option linter.unusedVariables false
set_option linter.unusedSimpArgs false
theorem get_calls (s : List UInt8) (hs : s.length ≤ 1000000) (z : Int) (hz : z ≤ 1000000) (w : World) : Calls Try.prog 29 #[.string ⟨s.toArray⟩, .int .i64 z] w fun e w' => e = .returned (.tuple #[.int .i64 (getZ s z).1, .int .i64 (getZ s z).2]) ∧ Drawn0 w w' :=
  burinref15_get.calls 8 _ _ _ _ w (rget s (by omega) z (by omega) 0)
theorem rcheck_calls (A : Option Addr) (c : Nat) (l : List S40) (a b : Int) (w : World) (h : Kd.C k40 w A l.length l) (hc : l.length ≤ c) (hl : l.length ≤ 1000000) :
    Calls Try.prog 24 #[.agg #[.slice A l.length c, .int .i64 a, .int .i64 b]] w fun e w' => e = .returned (.int .i64 (checkB l a b)) ∧ Kp [] w w' :=
  (burinref14_Check.calls _ A c l a b _ w h hc (rcheck l a b (by omega) 0)).mono fun e w' ⟨he, hb⟩ => ⟨he, Kp.ofBelow hb⟩
theorem rwritten_calls (A : Option Addr) (c : Nat) (l : List S40) (a b : Int) (w : World) (h : Kd.C k40 w A l.length l) (hc : l.length ≤ c) (hk : checkB l a b = 0) :
    Calls Try.prog 25 #[.agg #[.slice A l.length c, .int .i64 a, .int .i64 b]] w fun e w' => e = .returned (.string ⟨(writtenL l a b).toArray⟩) ∧ Kp [] w w' :=
  (burinref15_Written.calls _ A c l a b _ w h hc (rwritten l a b hk 0)).mono fun e w' ⟨he, hb⟩ => ⟨he, Kp.ofBelow hb⟩
theorem rencode_calls (A : Option Addr) (c : Nat) (l : List S40) (a b : Int) (w : World) (h : Kd.C k40 w A l.length l) (hc : l.length ≤ c) (hl : l.length ≤ 1000000) :
    Calls Try.prog 9 #[.agg #[.slice A l.length c, .int .i64 a, .int .i64 b]] w fun e w' => e = .returned (.tuple #[.string (encS l a b).1, .int .i64 (encS l a b).2]) ∧ Kp [] w w' := by
  refine (burinref15_Encode.calls (l.length + 100000 + 100010) A c l a b (encS l a b).1 (encS l a b).2 w h hc ?_).mono fun e w' ⟨he, hb⟩ => ⟨he, Kp.ofBelow hb⟩
  unfold burinref15_Encode.f
  have h1 := rcheck l a b (by omega) (100000 + 100007)
  rw [show l.length + (100000 + 100007) + 3 = l.length + 100000 + 100010 by omega] at h1
  rw [h1, Option.bind_some]
  rcases check_or l a b with hk | hk
  · rw [if_pos hk, rwritten l a b hk 100000, Option.bind_some, encS, if_pos hk]
  · rw [if_neg (by rw [hk]; decide), encS, if_neg (by rw [hk]; decide), hk]
structure RS (w W : World) (l : List S40) (u : Value) (a b : Int) : Prop where
  res : W.heap[w.heap.size]? = some (.cells #[.slice none 0 0, .int .i64 0, .int .i64 0] 24 (0, 0))
  prg : W.heap[w.heap.size + 1]? = some (.cells #[u, .int .i64 a, .int .i64 b] 24 (0, 0))
  row : Kd.R k40 40 W w.heap.size (fun _ => True) u l
  bel : Below w.heap.size w W
theorem RS.start (w : World) : RS w ((w.alloc (.cells #[.slice none 0 0, .int .i64 0, .int .i64 0] 24)).alloc (.cells #[.slice none 0 0, .int .i64 0, .int .i64 0] 24)) [] (.slice none 0 0) 0 0 :=
  ⟨(Below.heap_alloc _ _ _ (by simp)).trans (heap_alloc_new w _), new_at _ _ _ (by simp), Kd.R_nil _ _ _ _ _, ((Below.refl _ _).alloc (Nat.le_refl _) _).alloc (by simp) _⟩
theorem RS.kp {w W W' : World} {l u a b} (h : RS w W l u a b) (k : Kp [] W W') : RS w W' l u a b := by
  have hb : Below W.heap.size W W' := k.below (Nat.le_refl _) (by simp)
  exact ⟨kblk k h.res, kblk k h.prg, Kd.R_below h.row hb, h.bel.trans (hb.mono h.bel.size)⟩
theorem RS.setPrg {w W : World} {l u a b} (h : RS w W l u a b) (j : Nat) (v : Value) {u' : Value} {a' b' : Int} (he : (#[u, .int .i64 a, .int .i64 b] : Array Value).setIfInBounds j v = #[u', .int .i64 a', .int .i64 b'])
    (hu : u' = u) : RS w (W.setCell ⟨w.heap.size + 1, j, none⟩ v) l u' a' b' := by
  subst hu
  refine ⟨blk_far h.res (by simp) v, (setB h.prg j v).trans (by rw [he]), ?_, h.bel.setCell (by simp) _⟩
  exact Kd.R_set h.row h.prg (by intro q hq; simp [k40, Kd.iso, Kd.pair, Kd.int, Kd.scalar] at hq; omega) j v
structure RX (w W : World) (l : List S40) (u : Value) (a b : Int) (x : Nat) (y : S40) : Prop where
  res : W.heap[w.heap.size]? = some (.cells #[.slice none 0 0, .int .i64 0, .int .i64 0] 24 (0, 0))
  prg : W.heap[w.heap.size + 1]? = some (.cells #[u, .int .i64 a, .int .i64 b] 24 (0, 0))
  row : Kd.R k40 40 W w.heap.size (fun k => k ≠ x) u l
  bel : Below w.heap.size w W
  own : W.heap[x]? = some (.cells (encI y).toArray 40 (0, 0))
  far : w.heap.size + 1 < x
theorem RX.new {w W : World} {l u a b} (h : RS w W l u a b) (y : S40) : RX w (W.alloc (.cells #[.int .i64 y.f0, .int .i64 y.f1, .int .i64 y.f2, .int .i64 y.f3, .int .i64 y.f4] 40)) l u a b W.heap.size y := by
  have k := (Kp.refl [] W).alloc (.cells #[.int .i64 y.f0, .int .i64 y.f1, .int .i64 y.f2, .int .i64 y.f3, .int .i64 y.f4] 40)
  have h2 := h.kp k
  refine ⟨h2.res, h2.prg, ?_, h2.bel, heap_alloc_new W _, ltB h.prg⟩
  exact Kd.R_below (Kd.R_mono (Kd.R_bound h.row) (fun j hj => by have := hj.2.2.1; show j ≠ _; omega)) (k.below (Nat.le_refl _) (by simp))
theorem RX.kp {w W W' : World} {l u a b x y} (h : RX w W l u a b x y) (k : Kp [] W W') : RX w W' l u a b x y :=
  ⟨kblk k h.res, kblk k h.prg, Kd.R_below h.row (k.below (Nat.le_refl _) (by simp)), h.bel.trans ((k.below (Nat.le_refl _) (by simp)).mono h.bel.size), kblk k h.own, h.far⟩
theorem RX.set {w W : World} {l u a b x y} (h : RX w W l u a b x y) (j : Nat) (v : Value) (y' : S40) (he : (encI y).toArray.setIfInBounds j v = (encI y').toArray) : RX w (W.setCell ⟨x, j, none⟩ v) l u a b x y' := by
  have hf := h.far
  exact ⟨blk_far h.res (by show x ≠ _; omega) v, blk_far h.prg (by show x ≠ _; omega) v, Kd.R_far (p := ⟨x, j, none⟩) h.row (fun k hk => hk) v, h.bel.setCell (by show w.heap.size ≤ x; omega) _, (setB h.own j v).trans (by rw [he]), h.far⟩
theorem RX.app {w W w1 : World} {l u a b x y} {v1 : Value} (h : RX w W l u a b x y) (hR : Kd.R k40 40 w1 w.heap.size (fun k => k ≠ x) v1 (l ++ [y])) (hb : Below w.heap.size w w1) (hg : W.grownBy w1 u.ownBlock) :
    RS w (w1.setCell ⟨w.heap.size + 1, 0, none⟩ v1) (l ++ [y]) v1 a b ∧ w1.heap[w.heap.size + 1]? = some (.cells #[u, .int .i64 a, .int .i64 b] 24 (0, 0)) := by
  have hp : w1.heap[w.heap.size + 1]? = some (.cells #[u, .int .i64 a, .int .i64 b] 24 (0, 0)) := (hg.block _ (ltB h.prg) (Kd.R_ne h.row h.prg (by decide))).trans h.prg
  refine ⟨⟨?_, (setB hp 0 v1).trans rfl, ?_, hb.setCell (by show w.heap.size ≤ w.heap.size + 1; omega) _⟩, hp⟩
  · exact blk_far ((hg.block _ (ltB h.res) (Kd.R_ne h.row h.res (by decide))).trans h.res) (by show w.heap.size + 1 ≠ _; omega) _
  · exact Kd.R_mono (Kd.R_set hR hp (by intro q hq; simp [k40, Kd.iso, Kd.pair, Kd.int, Kd.scalar] at hq; omega) 0 v1) (fun _ _ => trivial)
theorem RS.kpW {w W : World} {l u a b} (h : RS w W l u a b) : Kp [] w W := Kp.ofBelow h.bel
theorem rd_none {w W : World} {s l u a b} (hd : decP s = none) (h : RS w W l u a b) :
    DecPost s w (.returned (.tuple #[.agg #[.slice none 0 0, .int .i64 0, .int .i64 0], .int .i64 140])) (((W.setCell ⟨w.heap.size, 0, none⟩ (.slice none 0 0)).setCell ⟨w.heap.size, 1, none⟩ (.int .i64 0)).setCell ⟨w.heap.size, 2, none⟩ (.int .i64 0)) := by
  unfold DecPost
  rw [hd]
  exact ⟨rfl, ((h.kpW.setNew (Nat.le_refl _) _).setNew (Nat.le_refl _) _).setNew (Nat.le_refl _) _⟩
theorem rd_some {w W : World} {s l u} {a b : Nat} (hd : decP s = some (l, a, b)) (h : RS w W l u a b) :
    DecPost s w (.returned (.tuple #[.agg #[u, .int .i64 a, .int .i64 b], .int .i64 0])) (((W.setCell ⟨w.heap.size, 0, none⟩ u).setCell ⟨w.heap.size, 1, none⟩ (.int .i64 a)).setCell ⟨w.heap.size, 2, none⟩ (.int .i64 b)) := by
  unfold DecPost
  rw [hd]
  have ht : ∀ q, q ∈ 40 :: k40.E → q ≠ 24 := by intro q hq; simp [k40, Kd.iso, Kd.pair, Kd.int, Kd.scalar] at hq; omega
  exact ⟨u, rfl, Kd.R_set (Kd.R_set (Kd.R_set h.row h.res ht 0 _) (setB h.res 0 _) ht 1 _) (setB (setB h.res 0 _) 1 _) ht 2 _, ((h.kpW.setNew (Nat.le_refl _) _).setNew (Nat.le_refl _) _).setNew (Nat.le_refl _) _⟩
theorem head3 (s : List UInt8) (h : 4 ≤ s.length) : ((⟨s.toArray⟩ : ByteArray).extract 0 3).toList = s.take 3 := by
  rw [ByteArray.toList_eq]
  simp
theorem rloop_stop (s : List UInt8) (C : Int) (f i : Nat) (z : Int) (l : List S40) (h : ¬ ((i : Int) < C ∧ 0 ≤ z ∧ z < s.length ∧ 0 < f)) : rloop s C f i z l = l := by
  cases f with
  | zero => rfl
  | succ f => rw [rloop, if_neg (fun q => h ⟨q.1, q.2.1, q.2.2, by omega⟩)]
theorem rloop_go (s : List UInt8) (C : Int) (f i p : Nat) (l : List S40) (h1 : (i : Int) < C) (h2 : p < s.length) : rloop s C (f + 1) i (p : Int) l = rloop s C f (i + 1) (rinst s p).2 (l ++ [(rinst s p).1]) := by
  rw [rloop, if_pos ⟨h1, by omega, by omega⟩, Int.toNat_natCast]
theorem genWr {P : Program} {c : Code} {Q : Exit → Act → World → Prop} {a : Act} {w : World} (C : World → Prop) (hC : C w) (h : ∀ w, C w → Code.wp P c Q a w) : Code.wp P c Q a w := h w hC

set_option maxRecDepth 100000 in
set_option maxHeartbeats 16000000 in
theorem rdecode_calls (s : List UInt8) (hl : s.length ≤ 1000000) (w : World) : Calls Try.prog 11 #[.string ⟨s.toArray⟩] w (DecPost s w) := by
  have hsz : (⟨s.toArray⟩ : ByteArray).size = s.length := by simp [ByteArray.size]
  have hr := heap_alloc_new w (.cells #[.slice none 0 0, .int .i64 0, .int .i64 0] 24)
  by_cases h4 : s.length < 4
  · have hd : decP s = none := by unfold decP; rw [if_pos h4]
    have d4 : decide ((s.length : Int) < 4) = true := decide_eq_true (by omega)
    replace hd := Lib.hid hd
    go_enter Try.func11, Try.ntmps11
    go_wp2
    refine bodyPost_ret (results_ct rfl _ _ w.heap.size 24 #[.slice none 0 0, .int .i64 0, .int .i64 0] (0, 0) _ rfl (by first | exact hr | exact setB3 hr) Try.underlying24 rfl (by kernel_rfl)) rfl ?_
    unfold DecPost
    rw [hd.out]
    exact ⟨rfl, by first | exact (Kp.refl [] w).alloc _ | exact ((((Kp.refl [] w).alloc _).setNew (Nat.le_refl _) _).setNew (Nat.le_refl _) _).setNew (Nat.le_refl _) _⟩
  have d4 : decide ((s.length : Int) < 4) = false := decide_eq_false (by omega)
  have e3 := head3 s (by omega)
  by_cases h3 : s.take 3 = [66, 82, 49]
  rotate_left
  · have hd : decP s = none := by unfold decP; rw [if_neg h4, if_pos h3]
    have d3 : (((⟨s.toArray⟩ : ByteArray).extract 0 3).toList == ([66, 82, 49] : List UInt8)) = false := by rw [e3, beq_eq_false_iff_ne]; exact h3
    have e3' := Lib.hid e3
    clear e3
    replace hd := Lib.hid hd
    go_enter Try.func11, Try.ntmps11
    go_wp2
    refine bodyPost_ret (results_ct rfl _ _ w.heap.size 24 #[.slice none 0 0, .int .i64 0, .int .i64 0] (0, 0) _ rfl (by first | exact hr | exact setB3 hr) Try.underlying24 rfl (by kernel_rfl)) rfl ?_
    unfold DecPost
    rw [hd.out]
    exact ⟨rfl, by first | exact (Kp.refl [] w).alloc _ | exact ((((Kp.refl [] w).alloc _).setNew (Nat.le_refl _) _).setNew (Nat.le_refl _) _).setNew (Nat.le_refl _) _⟩
  have d3 : (((⟨s.toArray⟩ : ByteArray).extract 0 3).toList == ([66, 82, 49] : List UInt8)) = true := by rw [e3, h3]; rfl
  obtain ⟨A, p1, gA⟩ : ∃ A p1, getZ s 3 = (A, p1) := ⟨_, _, rfl⟩
  obtain ⟨B, p2, gB⟩ : ∃ B p2, getZ s p1 = (B, p2) := ⟨_, _, rfl⟩
  obtain ⟨C, p3, gC⟩ : ∃ C p3, getZ s p2 = (C, p3) := ⟨_, _, rfl⟩
  obtain ⟨L, hL⟩ : ∃ L, rloop s C 4001 0 p3 [] = L := ⟨_, rfl⟩
  have b1 : p1 ≤ 1000000 := by have := (getZ_range s 3).2; rw [gA] at this; rcases this with h | h <;> (dsimp only at h; omega)
  have b2 : p2 ≤ 1000000 := by have := (getZ_range s p1).2; rw [gB] at this; rcases this with h | h <;> (dsimp only at h; omega)
  have b3 : p3 ≤ 1000000 := by have := (getZ_range s p2).2; rw [gC] at this; rcases this with h | h <;> (dsimp only at h; omega)
  have a0 : 0 ≤ A := by have := (getZ_range s 3).1.1; rw [gA] at this; exact this
  have b0 : 0 ≤ B := by have := (getZ_range s p1).1.1; rw [gB] at this; exact this
  have HSOME : Hid (∀ l a b, decP s = some (l, a, b) → A = (a : Int) ∧ B = (b : Int) ∧ L = l) := by
    intro l a b h
    obtain ⟨q1, q2, q3, k1, k2, k3, k4⟩ := rdec_fore h
    rw [gA] at k1
    obtain ⟨rfl, rfl⟩ := Prod.mk.inj k1
    rw [gB] at k2
    obtain ⟨rfl, rfl⟩ := Prod.mk.inj k2
    rw [gC] at k3
    obtain ⟨rfl, rfl⟩ := Prod.mk.inj k3
    exact ⟨rfl, rfl, hL.symm.trans k4⟩
  have GA := Lib.hid (fun W' => get_calls s hl 3 (by omega) W')
  have GB := Lib.hid (fun W' => get_calls s hl p1 b1 W')
  have GC := Lib.hid (fun W' => get_calls s hl p2 b2 W')
  rw [gA] at GA
  rw [gB] at GB
  rw [gC] at GC
  have HL := Lib.hid hL
  have S0 := Lib.hid (RS.start w)
  obtain ⟨a', rfl⟩ := Int.eq_ofNat_of_zero_le a0
  obtain ⟨b', rfl⟩ := Int.eq_ofNat_of_zero_le b0
  have h3' := Lib.hid h3
  have e3' := Lib.hid e3
  clear e3 h3 gA gB gC hL
  have hr2 : ((w.alloc (.cells #[.slice none 0 0, .int .i64 0, .int .i64 0] 24)).alloc (.cells #[.slice none 0 0, .int .i64 0, .int .i64 0] 24)).heap[w.heap.size]? = _ := (Below.heap_alloc _ _ _ (by simp)).trans hr
  go_enter Try.func11, Try.ntmps11
  go_upto_block 0 with (first | (go_at_call 29; ((with_reducible refine (GA.out _).mono ?_)); rintro e W1 ⟨rfl, kd⟩; have S1 := S0.out.kp (Kp.ofDrawn kd); clear kd; have q0 := cellB S1.prg 0; have q1 := cellB S1.prg 1; have q2 := cellB S1.prg 2; have q3 := frozB S1.prg 1; simp at q0 q1 q2) | (go_at_call 29; ((with_reducible refine (GB.out _).mono ?_)); rintro e W2 ⟨rfl, kd⟩; have S2 := (RS.setPrg S1 1 _ rfl rfl).kp (Kp.ofDrawn kd); clear kd S1 q0 q1 q2 q3; have q0 := cellB S2.prg 0; have q1 := cellB S2.prg 1; have q2 := cellB S2.prg 2; have q3 := frozB S2.prg 2; simp at q0 q1 q2) | (go_at_call 29; ((with_reducible refine (GC.out _).mono ?_)); rintro e W3 ⟨rfl, kd⟩; have S3 := (RS.setPrg S2 2 _ rfl rfl).kp (Kp.ofDrawn kd); clear kd S2 q0 q1 q2 q3))
  go_cut [6, 7] (fun v6 v7 wc => ∃ u, Aside0 (RS w wc L u a' b') ∧ L.length ≤ 4001)
  case first =>
    go_wp2
    go_loopg [6, 7] 4001 (fun gk v6 v7 wr => ∃ (k : Nat) (z : Int) (l : List S40) (u : Value), v6 = .int .i64 z ∧ v7 = .int .i64 k ∧ k ≤ 4001 ∧ 4001 - k ≤ gk ∧ l.length = k ∧ z ≤ 1000000 ∧ Aside0 (rloop s C (4001 - k) k z l = L) ∧ Aside0 (RS w wr l u a' b'))
    case atStart => exact ⟨0, p3, [], _, rfl, rfl, by omega, by omega, rfl, b3, ⟨HL.out⟩, ⟨S3⟩⟩
    case round =>
      obtain ⟨k, z, l, u, rfl, rfl, hk1, hgk, hlen, hz, hR, hS⟩ := hrel
      by_cases hk : (k : Int) < C
      rotate_left
      · have dk := decide_eq_false hk
        have he : l = L := by have := hR.out; rw [rloop_stop _ _ _ _ _ _ (fun q => hk q.1)] at this; exact this
        have HE := Lib.hid he
        clear he
        go_wp2
        go_meet
        case rel => exact ⟨u, ⟨HE.out ▸ hS.out⟩, by rw [← HE.out]; omega⟩
      have dk := decide_eq_true hk
      by_cases hz0 : 0 ≤ z
      rotate_left
      · have dz := decide_eq_false hz0
        have he : l = L := by have := hR.out; rw [rloop_stop _ _ _ _ _ _ (fun q => hz0 q.2.1)] at this; exact this
        have HE := Lib.hid he
        clear he
        go_wp2
        go_meet
        case rel => exact ⟨u, ⟨HE.out ▸ hS.out⟩, by rw [← HE.out]; omega⟩
      obtain ⟨p, rfl⟩ := Int.eq_ofNat_of_zero_le hz0
      have dz := decide_eq_true hz0
      by_cases hp : p < s.length
      rotate_left
      · have dp : decide ((p : Int) < (s.length : Int)) = false := decide_eq_false (by omega)
        have he : l = L := by have := hR.out; rw [rloop_stop _ _ _ _ _ _ (fun q => hp (by omega))] at this; exact this
        have HE := Lib.hid he
        clear he
        go_wp2
        go_meet
        case rel => exact ⟨u, ⟨HE.out ▸ hS.out⟩, by rw [← HE.out]; omega⟩
      have dp : decide ((p : Int) < (s.length : Int)) = true := decide_eq_true (by omega)
      by_cases h40 : k ≤ 4000
      rotate_left
      · have d40 : decide ((k : Int) ≤ 4000) = false := decide_eq_false (by omega)
        have he : l = L := by have := hR.out; rw [rloop_stop _ _ _ _ _ _ (fun q => h40 (by omega))] at this; exact this
        have HE := Lib.hid he
        clear he
        go_wp2
        go_meet
        case rel => exact ⟨u, ⟨HE.out ▸ hS.out⟩, by rw [← HE.out]; omega⟩
      have d40 : decide ((k : Int) ≤ 4000) = true := decide_eq_true (by omega)
      obtain ⟨g1, rfl⟩ : ∃ g1, gk = g1 + 1 := ⟨gk - 1, by omega⟩
      obtain ⟨op, hop⟩ : ∃ op, (s.getD p 0).toNat = op := ⟨_, rfl⟩
      have hopb : op < 256 := by rw [← hop]; exact UInt8.toNat_lt _
      have hix : (((⟨s.toArray⟩ : ByteArray)[p]'(by rw [hsz]; exact hp)).toNat : Int) = (op : Int) := by rw [← hop]; simp [List.getD, hp]; rfl
      have X := RX.new hS.out (⟨op, 0, 0, 0, 0⟩ : S40)
      have fa1 : w.heap.size + 1 ≠ wr.heap.size := (by have := X.far; omega)
      have fa2 : wr.heap.size ≠ w.heap.size + 1 := (by have := X.far; omega)
      have z0 := cellB X.own 0
      have z1 := cellB X.own 1
      have z2 := cellB X.own 2
      have z3 := cellB X.own 3
      have z4 := cellB X.own 4
      have y1 := frozB X.own 1
      have y2 := frozB X.own 2
      have y3 := frozB X.own 3
      have y4 := frozB X.own 4
      have z5 := cellB X.prg 0
      simp [encI] at z0 z1 z2 z3 z4 z5
      by_cases c1 : op = 1
      · have e1 : ((op : Int) == 1) = true := by simp [c1]
        obtain ⟨n1, r1, hn1⟩ : ∃ n1 r1, getZ s ((p + 1 : Nat) : Int) = (n1, r1) := ⟨_, _, rfl⟩
        have hr1 : r1 ≤ 1000000 := by have := (getZ_range s ((p + 1 : Nat) : Int)).2; rw [hn1] at this; rcases this with h | h <;> (dsimp only at h; omega)
        obtain ⟨n2, r2, hn2⟩ : ∃ n2 r2, getZ s r1 = (n2, r2) := ⟨_, _, rfl⟩
        have hr2 : r2 ≤ 1000000 := by have := (getZ_range s r1).2; rw [hn2] at this; rcases this with h | h <;> (dsimp only at h; omega)
        obtain ⟨n3, r3, hn3⟩ : ∃ n3 r3, getZ s r2 = (n3, r3) := ⟨_, _, rfl⟩
        have hr3 : r3 ≤ 1000000 := by have := (getZ_range s r2).2; rw [hn3] at this; rcases this with h | h <;> (dsimp only at h; omega)
        have hI : rinst s p = ((⟨(op : Int), n1, n2, n3, 0⟩ : S40), r3) := by
          unfold rinst; rw [hop]; simp only [c1, hn1, hn2, hn3, if_true, if_false, Nat.reduceEqDiff]; try rfl
        have hR2 : Aside0 (rloop s C (4000 - k) (k + 1) r3 (l ++ [(⟨(op : Int), n1, n2, n3, 0⟩ : S40)]) = L) := ⟨by have := rloop_go s C (4000 - k) k p l hk hp; rw [hI, show 4000 - k + 1 = 4001 - k by omega] at this; rw [← this]; exact hR.out⟩
        have G1 := Lib.hid (fun W' => get_calls s hl ((p + 1 : Nat) : Int) (by omega) W')
        rw [hn1] at G1
        have G2 := Lib.hid (fun W' => get_calls s hl r1 (by omega) W')
        rw [hn2] at G2
        have G3 := Lib.hid (fun W' => get_calls s hl r2 (by omega) W')
        rw [hn3] at G3
        rw [show ((p + 1 : Nat) : Int) = (p : Int) + 1 from rfl] at G1
        have hq1 : r3 ≤ 1000000 := by omega
        clear hI hR hop
        replace hn1 := Lib.hid hn1
        replace hn2 := Lib.hid hn2
        replace hn3 := Lib.hid hn3
        try clear c34
        try replace c1 := Lib.hid c1
        try replace c2 := Lib.hid c2
        try replace c3 := Lib.hid c3
        try replace c4 := Lib.hid c4
        go_wp2_with (first | (go_at_call 29; ((with_reducible refine (G1.out _).mono ?_)); rintro e V2 ⟨rfl, kd⟩; replace X := (X).kp (Kp.ofDrawn kd); clear kd z0 z1 z2 z3 z4 z5 y1 y2 y3 y4; have z0 := cellB X.own 0; have z1 := cellB X.own 1; have z2 := cellB X.own 2; have z3 := cellB X.own 3; have z4 := cellB X.own 4; have y1 := frozB X.own 1; have y2 := frozB X.own 2; have y3 := frozB X.own 3; have y4 := frozB X.own 4; have z5 := cellB X.prg 0; simp [encI] at z0 z1 z2 z3 z4 z5) | (go_at_call 29; ((with_reducible refine (G2.out _).mono ?_)); rintro e V3 ⟨rfl, kd⟩; replace X := ((RX.set X 1 (.int .i64 n1) (⟨(op : Int), n1, 0, 0, 0⟩ : S40) rfl)).kp (Kp.ofDrawn kd); clear kd z0 z1 z2 z3 z4 z5 y1 y2 y3 y4; have z0 := cellB X.own 0; have z1 := cellB X.own 1; have z2 := cellB X.own 2; have z3 := cellB X.own 3; have z4 := cellB X.own 4; have y1 := frozB X.own 1; have y2 := frozB X.own 2; have y3 := frozB X.own 3; have y4 := frozB X.own 4; have z5 := cellB X.prg 0; simp [encI] at z0 z1 z2 z3 z4 z5) | (go_at_call 29; ((with_reducible refine (G3.out _).mono ?_)); rintro e V4 ⟨rfl, kd⟩; replace X := ((RX.set X 2 (.int .i64 n2) (⟨(op : Int), n1, n2, 0, 0⟩ : S40) rfl)).kp (Kp.ofDrawn kd); clear kd z0 z1 z2 z3 z4 z5 y1 y2 y3 y4; have z0 := cellB X.own 0; have z1 := cellB X.own 1; have z2 := cellB X.own 2; have z3 := cellB X.own 3; have z4 := cellB X.own 4; have y1 := frozB X.own 1; have y2 := frozB X.own 2; have y3 := frozB X.own 3; have y4 := frozB X.own 4; have z5 := cellB X.prg 0; simp [encI] at z0 z1 z2 z3 z4 z5) | (at_builtin; have XE := (RX.set X 3 (.int .i64 n3) (⟨(op : Int), n1, n2, n3, 0⟩ : S40) rfl); refine Kd.R_append k40 (w0 := w) w.heap.size rfl (.tmp 124) (.tmp 126) 22 40 (.agg #[(.int .i64 0), (.int .i64 0), (.int .i64 0), (.int .i64 0), (.int .i64 0)]) 40 rfl Try.underlying22 info40 rfl (by decide) (by omega) u l (⟨(op : Int), n1, n2, n3, 0⟩ : S40) [.int .i64 (op : Int), .int .i64 n1, .int .i64 n2, .int .i64 n3, .int .i64 0] (fun k_ => k_ ≠ wr.heap.size) (fun _ => False) rfl (by first | (go_simp; done) | (go_simp; rfl)) ?aP (fun _ hk => hk.elim) ?aF XE.row XE.bel XE.bel.size ?aL ?_; (case aP => exact k40_mkM _ _ _ (⟨(op : Int), n1, n2, n3, 0⟩ : S40)); (case aF => intro k_ hk_; have := ltB XE.own; show k_ ≠ _; omega); (case aL => omega); intro v1 w1 hR1 hB1 hg1 _; obtain ⟨Av, cv, rfl⟩ := Kd.R_slice hR1; obtain ⟨SE, hpe⟩ := RX.app XE hR1 hB1 hg1; have u0 := cellB hpe 0; have fu0 := frozB hpe 0; simp at u0; clear XE X hR1 hB1 hg1 z0 z1 z2 z3 z4 z5 y1 y2 y3 y4))
        go_roundg g1
        case measure => omega
        case rel =>
          rw [show (l ++ [(⟨(op : Int), n1, n2, n3, 0⟩ : S40)]).length = k + 1 by simp [hlen]] at SE
          exact ⟨k + 1, r3, _, .slice Av (k + 1) cv, by first | rfl | go_num, by go_num, by omega, by omega, by simp [hlen], hq1, ⟨by rw [show 4001 - (k + 1) = 4000 - k by omega]; exact hR2.out⟩, ⟨SE⟩⟩
      have e1 : ((op : Int) == 1) = false := by simp; omega
      by_cases c2 : op = 2
      · have e2 : ((op : Int) == 2) = true := by simp [c2]
        obtain ⟨n3, r3, hn3⟩ : ∃ n3 r3, getZ s ((p + 1 : Nat) : Int) = (n3, r3) := ⟨_, _, rfl⟩
        have hr3 : r3 ≤ 1000000 := by have := (getZ_range s ((p + 1 : Nat) : Int)).2; rw [hn3] at this; rcases this with h | h <;> (dsimp only at h; omega)
        obtain ⟨n4, r4, hn4⟩ : ∃ n4 r4, getZ s r3 = (n4, r4) := ⟨_, _, rfl⟩
        have hr4 : r4 ≤ 1000000 := by have := (getZ_range s r3).2; rw [hn4] at this; rcases this with h | h <;> (dsimp only at h; omega)
        have hI : rinst s p = ((⟨(op : Int), 0, 0, n3, n4⟩ : S40), r4) := by
          unfold rinst; rw [hop]; simp only [c1, c2, hn3, hn4, if_true, if_false, Nat.reduceEqDiff]; try rfl
        have hR2 : Aside0 (rloop s C (4000 - k) (k + 1) r4 (l ++ [(⟨(op : Int), 0, 0, n3, n4⟩ : S40)]) = L) := ⟨by have := rloop_go s C (4000 - k) k p l hk hp; rw [hI, show 4000 - k + 1 = 4001 - k by omega] at this; rw [← this]; exact hR.out⟩
        have G3 := Lib.hid (fun W' => get_calls s hl ((p + 1 : Nat) : Int) (by omega) W')
        rw [hn3] at G3
        have G4 := Lib.hid (fun W' => get_calls s hl r3 (by omega) W')
        rw [hn4] at G4
        rw [show ((p + 1 : Nat) : Int) = (p : Int) + 1 from rfl] at G3
        have hq1 : r4 ≤ 1000000 := by omega
        clear hI hR hop
        replace hn3 := Lib.hid hn3
        replace hn4 := Lib.hid hn4
        try clear c34
        try replace c1 := Lib.hid c1
        try replace c2 := Lib.hid c2
        try replace c3 := Lib.hid c3
        try replace c4 := Lib.hid c4
        go_wp2_with (first | (go_at_call 29; ((with_reducible refine (G3.out _).mono ?_)); rintro e V4 ⟨rfl, kd⟩; replace X := (X).kp (Kp.ofDrawn kd); clear kd z0 z1 z2 z3 z4 z5 y1 y2 y3 y4; have z0 := cellB X.own 0; have z1 := cellB X.own 1; have z2 := cellB X.own 2; have z3 := cellB X.own 3; have z4 := cellB X.own 4; have y1 := frozB X.own 1; have y2 := frozB X.own 2; have y3 := frozB X.own 3; have y4 := frozB X.own 4; have z5 := cellB X.prg 0; simp [encI] at z0 z1 z2 z3 z4 z5) | (go_at_call 29; ((with_reducible refine (G4.out _).mono ?_)); rintro e V5 ⟨rfl, kd⟩; replace X := ((RX.set X 3 (.int .i64 n3) (⟨(op : Int), 0, 0, n3, 0⟩ : S40) rfl)).kp (Kp.ofDrawn kd); clear kd z0 z1 z2 z3 z4 z5 y1 y2 y3 y4; have z0 := cellB X.own 0; have z1 := cellB X.own 1; have z2 := cellB X.own 2; have z3 := cellB X.own 3; have z4 := cellB X.own 4; have y1 := frozB X.own 1; have y2 := frozB X.own 2; have y3 := frozB X.own 3; have y4 := frozB X.own 4; have z5 := cellB X.prg 0; simp [encI] at z0 z1 z2 z3 z4 z5) | (at_builtin; have XE := (RX.set X 4 (.int .i64 n4) (⟨(op : Int), 0, 0, n3, n4⟩ : S40) rfl); refine Kd.R_append k40 (w0 := w) w.heap.size rfl (.tmp 124) (.tmp 126) 22 40 (.agg #[(.int .i64 0), (.int .i64 0), (.int .i64 0), (.int .i64 0), (.int .i64 0)]) 40 rfl Try.underlying22 info40 rfl (by decide) (by omega) u l (⟨(op : Int), 0, 0, n3, n4⟩ : S40) [.int .i64 (op : Int), .int .i64 0, .int .i64 0, .int .i64 n3, .int .i64 n4] (fun k_ => k_ ≠ wr.heap.size) (fun _ => False) rfl (by first | (go_simp; done) | (go_simp; rfl)) ?aP (fun _ hk => hk.elim) ?aF XE.row XE.bel XE.bel.size ?aL ?_; (case aP => exact k40_mkM _ _ _ (⟨(op : Int), 0, 0, n3, n4⟩ : S40)); (case aF => intro k_ hk_; have := ltB XE.own; show k_ ≠ _; omega); (case aL => omega); intro v1 w1 hR1 hB1 hg1 _; obtain ⟨Av, cv, rfl⟩ := Kd.R_slice hR1; obtain ⟨SE, hpe⟩ := RX.app XE hR1 hB1 hg1; have u0 := cellB hpe 0; have fu0 := frozB hpe 0; simp at u0; clear XE X hR1 hB1 hg1 z0 z1 z2 z3 z4 z5 y1 y2 y3 y4))
        go_roundg g1
        case measure => omega
        case rel =>
          rw [show (l ++ [(⟨(op : Int), 0, 0, n3, n4⟩ : S40)]).length = k + 1 by simp [hlen]] at SE
          exact ⟨k + 1, r4, _, .slice Av (k + 1) cv, by first | rfl | go_num, by go_num, by omega, by omega, by simp [hlen], hq1, ⟨by rw [show 4001 - (k + 1) = 4000 - k by omega]; exact hR2.out⟩, ⟨SE⟩⟩
      have e2 : ((op : Int) == 2) = false := by simp; omega
      by_cases c3 : op = 3
      · have e3 : ((op : Int) == 3) = true := by simp [c3]
        have c34 : (op = 3 ∨ op = 4) = True := by simp [c3]
        obtain ⟨n1, r1, hn1⟩ : ∃ n1 r1, getZ s ((p + 1 : Nat) : Int) = (n1, r1) := ⟨_, _, rfl⟩
        have hr1 : r1 ≤ 1000000 := by have := (getZ_range s ((p + 1 : Nat) : Int)).2; rw [hn1] at this; rcases this with h | h <;> (dsimp only at h; omega)
        obtain ⟨n3, r3, hn3⟩ : ∃ n3 r3, getZ s r1 = (n3, r3) := ⟨_, _, rfl⟩
        have hr3 : r3 ≤ 1000000 := by have := (getZ_range s r1).2; rw [hn3] at this; rcases this with h | h <;> (dsimp only at h; omega)
        have hI : rinst s p = ((⟨(op : Int), n1, 0, n3, 0⟩ : S40), r3) := by
          unfold rinst; rw [hop]; simp only [c1, c2, c34, hn1, hn3, if_true, if_false, Nat.reduceEqDiff]; try rfl
        have hR2 : Aside0 (rloop s C (4000 - k) (k + 1) r3 (l ++ [(⟨(op : Int), n1, 0, n3, 0⟩ : S40)]) = L) := ⟨by have := rloop_go s C (4000 - k) k p l hk hp; rw [hI, show 4000 - k + 1 = 4001 - k by omega] at this; rw [← this]; exact hR.out⟩
        have G1 := Lib.hid (fun W' => get_calls s hl ((p + 1 : Nat) : Int) (by omega) W')
        rw [hn1] at G1
        have G3 := Lib.hid (fun W' => get_calls s hl r1 (by omega) W')
        rw [hn3] at G3
        rw [show ((p + 1 : Nat) : Int) = (p : Int) + 1 from rfl] at G1
        have hq1 : r3 ≤ 1000000 := by omega
        clear hI hR hop
        replace hn1 := Lib.hid hn1
        replace hn3 := Lib.hid hn3
        try clear c34
        try replace c1 := Lib.hid c1
        try replace c2 := Lib.hid c2
        try replace c3 := Lib.hid c3
        try replace c4 := Lib.hid c4
        go_wp2_with (first | (go_at_call 29; ((with_reducible refine (G1.out _).mono ?_)); rintro e V2 ⟨rfl, kd⟩; replace X := (X).kp (Kp.ofDrawn kd); clear kd z0 z1 z2 z3 z4 z5 y1 y2 y3 y4; have z0 := cellB X.own 0; have z1 := cellB X.own 1; have z2 := cellB X.own 2; have z3 := cellB X.own 3; have z4 := cellB X.own 4; have y1 := frozB X.own 1; have y2 := frozB X.own 2; have y3 := frozB X.own 3; have y4 := frozB X.own 4; have z5 := cellB X.prg 0; simp [encI] at z0 z1 z2 z3 z4 z5) | (go_at_call 29; ((with_reducible refine (G3.out _).mono ?_)); rintro e V4 ⟨rfl, kd⟩; replace X := ((RX.set X 1 (.int .i64 n1) (⟨(op : Int), n1, 0, 0, 0⟩ : S40) rfl)).kp (Kp.ofDrawn kd); clear kd z0 z1 z2 z3 z4 z5 y1 y2 y3 y4; have z0 := cellB X.own 0; have z1 := cellB X.own 1; have z2 := cellB X.own 2; have z3 := cellB X.own 3; have z4 := cellB X.own 4; have y1 := frozB X.own 1; have y2 := frozB X.own 2; have y3 := frozB X.own 3; have y4 := frozB X.own 4; have z5 := cellB X.prg 0; simp [encI] at z0 z1 z2 z3 z4 z5) | (at_builtin; have XE := (RX.set X 3 (.int .i64 n3) (⟨(op : Int), n1, 0, n3, 0⟩ : S40) rfl); refine Kd.R_append k40 (w0 := w) w.heap.size rfl (.tmp 124) (.tmp 126) 22 40 (.agg #[(.int .i64 0), (.int .i64 0), (.int .i64 0), (.int .i64 0), (.int .i64 0)]) 40 rfl Try.underlying22 info40 rfl (by decide) (by omega) u l (⟨(op : Int), n1, 0, n3, 0⟩ : S40) [.int .i64 (op : Int), .int .i64 n1, .int .i64 0, .int .i64 n3, .int .i64 0] (fun k_ => k_ ≠ wr.heap.size) (fun _ => False) rfl (by first | (go_simp; done) | (go_simp; rfl)) ?aP (fun _ hk => hk.elim) ?aF XE.row XE.bel XE.bel.size ?aL ?_; (case aP => exact k40_mkM _ _ _ (⟨(op : Int), n1, 0, n3, 0⟩ : S40)); (case aF => intro k_ hk_; have := ltB XE.own; show k_ ≠ _; omega); (case aL => omega); intro v1 w1 hR1 hB1 hg1 _; obtain ⟨Av, cv, rfl⟩ := Kd.R_slice hR1; obtain ⟨SE, hpe⟩ := RX.app XE hR1 hB1 hg1; have u0 := cellB hpe 0; have fu0 := frozB hpe 0; simp at u0; clear XE X hR1 hB1 hg1 z0 z1 z2 z3 z4 z5 y1 y2 y3 y4))
        go_roundg g1
        case measure => omega
        case rel =>
          rw [show (l ++ [(⟨(op : Int), n1, 0, n3, 0⟩ : S40)]).length = k + 1 by simp [hlen]] at SE
          exact ⟨k + 1, r3, _, .slice Av (k + 1) cv, by first | rfl | go_num, by go_num, by omega, by omega, by simp [hlen], hq1, ⟨by rw [show 4001 - (k + 1) = 4000 - k by omega]; exact hR2.out⟩, ⟨SE⟩⟩
      have e3 : ((op : Int) == 3) = false := by simp; omega
      by_cases c4 : op = 4
      · have e4 : ((op : Int) == 4) = true := by simp [c4]
        have c34 : (op = 3 ∨ op = 4) = True := by simp [c4]
        obtain ⟨n1, r1, hn1⟩ : ∃ n1 r1, getZ s ((p + 1 : Nat) : Int) = (n1, r1) := ⟨_, _, rfl⟩
        have hr1 : r1 ≤ 1000000 := by have := (getZ_range s ((p + 1 : Nat) : Int)).2; rw [hn1] at this; rcases this with h | h <;> (dsimp only at h; omega)
        obtain ⟨n3, r3, hn3⟩ : ∃ n3 r3, getZ s r1 = (n3, r3) := ⟨_, _, rfl⟩
        have hr3 : r3 ≤ 1000000 := by have := (getZ_range s r1).2; rw [hn3] at this; rcases this with h | h <;> (dsimp only at h; omega)
        have hI : rinst s p = ((⟨(op : Int), n1, 0, n3, 0⟩ : S40), r3) := by
          unfold rinst; rw [hop]; simp only [c1, c2, c34, hn1, hn3, if_true, if_false, Nat.reduceEqDiff]; try rfl
        have hR2 : Aside0 (rloop s C (4000 - k) (k + 1) r3 (l ++ [(⟨(op : Int), n1, 0, n3, 0⟩ : S40)]) = L) := ⟨by have := rloop_go s C (4000 - k) k p l hk hp; rw [hI, show 4000 - k + 1 = 4001 - k by omega] at this; rw [← this]; exact hR.out⟩
        have G1 := Lib.hid (fun W' => get_calls s hl ((p + 1 : Nat) : Int) (by omega) W')
        rw [hn1] at G1
        have G3 := Lib.hid (fun W' => get_calls s hl r1 (by omega) W')
        rw [hn3] at G3
        rw [show ((p + 1 : Nat) : Int) = (p : Int) + 1 from rfl] at G1
        have hq1 : r3 ≤ 1000000 := by omega
        clear hI hR hop
        replace hn1 := Lib.hid hn1
        replace hn3 := Lib.hid hn3
        try clear c34
        try replace c1 := Lib.hid c1
        try replace c2 := Lib.hid c2
        try replace c3 := Lib.hid c3
        try replace c4 := Lib.hid c4
        go_wp2_with (first | (go_at_call 29; ((with_reducible refine (G1.out _).mono ?_)); rintro e V2 ⟨rfl, kd⟩; replace X := (X).kp (Kp.ofDrawn kd); clear kd z0 z1 z2 z3 z4 z5 y1 y2 y3 y4; have z0 := cellB X.own 0; have z1 := cellB X.own 1; have z2 := cellB X.own 2; have z3 := cellB X.own 3; have z4 := cellB X.own 4; have y1 := frozB X.own 1; have y2 := frozB X.own 2; have y3 := frozB X.own 3; have y4 := frozB X.own 4; have z5 := cellB X.prg 0; simp [encI] at z0 z1 z2 z3 z4 z5) | (go_at_call 29; ((with_reducible refine (G3.out _).mono ?_)); rintro e V4 ⟨rfl, kd⟩; replace X := ((RX.set X 1 (.int .i64 n1) (⟨(op : Int), n1, 0, 0, 0⟩ : S40) rfl)).kp (Kp.ofDrawn kd); clear kd z0 z1 z2 z3 z4 z5 y1 y2 y3 y4; have z0 := cellB X.own 0; have z1 := cellB X.own 1; have z2 := cellB X.own 2; have z3 := cellB X.own 3; have z4 := cellB X.own 4; have y1 := frozB X.own 1; have y2 := frozB X.own 2; have y3 := frozB X.own 3; have y4 := frozB X.own 4; have z5 := cellB X.prg 0; simp [encI] at z0 z1 z2 z3 z4 z5) | (at_builtin; have XE := (RX.set X 3 (.int .i64 n3) (⟨(op : Int), n1, 0, n3, 0⟩ : S40) rfl); refine Kd.R_append k40 (w0 := w) w.heap.size rfl (.tmp 124) (.tmp 126) 22 40 (.agg #[(.int .i64 0), (.int .i64 0), (.int .i64 0), (.int .i64 0), (.int .i64 0)]) 40 rfl Try.underlying22 info40 rfl (by decide) (by omega) u l (⟨(op : Int), n1, 0, n3, 0⟩ : S40) [.int .i64 (op : Int), .int .i64 n1, .int .i64 0, .int .i64 n3, .int .i64 0] (fun k_ => k_ ≠ wr.heap.size) (fun _ => False) rfl (by first | (go_simp; done) | (go_simp; rfl)) ?aP (fun _ hk => hk.elim) ?aF XE.row XE.bel XE.bel.size ?aL ?_; (case aP => exact k40_mkM _ _ _ (⟨(op : Int), n1, 0, n3, 0⟩ : S40)); (case aF => intro k_ hk_; have := ltB XE.own; show k_ ≠ _; omega); (case aL => omega); intro v1 w1 hR1 hB1 hg1 _; obtain ⟨Av, cv, rfl⟩ := Kd.R_slice hR1; obtain ⟨SE, hpe⟩ := RX.app XE hR1 hB1 hg1; have u0 := cellB hpe 0; have fu0 := frozB hpe 0; simp at u0; clear XE X hR1 hB1 hg1 z0 z1 z2 z3 z4 z5 y1 y2 y3 y4))
        go_roundg g1
        case measure => omega
        case rel =>
          rw [show (l ++ [(⟨(op : Int), n1, 0, n3, 0⟩ : S40)]).length = k + 1 by simp [hlen]] at SE
          exact ⟨k + 1, r3, _, .slice Av (k + 1) cv, by first | rfl | go_num, by go_num, by omega, by omega, by simp [hlen], hq1, ⟨by rw [show 4001 - (k + 1) = 4000 - k by omega]; exact hR2.out⟩, ⟨SE⟩⟩
      have e4 : ((op : Int) == 4) = false := by simp; omega
      · have c34 : (op = 3 ∨ op = 4) = False := by simp [c3, c4]
        have hI : rinst s p = ((⟨(op : Int), 0, 0, 0, 0⟩ : S40), ((p + 1 : Nat) : Int)) := by
          unfold rinst; rw [hop]; simp only [c1, c2, c34, if_true, if_false, Nat.reduceEqDiff]; try rfl
        have hR2 : Aside0 (rloop s C (4000 - k) (k + 1) ((p + 1 : Nat) : Int) (l ++ [(⟨(op : Int), 0, 0, 0, 0⟩ : S40)]) = L) := ⟨by have := rloop_go s C (4000 - k) k p l hk hp; rw [hI, show 4000 - k + 1 = 4001 - k by omega] at this; rw [← this]; exact hR.out⟩
        have hq1 : ((p + 1 : Nat) : Int) ≤ 1000000 := by omega
        clear hI hR hop
        try clear c34
        try replace c1 := Lib.hid c1
        try replace c2 := Lib.hid c2
        try replace c3 := Lib.hid c3
        try replace c4 := Lib.hid c4
        clear z0 z1 z2 z3 z4 z5 y1 y2 y3 y4
        go_upto_region 25 with (fail)
        refine genWr (fun W9 => RX w W9 l u a' b' wr.heap.size (⟨op, 0, 0, 0, 0⟩ : S40)) X ?_
        clear X
        rintro V9 X
        have z0 := cellB X.own 0
        have z1 := cellB X.own 1
        have z2 := cellB X.own 2
        have z3 := cellB X.own 3
        have z4 := cellB X.own 4
        have y1 := frozB X.own 1
        have y2 := frozB X.own 2
        have y3 := frozB X.own 3
        have y4 := frozB X.own 4
        have z5 := cellB X.prg 0
        simp [encI] at z0 z1 z2 z3 z4 z5
        go_wp2_with (first | (at_builtin; have XE := X; refine Kd.R_append k40 (w0 := w) w.heap.size rfl (.tmp 124) (.tmp 126) 22 40 (.agg #[(.int .i64 0), (.int .i64 0), (.int .i64 0), (.int .i64 0), (.int .i64 0)]) 40 rfl Try.underlying22 info40 rfl (by decide) (by omega) u l (⟨(op : Int), 0, 0, 0, 0⟩ : S40) [.int .i64 (op : Int), .int .i64 0, .int .i64 0, .int .i64 0, .int .i64 0] (fun k_ => k_ ≠ wr.heap.size) (fun _ => False) rfl (by first | (go_simp; done) | (go_simp; rfl)) ?aP (fun _ hk => hk.elim) ?aF XE.row XE.bel XE.bel.size ?aL ?_; (case aP => exact k40_mkM _ _ _ (⟨(op : Int), 0, 0, 0, 0⟩ : S40)); (case aF => intro k_ hk_; have := ltB XE.own; show k_ ≠ _; omega); (case aL => omega); intro v1 w1 hR1 hB1 hg1 _; obtain ⟨Av, cv, rfl⟩ := Kd.R_slice hR1; obtain ⟨SE, hpe⟩ := RX.app XE hR1 hB1 hg1; have u0 := cellB hpe 0; have fu0 := frozB hpe 0; simp at u0; clear XE X hR1 hB1 hg1 z0 z1 z2 z3 z4 z5 y1 y2 y3 y4))
        go_roundg g1
        case measure => omega
        case rel =>
          rw [show (l ++ [(⟨(op : Int), 0, 0, 0, 0⟩ : S40)]).length = k + 1 by simp [hlen]] at SE
          exact ⟨k + 1, ((p + 1 : Nat) : Int), _, .slice Av (k + 1) cv, by first | rfl | go_num, by go_num, by omega, by omega, by simp [hlen], hq1, ⟨by rw [show 4001 - (k + 1) = 4000 - k by omega]; exact hR2.out⟩, ⟨SE⟩⟩
  case rest =>
    obtain ⟨u, hS, hL4⟩ := hcut
    clear hr hr2 S3
    obtain ⟨Au, cu, rfl, hcu, hCu⟩ := Kd.R_reads hS.out.row
    have p0 := cellB hS.out.prg 0; have p1' := cellB hS.out.prg 1; have p2' := cellB hS.out.prg 2
    have f0 := frozB hS.out.res 0; have f1 := frozB hS.out.res 1; have f2 := frozB hS.out.res 2
    have x0 := cellB hS.out.res 0; have x1 := cellB hS.out.res 1; have x2 := cellB hS.out.res 2
    simp at p0 p1' p2' x0 x1 x2
    have CC := Lib.hid (rcheck_calls Au cu L a' b' wc hCu hcu (by omega))
    have cellsS : ∀ W, RS w W L (.slice Au L.length cu) a' b' → W.cell? ⟨w.heap.size + 1, 0, none⟩ = some (.slice Au L.length cu) ∧ W.cell? ⟨w.heap.size + 1, 1, none⟩ = some (.int .i64 a') ∧ W.cell? ⟨w.heap.size + 1, 2, none⟩ = some (.int .i64 b') ∧ W.frozen? ⟨w.heap.size, 0, none⟩ = false ∧ W.frozen? ⟨w.heap.size, 1, none⟩ = false ∧ W.frozen? ⟨w.heap.size, 2, none⟩ = false ∧ W.cell? ⟨w.heap.size, 0, none⟩ = some (.slice none 0 0) ∧ W.cell? ⟨w.heap.size, 1, none⟩ = some (.int .i64 0) ∧ W.cell? ⟨w.heap.size, 2, none⟩ = some (.int .i64 0) := by
      intro W h
      refine ⟨?_, ?_, ?_, frozB h.res 0, frozB h.res 1, frozB h.res 2, ?_, ?_, ?_⟩
      · rw [cellB h.prg]; rfl
      · rw [cellB h.prg]; rfl
      · rw [cellB h.prg]; rfl
      · rw [cellB h.res]; rfl
      · rw [cellB h.res]; rfl
      · rw [cellB h.res]; rfl
    have cellsS' := Lib.hid cellsS
    clear cellsS
    rcases check_or L a' b' with hc | hc
    · have CW := Lib.hid (fun W' h' => rwritten_calls Au cu L a' b' W' h' hcu hc)
      rw [hc] at CC
      by_cases hw : writtenL L a' b' = s
      · have hd : decP s = some (L, a', b') := (decP_iff _ _ _ _).2 ⟨hc, hw⟩
        replace hd := Lib.hid hd
        rw [hw] at CW
        replace hc := Lib.hid hc
        replace hw := Lib.hid hw
        clear HL HSOME
        go_wp2_with (first | (go_at_call 24; refine (CC.out).mono ?_; rintro e W5 ⟨rfl, k5⟩; have S5 := Lib.hid (hS.out.kp k5); have hC5 := Kd.C_below hCu (k5.below (Nat.le_refl _) (by simp)); clear p0 p1' p2' f0 f1 f2 x0 x1 x2 k5; obtain ⟨p0, p1', p2', f0, f1, f2, x0, x1, x2⟩ := cellsS'.out _ S5.out) | (go_at_call 25; refine (CW.out _ hC5).mono ?_; rintro e W6 ⟨rfl, k6⟩; have S6 := Lib.hid (S5.out.kp k6); clear S5 hC5 p0 p1' p2' f0 f1 f2 x0 x1 x2 k6; obtain ⟨p0, p1', p2', f0, f1, f2, x0, x1, x2⟩ := cellsS'.out _ S6.out))
        refine bodyPost_ret (results_ct rfl _ _ w.heap.size 24 #[.slice Au L.length cu, .int .i64 a', .int .i64 b'] (0, 0) _ rfl (setB3 S6.out.res) Try.underlying24 rfl (by kernel_rfl)) rfl ?_
        exact rd_some hd.out S6.out
      · have hd : decP s = none := by
          cases hq : decP s with
          | none => rfl
          | some q =>
            obtain ⟨l2, a2, b2⟩ := q
            obtain ⟨r1, r2, r3⟩ := HSOME.out l2 a2 b2 hq
            obtain ⟨t1, t2⟩ := (decP_iff _ _ _ _).1 hq
            rw [r1, r2, r3] at hw
            exact absurd t2 hw
        replace hd := Lib.hid hd
        have hne : ((⟨(writtenL L a' b').toArray⟩ : ByteArray).toList == (⟨s.toArray⟩ : ByteArray).toList) = false := by
          rw [beq_eq_false_iff_ne, ByteArray.toList_eq, ByteArray.toList_eq]; simpa using hw
        have hne2 : (writtenL L a' b' == s) = false := by rw [beq_eq_false_iff_ne]; exact hw
        replace hc := Lib.hid hc
        replace hw := Lib.hid hw
        clear HL HSOME
        go_wp2_with (first | (go_at_call 24; refine (CC.out).mono ?_; rintro e W5 ⟨rfl, k5⟩; have S5 := Lib.hid (hS.out.kp k5); have hC5 := Kd.C_below hCu (k5.below (Nat.le_refl _) (by simp)); clear p0 p1' p2' f0 f1 f2 x0 x1 x2 k5; obtain ⟨p0, p1', p2', f0, f1, f2, x0, x1, x2⟩ := cellsS'.out _ S5.out) | (go_at_call 25; refine (CW.out _ hC5).mono ?_; rintro e W6 ⟨rfl, k6⟩; have S6 := Lib.hid (S5.out.kp k6); clear S5 hC5 p0 p1' p2' f0 f1 f2 x0 x1 x2 k6; obtain ⟨p0, p1', p2', f0, f1, f2, x0, x1, x2⟩ := cellsS'.out _ S6.out))
        refine bodyPost_ret (results_ct rfl _ _ w.heap.size 24 #[.slice none 0 0, .int .i64 0, .int .i64 0] (0, 0) _ rfl (setB3 S6.out.res) Try.underlying24 rfl (by kernel_rfl)) rfl ?_
        exact rd_none hd.out S6.out
    · have hd : decP s = none := by
        cases hq : decP s with
        | none => rfl
        | some q =>
          obtain ⟨l2, a2, b2⟩ := q
          obtain ⟨r1, r2, r3⟩ := HSOME.out l2 a2 b2 hq
          obtain ⟨t1, t2⟩ := (decP_iff _ _ _ _).1 hq
          rw [r1, r2, r3, t1] at hc
          exact absurd hc (by decide)
      replace hd := Lib.hid hd
      rw [hc] at CC
      replace hc := Lib.hid hc
      clear HL HSOME
      go_wp2_with (go_at_call 24; refine (CC.out).mono ?_; rintro e W5 ⟨rfl, k5⟩; have S5 := Lib.hid (hS.out.kp k5); clear p0 p1' p2' f0 f1 f2 x0 x1 x2 k5; obtain ⟨p0, p1', p2', f0, f1, f2, x0, x1, x2⟩ := cellsS'.out _ S5.out)
      refine bodyPost_ret (results_ct rfl _ _ w.heap.size 24 #[.slice none 0 0, .int .i64 0, .int .i64 0] (0, 0) _ rfl (setB3 S5.out.res) Try.underlying24 rfl (by kernel_rfl)) rfl ?_
      exact rd_none hd.out S5.out
theorem same_loop (l : List S40) (hl : l.length ≤ 1000000) : ∀ (n i k : Nat), l.length - i ≤ n → i ≤ l.length → burinbook_SameInsts.l0 (n + k + 1) l l true (i : Int) = some true
  | 0, i, k, hn, hi => by rw [burinbook_SameInsts.l0, if_pos rfl, if_neg (by omega)]
  | n + 1, i, k, hn, hi => by
    by_cases h : i < l.length
    · rw [show n + 1 + k + 1 = (n + k + 1) + 1 by omega, burinbook_SameInsts.l0, if_pos rfl, if_pos (by omega), if_pos (by omega), if_pos (by omega)]
      simp only [beq_self_eq_true, Bool.and_self]
      rw [show wrap64 ((i : Int) + 1) = ((i + 1 : Nat) : Int) by unfold wrap64; omega]
      exact same_loop l hl n (i + 1) k (by omega) (by omega)
    · rw [show n + 1 + k + 1 = (n + k + 1) + 1 by omega, burinbook_SameInsts.l0, if_pos rfl, if_neg (by omega)]
theorem same_ok (l : List S40) (hl : l.length ≤ 1000000) (a b : Int) : burinbook_SameProg.f (l.length + 1) l a b l a b = some true := by
  unfold burinbook_SameProg.f burinbook_SameInsts.f
  rw [if_pos rfl, if_pos rfl]
  have := same_loop l hl l.length 0 0 (by omega) (by omega)
  rw [show ((l.length : Int) == (l.length : Int)) = true by simp]
  rw [show ((0 : Nat) : Int) = 0 from rfl] at this
  rw [show l.length + 0 + 1 = l.length + 1 by omega] at this
  rw [this]
  rfl
theorem sameprog_calls (A B : Option Addr) (c d : Nat) (l : List S40) (a b : Int) (hl : l.length ≤ 1000000) (hc : l.length ≤ c) (hd : l.length ≤ d) (W : World) (h : Kd.C k40 W A l.length l) (h' : Kd.C k40 W B l.length l) :
    Calls Try.prog 12 #[.agg #[.slice A l.length c, .int .i64 a, .int .i64 b], .agg #[.slice B l.length d, .int .i64 a, .int .i64 b]] W fun e w' => e = .returned (.bool true) ∧ Kp [] W w' :=
  (burinbook_SameProg.calls _ A c l a b B d l a b true W h hc h' hd (same_ok l hl a b)).mono fun e w' ⟨he, hb⟩ => ⟨he, Kp.ofBelow hb⟩
set_option maxRecDepth 100000 in
set_option maxHeartbeats 4000000 in
theorem spoil_calls {w : World} {base : Nat} {v : Value} {l : List S40} (h : Kd.R k40 40 w base (fun _ => True) v l) : Calls Try.prog 13 #[v] w fun e w' => e = .returned (.tuple #[]) ∧ Kp v.ownBlock.toList w w' := by
  obtain ⟨xs, ho⟩ := Kd.R_own h
  rcases ho.2 with ⟨rfl, hz⟩ | ⟨g, cap, cur, rfl, hg, hh, hle, hmax, hcur, -⟩
  · go_enter Try.func13, Try.ntmps13
    go_wp2
    go_loopg [2, 9] 1 (fun gk v2 v9 wr => v9 = .int .i64 0 ∧ wr = w ∧ 0 < gk)
    case atStart => exact ⟨rfl, rfl, by omega⟩
    case round =>
      obtain ⟨rfl, rfl, hgk⟩ := hrel
      go_wp2
      go_end0
      exact ⟨rfl, Kp.refl _ _⟩
  · unfold maxLen at hmax
    have hk : k40.sz = 5 := rfl
    rw [hk] at hcur
    generalize l.length = n at *
    go_enter Try.func13, Try.ntmps13
    go_wp2
    go_loopg [2, 9] cap (fun gk v2 v9 wr => ∃ (k : Nat) (cur' : Array Value), v9 = .int .i64 k ∧ k ≤ cap ∧ cap - k ≤ gk ∧ Aside0 (wr.heap[g]? = some (.cells cur' 40 (0, 0)) ∧ cur'.size = cap * 5) ∧ Aside0 (Kp [g] w wr))
    case atStart => exact ⟨0, cur, rfl, by omega, by omega, ⟨hh, hcur⟩, ⟨Kp.refl _ _⟩⟩
    case round =>
      obtain ⟨k, cur', rfl, hkc, hgk, hc, hK⟩ := hrel
      by_cases hk : k < cap
      · have dk : decide ((k : Int) < (cap : Int)) = true := decide_eq_true (by omega)
        obtain ⟨g1, rfl⟩ : ∃ g1, gk = g1 + 1 := ⟨gk - 1, by omega⟩
        obtain ⟨hb, hs⟩ := hc.out
        have cell : ∀ i, i < 5 → ∃ v, wr.cell? ⟨g, k * 5 + i, none⟩ = some v := by
          intro i hi
          have hlt : k * 5 + i < cur'.size := by omega
          exact ⟨cur'[k * 5 + i], by rw [cellB hb]; exact Array.getElem?_eq_getElem hlt⟩
        obtain ⟨o0, c0⟩ := cell 0 (by omega)
        obtain ⟨o1, c1⟩ := cell 1 (by omega)
        obtain ⟨o2, c2⟩ := cell 2 (by omega)
        obtain ⟨o3, c3⟩ := cell 3 (by omega)
        obtain ⟨o4, c4⟩ := cell 4 (by omega)
        have f0 := frozB hb (k * 5)
        have f1 := frozB hb (k * 5 + 1)
        have f2 := frozB hb (k * 5 + 2)
        have f3 := frozB hb (k * 5 + 3)
        have f4 := frozB hb (k * 5 + 4)
        simp only [Nat.add_zero] at c0
        clear cell
        have HS := Lib.hid hs
        have HB := Lib.hid hb
        clear hs hb
        go_wp2
        go_roundg g1
        case measure => omega
        case rel =>
          refine ⟨k + 1, _, by go_num, by omega, by omega, ⟨setB (setB (setB (setB (setB HB.out _ _) _ _) _ _) _ _) _ _, by simp [HS.out]⟩, ⟨?_⟩⟩
          exact ((((hK.out.setCell (by simp) _).setCell (by simp) _).setCell (by simp) _).setCell (by simp) _).setCell (by simp) _
      · have dk : decide ((k : Int) < (cap : Int)) = false := decide_eq_false (by omega)
        go_wp2
        go_end0
        exact ⟨rfl, hK.out⟩
def decR (st : List UInt8) : List S40 × Int × Int × Int := match decP st with | none => ([], 0, 0, 140) | some (l, a, b) => (l, a, b, 0)
theorem decR_len (st : List UInt8) : (decR st).1.length ≤ 4000 := by
  unfold decR
  split
  · simp
  · rename_i l a b h
    exact (check_zero ((decP_iff _ _ _ _).1 h).1).2.1
def DecBoth (st : List UInt8) (w : World) (e : Ending) (w' : World) : Prop := ∃ v, e = .returned (.tuple #[.agg #[v, .int .i64 (decR st).2.1, .int .i64 (decR st).2.2.1], .int .i64 (decR st).2.2.2]) ∧ Kd.R k40 40 w' w.heap.size (fun _ => True) v (decR st).1 ∧ Kp [] w w'
theorem both_of {st : List UInt8} {w : World} {e : Ending} {w' : World} (h : DecPost st w e w') : DecBoth st w e w' := by
  unfold DecPost at h
  unfold DecBoth decR
  cases hd : decP st with
  | none =>
    rw [hd] at h
    obtain ⟨rfl, k⟩ := h
    exact ⟨.slice none 0 0, rfl, Kd.R_nil _ _ _ _ _, k⟩
  | some p =>
    obtain ⟨l, a, b⟩ := p
    rw [hd] at h
    obtain ⟨v, rfl, hR, k⟩ := h
    exact ⟨v, rfl, hR, k⟩
theorem own_ge {w : World} {base : Nat} {v : Value} {l : List S40} (h : Kd.R k40 40 w base (fun _ => True) v l) (x : Nat) (hx : x ∈ v.ownBlock.toList) : base ≤ x := by
  obtain ⟨xs, ho⟩ := Kd.R_own h
  exact own_base ho x (by simpa using hx)
set_option maxRecDepth 100000 in
set_option maxHeartbeats 8000000 in
theorem codes_walk (W : World) (A : Option Addr) (cap : Nat) (l : List S40) (s q : Int) (st : List UInt8) (h : IsInsts W A cap l) (hst : st.length ≤ 140737488351232) :
    Calls Try.prog 3 #[.agg #[.slice A l.length cap, .int .i64 s, .int .i64 q], .string ⟨st.toArray⟩] W fun e w' => e = .returned (.bool true) ∧ Below W.heap.size W w' := by
  have kk := (Kp.refl [] W).alloc (.cells #[.slice A l.length cap, .int .i64 s, .int .i64 q] 24)
  have hb := heap_alloc_new W (.cells #[.slice A l.length cap, .int .i64 s, .int .i64 q] 24)
  have hlt : W.heap.size < (W.alloc (.cells #[.slice A l.length cap, .int .i64 s, .int .i64 q] 24)).heap.size := by simp
  have CW := Lib.hid works_calls
  obtain ⟨hC, hcap, hmax⟩ := h
  have hsz : (⟨st.toArray⟩ : ByteArray).size = st.length := by simp [ByteArray.size]
  have fin : ∀ {w'}, Kp [] W w' → Below W.heap.size W w' := fun k => k.below (Nat.le_refl _) (by simp)
  by_cases h5 : 100 < l.length
  · have d5 : decide ((100 : Int) < (l.length : Int)) = true := decide_eq_true (by omega)
    have y0 := cellB hb 0
    simp at y0
    go_enter Try.func3, Try.ntmps3
    go_wp2_with (go_at_call 7; refine (CW.out _).mono ?_; rintro e w1 ⟨rfl, k1⟩; replace kk := kk.trans k1)
    go_ret
    exact ⟨rfl, fin kk⟩
  have d5 : decide ((100 : Int) < (l.length : Int)) = false := decide_eq_false (by omega)
  by_cases h6 : 1000 < st.length
  · have d6 : decide ((1000 : Int) < (st.length : Int)) = true := decide_eq_true (by omega)
    go_enter Try.func3, Try.ntmps3
    go_wp2_with (go_at_call 7; refine (CW.out _).mono ?_; rintro e w1 ⟨rfl, k1⟩; replace kk := kk.trans k1)
    go_ret
    exact ⟨rfl, fin kk⟩
  have d6 : decide ((1000 : Int) < (st.length : Int)) = false := decide_eq_false (by omega)
  have CE := Lib.hid (fun W2 hC => encode_calls A cap l s q W2 hC hcap)
  have CR := Lib.hid (fun W2 hC => rencode_calls A cap l s q W2 hC hcap (by omega))
  have CD := Lib.hid (fun W2 => (decode_calls st (by omega) W2).mono (fun e w' h => both_of h))
  have CD2 := Lib.hid (fun W2 => (rdecode_calls st (by omega) W2).mono (fun e w' h => both_of h))
  have hdl := decR_len st
  obtain ⟨es, ec, he⟩ : ∃ es ec, encS l s q = (es, ec) := ⟨_, _, rfl⟩
  rw [he] at CE CR
  obtain ⟨l2, a2, b2, x2, hd⟩ : ∃ l2 a2 b2 x2, decR st = (l2, a2, b2, x2) := ⟨_, _, _, _, rfl⟩
  unfold DecBoth at CD CD2
  rw [hd] at CD CD2 hdl
  dsimp only at CD CD2 hdl
  replace he := Lib.hid he
  replace hd := Lib.hid hd
  have CS := Lib.hid (fun A1 c1 A2 c2 g1 g2 W2 k1 k2 => sameprog_calls A1 A2 c1 c2 l2 a2 b2 (by omega) g1 g2 W2 k1 k2)
  go_enter Try.func3, Try.ntmps3
  go_upto_region 7 with (first | (go_at_call 8; refine (CE.out _ (Kd.C_below hC (kk.below (Nat.le_refl _) (by simp)))).mono ?_; rintro e w1 ⟨rfl, k1⟩; replace kk := kk.trans k1; replace hb := kblk k1 hb; replace hlt := Nat.lt_of_lt_of_le hlt k1.size; have p0 := cellB hb 0; have p1 := cellB hb 1; have p2 := cellB hb 2; simp at p0 p1 p2) | (go_at_call 9; refine (CR.out _ (Kd.C_below hC (kk.below (Nat.le_refl _) (by simp)))).mono ?_; rintro e w2 ⟨rfl, k2⟩; replace kk := kk.trans k2; replace hb := kblk k2 hb; replace hlt := Nat.lt_of_lt_of_le hlt k2.size; clear p0 p1 p2) | (go_at_call 10; refine (CD.out _).mono ?_; rintro e w3 ⟨v3, rfl, hR3, k3⟩; obtain ⟨A3, c3, rfl, hc3, hC3⟩ := Kd.R_reads hR3; have hlt2 := hlt; replace kk := kk.trans k3; replace hlt := Nat.lt_of_lt_of_le hlt k3.size; clear k3 hb) | (go_at_call 11; refine (CD2.out _).mono ?_; rintro e w4 ⟨v4, rfl, hR4, k4⟩; obtain ⟨A4, c4, rfl, hc4, hC4⟩ := Kd.R_reads hR4; have hq3 := kblk k4 (heap_alloc_new w3 _); have k5 := ((Kp.refl [] w3).alloc _).trans k4; replace kk := kk.trans k5; replace hR3 := Kd.R_below hR3 (k5.below (Nat.le_refl _) (by simp)); replace hC3 := Kd.C_below hC3 (k5.below (Nat.le_refl _) (by simp)); replace hlt := Nat.lt_of_lt_of_le hlt k5.size; have s3 := k5.size))
  have q0 := cellB hq3 0; have q1 := cellB hq3 1; have q2 := cellB hq3 2; have z1 := ltB hq3
  simp at q0 q1 q2
  go_wp2_with (first | (go_at_call 12; refine (CS.out A3 c3 A4 c4 hc3 hc4 _ (Kd.C_below hC3 (((Kp.refl [] w4).alloc _).below (Nat.le_refl _) (by simp))) (Kd.C_below hC4 (((Kp.refl [] w4).alloc _).below (Nat.le_refl _) (by simp)))).mono ?_; rintro e w5 ⟨rfl, k6⟩; have k7 := ((Kp.refl [] w4).alloc _).trans k6; replace kk := kk.trans k7; have hq5 := kblk k7 hq3; have hR5 := Kd.R_below hR3 (k7.below (Nat.le_refl _) (by simp)); clear q0 q1 q2 z1; have q0 := cellB hq5 0; simp at q0) | (go_at_call 13; refine (spoil_calls hR5).mono ?_; rintro e w6 ⟨rfl, k8⟩; replace kk := kk.into k8 (fun x hx => Or.inl (by have := own_ge hR5 x hx; omega))) | (go_at_call 7; refine (CW.out _).mono ?_; rintro e w7 ⟨rfl, k9⟩; replace kk := kk.trans k9))
  go_ret
  exact ⟨rfl, fin kk⟩
theorem codes_walk' (W : World) (A : Option Addr) (cap : Nat) (l : List S40) (s q : Int) (st : ByteArray) (h : IsInsts W A cap l) (hst : st.size ≤ 140737488351232) :
    Calls Try.prog 3 #[.agg #[.slice A l.length cap, .int .i64 s, .int .i64 q], .string st] W fun e w' => e = .returned (.bool true) ∧ Below W.heap.size W w' :=
  codes_walk W A cap l s q st.data.toList h (by simpa using hst)
end Go.Proofs.Ytkjkkebaafmheaa
