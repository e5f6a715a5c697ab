/- The document's Check of trees, walked. -/
import Derived.Test.YtojlhlepneefoaaV
import Derived.Test.YtojlhlepneefoaaN
import Derived.Test.YtojlhlepneefoaaPAllx8
namespace Go.Proofs.Ytojlhlepneefoaa
open Go.RowKit PAll Go.Proofs.YtojlhlepneefoaaW.PrintWords Go.Proofs.YtojlhlepneefoaaW.PrintLast Go.Proofs.YtojlhlepneefoaaW.PrintMore
open Go.Shelf
set_option linter.unusedVariables false
set_option linter.unusedSimpArgs false

theorem try_info9' : (Try.prog.info? 9).map (fun i => (i.zero, i.size, i.bytes)) = some (some (.string .empty), 1, 16) := by kernel_rfl
theorem thin_steps : ∀ (d : Nat) (n : S25), Thin d n → ∀ (m : Nat) (e : Int), ∀ x ∈ stepsL m e n, x.2.f3.size ≤ 100
  | 0, _, h, _, _, _, _ => h.elim
  | d + 1, n, h, 0, e, x, hx => by cases hx
  | d + 1, n, h, m + 1, e, x, hx => by
    simp only [stepsL, List.mem_cons, List.mem_flatMap] at hx
    rcases hx with rfl | ⟨y, hy, hx⟩
    · exact h.2.2.2
    · exact thin_steps d y (h.2.1 y hy) m (e + 1) x hx
theorem rdepth_calls {d : Nat} (v : NV) (w : World) (hv : v.ok w) (ht : Thin d v.n) : Calls Try.prog 46 #[v.val, .int .i64 1001] w fun e w' => e = .returned (.int .i64 (depthP 1001 v.n)) ∧ Kp [] w w' := by
  obtain ⟨K, hK⟩ := rdepth_f d v.n ht 1001 (by omega)
  exact (burinref06_Depth.calls K v.n.f0 v.A1 v.c1 v.n.f1 v.n.f2 v.n.f3 v.n.f4 v.n.f5 v.n.f6 v.A7 v.c7 v.n.f7 1001 _ w hv.g1 hv.l1 hv.g7 hv.l7 (hK K (Nat.le_refl _))).mono fun e w' ⟨h, hb⟩ => ⟨h, Kp.ofBelow hb⟩
theorem stepCell {w : World} : ∀ (xs : List (Step w)) (j : Nat) (hj : j < xs.length) (i : Nat) (u : Value), (.int .i64 xs[j].1 :: xs[j].2.1.cells)[i]? = some u → (stepCells xs)[j * 9 + i]? = some u
  | [], j, hj, _, _, _ => by simp at hj
  | x :: xs, 0, hj, i, u, h => by
    have hi : i < 9 := (List.getElem?_eq_some_iff.1 h).1
    show (((Value.int .i64 x.1 :: x.2.1.cells) ++ stepCells xs))[0 * 9 + i]? = some u
    rw [Nat.zero_mul, Nat.zero_add, List.getElem?_append_left (by simpa [cells_len8] using hi)]
    exact h
  | x :: xs, j + 1, hj, i, u, h => by
    show (((Value.int .i64 x.1 :: x.2.1.cells) ++ stepCells xs))[(j + 1) * 9 + i]? = some u
    rw [List.getElem?_append_right (by simp [cells_len8]; omega), show (j + 1) * 9 + i - (Value.int .i64 x.1 :: x.2.1.cells).length = j * 9 + i by simp [cells_len8]; omega]
    exact stepCell xs j (by simpa using hj) i u h
theorem chk_small : ∀ (xs : List (Int × S25)) (ns ns' : List ByteArray), ns.length ≤ 31 → xs.foldl chkStep (.ok ns) = .ok ns' → ns'.length ≤ 31
  | [], ns, ns', h, e => by simp at e; subst e; exact h
  | x :: xs, ns, ns', h, e => by
    rw [List.foldl_cons] at e
    cases hc : chkStep (.ok ns) x with
    | error c => rw [hc, chk_err] at e; cases e
    | ok ns2 =>
      rw [hc] at e
      refine chk_small xs ns2 ns' ?_ e
      unfold chkStep at hc
      dsimp only at hc
      split at hc
      · cases hc
      split at hc
      · cases hc; exact h
      split at hc
      · cases hc
      split at hc
      · cases hc
      split at hc
      · cases hc
      · cases hc; simp; omega
theorem rowKp {w w' : World} {b e z : Nat} {v : Value} {n : Nat} {xs : List Value} (h : w.ownsRow b e z v n xs) (k : Kp [] w w') : w'.ownsRow b e z v n xs :=
  h.kept (row := none) ⟨k.os, k.tape, k.output, k.size, fun i hi _ => k.block i hi (by simp)⟩ (by cases v.ownBlock <;> simp)
theorem rowForm {w : World} {b e z : Nat} {v : Value} {n : Nat} {xs : List Value} (h : w.ownsRow b e z v n xs) : ∃ A c, v = .slice A n c ∧ (0 < n → ∃ g, A = some ⟨g, 0, none⟩) := by
  rcases h.2 with ⟨rfl, rfl⟩ | ⟨g, cap, cur, rfl, _⟩
  · exact ⟨none, 0, rfl, fun h => by omega⟩
  · exact ⟨_, cap, rfl, fun _ => ⟨g, rfl⟩⟩
theorem strT {a b : ByteArray} (h : a = b) : (a.toList == b.toList) = true := by subst h; simp
theorem strF {a b : ByteArray} (h : ¬ a = b) : (a.toList == b.toList) = false := by
  rw [beq_eq_false_iff_ne]
  exact fun e => h (bytes_inj (by rw [ByteArray.toList_eq, ByteArray.toList_eq] at e; exact e))
theorem empF {a : ByteArray} (h : ¬ emptyS a = true) : a.toList.isEmpty = false ∧ (a.toList == []) = false := by
  unfold emptyS at h
  have e : a.toList.isEmpty = false := by simpa using h
  exact ⟨e, by cases hl : a.toList with | nil => rw [hl] at e; cases e | cons x l => rfl⟩
theorem belowGrown {W2 wr w1 : World} {B : Nat} {o : Obj} {r : Option Nat} (h : Below B W2 wr) (hB : B ≤ W2.heap.size) (hg : (wr.alloc o).grownBy w1 r) (hr : ∀ k, r = some k → B ≤ k) : Below B W2 w1 :=
  ⟨hg.os.trans h.os, hg.tape.trans h.tape, hg.output.trans h.output, Nat.le_trans h.size (Nat.le_trans (by simp) hg.size), fun i hi => (hg.block i (by have := h.size; simp; omega) (fun e => by have := hr i e.symm; omega)).trans ((Below.heap_alloc _ _ _ (by have := h.size; omega)).trans (h.block i hi))⟩
theorem d31T {n1 : Int} {k : Nat} (h : n1 = (k : Int) + 1) (e : k = 31) : decide ((31 : Int) < n1) = true := decide_eq_true (by omega)
theorem d31F {n1 : Int} {k : Nat} (h : n1 = (k : Int) + 1) (e : k ≤ 31) (f : ¬ k = 31) : decide ((31 : Int) < n1) = false := decide_eq_false (by omega)
theorem wr31 {n1 : Int} {k : Nat} (h : n1 = (k : Int) + 1) (e : k ≤ 31) : IntKind.i64.wrap ((k : Int) + 1) = n1 ∧ wrap64 ((k : Int) + 1) = n1 := by
  subst h
  exact ⟨IntWalk.i64_in _ (by omega), by unfold wrap64; omega⟩
def CkI (W2 : World) (ss : List (Int × S25)) (uv iv : Value) (wr : World) : Prop := ∃ (j : Nat) (ns : List ByteArray), iv = .int .i64 j ∧ j ≤ ss.length ∧ chkL (ss.take j) = .ok ns ∧ ns.length ≤ 31 ∧ wr.ownsRow W2.heap.size 9 1 uv ns.length (ns.map .string) ∧ Below W2.heap.size W2 wr
set_option maxRecDepth 100000 in
set_option maxHeartbeats 8000000 in
theorem rcheck_calls {d : Nat} (v : NV) (w : World) (hv : v.ok w) (ht : Thin d v.n) (hN : (stepsL 1000 1 v.n).length ≤ 1000000) : Calls Try.prog 33 #[v.val] w fun e w' => e = .returned (.int .i64 (checkV v.n)) ∧ Kp [] w w' := by
  obtain ⟨i0, hi, hz0, hz1, hz2⟩ := info_parts try_info9'
  obtain ⟨W1, hW1⟩ : ∃ W1, W1 = w.alloc (.cells v.cells.toArray 25) := ⟨_, rfl⟩
  have k1 : Kp [] w W1 := by rw [hW1]; exact (Kp.refl [] w).alloc _
  have hB1 : W1.heap[w.heap.size]? = some (.cells v.cells.toArray 25 (0, 0)) := by rw [hW1]; exact new_at _ _ _ rfl
  have hv1 := hv.kp k1
  have C46 := Lib.hid (rdepth_calls v W1 hv1 ht)
  have C45 := Lib.hid (fun W (k : Kp [] W1 W) => all_calls v W (hv1.kp k) hN)
  have hthin := thin_steps d v.n ht 1000 1
  have hpos : 0 < (stepsL 1000 1 v.n).length := by simp [stepsL]
  obtain ⟨ss, hss⟩ : ∃ ss, ss = stepsL 1000 1 v.n := ⟨_, rfl⟩
  have hck : checkV v.n = if depthP 1001 v.n > 1000 then 61 else chkOut (chkL ss) := by rw [hss]; rfl
  rw [hck]
  rw [← hss] at hN hthin hpos
  simp only [← hss] at C45
  obtain ⟨DN, hDN⟩ : ∃ DN, DN = depthP 1001 v.n := ⟨_, rfl⟩
  rw [← hDN] at C46 ⊢
  replace hDN := Lib.hid hDN
  replace hss := Lib.hid hss
  replace hthin := Lib.hid hthin
  clear hck ht hv hv1
  obtain ⟨⟨kd, set, num, nm, mn, mx, lz, subs⟩, A1, c1, A7, c7⟩ := v
  dsimp only [NV.val, NV.cells] at hW1 hB1 C46 C45 ⊢
  have z0 : W1.cell? ⟨w.heap.size, 0, none⟩ = some (.int .i64 kd) := cellB hB1 0
  have z1 : W1.cell? ⟨w.heap.size, 1, none⟩ = some (.slice A1 set.length c1) := cellB hB1 1
  have z2 : W1.cell? ⟨w.heap.size, 2, none⟩ = some (.int .i64 num) := cellB hB1 2
  have z3 : W1.cell? ⟨w.heap.size, 3, none⟩ = some (.string nm) := cellB hB1 3
  have z4 : W1.cell? ⟨w.heap.size, 4, none⟩ = some (.int .i64 mn) := cellB hB1 4
  have z5 : W1.cell? ⟨w.heap.size, 5, none⟩ = some (.int .i64 mx) := cellB hB1 5
  have z6 : W1.cell? ⟨w.heap.size, 6, none⟩ = some (.bool lz) := cellB hB1 6
  have z7 : W1.cell? ⟨w.heap.size, 7, none⟩ = some (.slice A7 subs.length c7) := cellB hB1 7
  by_cases hd1 : DN > 1000
  · rw [if_pos hd1]
    have d1 : decide ((1000 : Int) < DN) = true := decide_eq_true hd1
    go_enter Try.func33, Try.ntmps33
    go_wp2_with (rw [← hW1]; go_at_call 46; refine (C46.out).mono ?_; clear C46; rintro e w4 ⟨rfl, kk⟩)
    go_ret
    exact ⟨rfl, k1.trans kk⟩
  · rw [if_neg hd1]
    have d1 : decide ((1000 : Int) < DN) = false := decide_eq_false hd1
    go_enter Try.func33, Try.ntmps33
    go_wp2_with (first | (rw [← hW1]; go_at_call 46; refine (C46.out).mono ?_; clear C46; rintro e w4 ⟨rfl, kk⟩; have y0 : w4.cell? ⟨w.heap.size, 0, none⟩ = some (.int .i64 kd) := cellB (kblk kk hB1) 0; have y1 : w4.cell? ⟨w.heap.size, 1, none⟩ = some (.slice A1 set.length c1) := cellB (kblk kk hB1) 1; have y2 : w4.cell? ⟨w.heap.size, 2, none⟩ = some (.int .i64 num) := cellB (kblk kk hB1) 2; have y3 : w4.cell? ⟨w.heap.size, 3, none⟩ = some (.string nm) := cellB (kblk kk hB1) 3; have y4 : w4.cell? ⟨w.heap.size, 4, none⟩ = some (.int .i64 mn) := cellB (kblk kk hB1) 4; have y5 : w4.cell? ⟨w.heap.size, 5, none⟩ = some (.int .i64 mx) := cellB (kblk kk hB1) 5; have y6 : w4.cell? ⟨w.heap.size, 6, none⟩ = some (.bool lz) := cellB (kblk kk hB1) 6; have y7 : w4.cell? ⟨w.heap.size, 7, none⟩ = some (.slice A7 subs.length c7) := cellB (kblk kk hB1) 7) | (go_at_call 45; refine (C45.out _ kk).mono ?_; clear C45; rintro e W2 ⟨u2, xs, rfl, hp, ho, k2⟩))
    have hxl : xs.length = ss.length := by have := congrArg List.length hp; simpa [proj] using this
    obtain ⟨g, cap, rfl⟩ : ∃ g cap, u2 = .slice (some ⟨g, 0, none⟩) xs.length cap := by
      obtain ⟨A, c, h1, h2⟩ := rowForm ho
      obtain ⟨g, rfl⟩ := h2 (by omega)
      exact ⟨g, c, h1⟩
    have hcell : ∀ j (hj : j < xs.length) i u, (.int .i64 xs[j].1 :: xs[j].2.1.cells)[i]? = some u → W2.cell? ⟨g, j * 9 + i, none⟩ = some u := by
      intro j hj i u hu
      have hi : i < 9 := (List.getElem?_eq_some_iff.1 hu).1
      rw [ho.cellAt (j * 9 + i) (by omega)]
      exact stepCell xs j hj i u hu
    have hglt : g < W2.heap.size := (ho.lt g rfl).2
    have hsg : ∀ j (hj : j < xs.length), ss[j]'(by omega) = (xs[j].1, xs[j].2.1.n) := by
      intro j hj
      have : ss = proj xs := hp.symm
      subst this
      simp [proj]
    have HC := Lib.hid hcell
    have HS := Lib.hid hsg
    have hml : xs.length ≤ 1000000 := by omega
    rw [hxl] at *
    clear hcell hsg ho hp z0 z1 z2 z3 z4 z5 z6 z7 y0 y1 y2 y3 y4 y5 y6 y7
    go_loopw [4, 5] (fun uv iv wr => CkI W2 ss uv iv wr) (fun _ iv _ => ss.length - (intOf iv).toNat)
    case atStart => exact ⟨0, [], rfl, by omega, by simp [chkL], by simp, World.ownsRow_nil _ _ _ _, Below.refl _ _⟩
    case round =>
      obtain ⟨j, ns, rfl, hj, hck, hns, how, hb⟩ := hrel
      by_cases hlt : j < ss.length
      · have dk : decide ((j : Int) < (ss.length : Int)) = true := decide_eq_true (by omega)
        obtain ⟨x, hx⟩ : ∃ x, x = xs[j]'(by omega) := ⟨_, rfl⟩
        have hsx : ss[j] = (x.1, x.2.1.n) := by rw [hx]; exact HS.out j (by omega)
        have hstep : chkL (ss.take (j + 1)) = chkStep (.ok ns) (x.1, x.2.1.n) := by
          rw [List.take_succ_eq_append_getElem hlt, chkL_snoc, hck, hsx]
        have herr : ∀ c, chkStep (.ok ns) (x.1, x.2.1.n) = .error c → chkOut (chkL ss) = c := by
          intro c h
          rw [chkL_pre (hstep.trans h) (List.take_prefix _ _)]
          rfl
        have hsize : x.2.1.n.f3.size ≤ 100 := by
          have := hthin.out ss[j] (List.getElem_mem hlt)
          rw [hsx] at this
          exact this
        have hck2 : ns.length ≤ 31 := hns
        obtain ⟨W3, hW3⟩ : ∃ W3, W3 = wr.alloc (.cells x.2.1.cells.toArray 25) := ⟨_, rfl⟩
        have k3 : Kp [] wr W3 := by rw [hW3]; exact (Kp.refl [] wr).alloc _
        have hbx : W3.heap[wr.heap.size]? = some (.cells x.2.1.cells.toArray 25 (0, 0)) := by rw [hW3]; exact new_at _ _ _ rfl
        have hokx := ((x.2.2.kp (k2.trans (Kp.ofBelow hb))).kp k3)
        have C77 := Lib.hid (rfits_calls x.2.1 W3 hokx (by omega))
        have hcell : ∀ i u, x.2.1.cells[i]? = some u → wr.cell? ⟨g, j * 9 + 1 + i, none⟩ = some u := by
          intro i u hu
          rw [show j * 9 + 1 + i = j * 9 + (i + 1) by omega, World.cell?_of_block (hb.block g hglt)]
          exact HC.out j (by omega) (i + 1) u (by rw [← hx]; exact hu)
        have HSTEP := Lib.hid hstep
        have HERR := Lib.hid herr
        have hlx := hokx.g1.2.1
        replace hck := Lib.hid hck
        replace hW3 := Lib.hid hW3
        clear hstep herr hsx hx hokx hck2
        obtain ⟨dp, ⟨⟨⟨kd', set', num', nm', mn', mx', lz', subs'⟩, A1', c1', A7', c7'⟩, hvx⟩⟩ := x
        dsimp only [NV.val, NV.cells] at hcell C77 hbx hW3 HSTEP HERR hsize
        have hA := hW3.out
        have y0 := hcell 0 _ rfl; have y1 := hcell 1 _ rfl; have y2 := hcell 2 _ rfl; have y3 := hcell 3 _ rfl
        have y4 := hcell 4 _ rfl; have y5 := hcell 5 _ rfl; have y6 := hcell 6 _ rfl; have y7 := hcell 7 _ rfl
        have x0 : W3.cell? ⟨wr.heap.size, 0, none⟩ = some (.int .i64 kd') := cellB hbx 0
        have x1 : W3.cell? ⟨wr.heap.size, 1, none⟩ = some (.slice A1' set'.length c1') := cellB hbx 1
        have x2 : W3.cell? ⟨wr.heap.size, 2, none⟩ = some (.int .i64 num') := cellB hbx 2
        have x3 : W3.cell? ⟨wr.heap.size, 3, none⟩ = some (.string nm') := cellB hbx 3
        have x4 : W3.cell? ⟨wr.heap.size, 4, none⟩ = some (.int .i64 mn') := cellB hbx 4
        have x5 : W3.cell? ⟨wr.heap.size, 5, none⟩ = some (.int .i64 mx') := cellB hbx 5
        have x6 : W3.cell? ⟨wr.heap.size, 6, none⟩ = some (.bool lz') := cellB hbx 6
        have x7 : W3.cell? ⟨wr.heap.size, 7, none⟩ = some (.slice A7' subs'.length c7') := cellB hbx 7
        simp only [Nat.add_zero] at y0
        clear hcell
        have hgw : g < wr.heap.size := Nat.lt_of_lt_of_le hglt hb.size
        have hup := hb.trans (Kp.bel k3 |>.mono hb.size)
        replace hbx := Lib.hid hbx
        have fitsF : fitsV ⟨kd', set', num', nm', mn', mx', lz', subs'⟩ = false → chkOut (chkL ss) = 60 := fun h => HERR.out 60 (chk_no h)
        by_cases hf : fitsV ⟨kd', set', num', nm', mn', mx', lz', subs'⟩ = false
        · rw [hf] at C77
          have E := Lib.hid (fitsF hf)
          clear fitsF hf
          go_wp2_with (first | (rw [← hA]; go_at_call 77; refine (C77.out).mono ?_; clear C77; rintro e w5 ⟨rfl, k5⟩))
          go_ret
          exact ⟨by rw [E.out]; rfl, (((k1.trans kk).trans k2).trans (Kp.ofBelow hb)).trans (k3.trans k5)⟩
        · replace hf : fitsV ⟨kd', set', num', nm', mn', mx', lz', subs'⟩ = true := by simpa using hf
          rw [hf] at C77
          clear fitsF
          have hrel2 : ∀ (w5 : World) (ns2 : List ByteArray) (u2 : Value), chkStep (.ok ns) (dp, (⟨kd', set', num', nm', mn', mx', lz', subs'⟩ : S25)) = .ok ns2 → w5.ownsRow W2.heap.size 9 1 u2 ns2.length (ns2.map .string) → Below W2.heap.size W2 w5 → CkI W2 ss u2 (.int .i64 ((j : Int) + 1)) w5 := by
            intro w5 ns2 u2 h1 h2 h3
            have hst := HSTEP.out.trans h1
            exact ⟨j + 1, ns2, by simp, hlt, hst, chk_small (ss.take (j + 1)) [] ns2 (by simp) hst, h2, h3⟩
          have REL := Lib.hid hrel2
          have skip := fun h => chk_skip (ns := ns) (x := (dp, (⟨kd', set', num', nm', mn', mx', lz', subs'⟩ : S25))) hf h
          have numE := fun h6 h => chk_num (ns := ns) (x := (dp, (⟨kd', set', num', nm', mn', mx', lz', subs'⟩ : S25))) hf h6 h
          have longE := fun h6 h h2 => chk_long (ns := ns) (x := (dp, (⟨kd', set', num', nm', mn', mx', lz', subs'⟩ : S25))) hf h6 h h2
          have twiceE := fun h6 h h2 h3 h4 => chk_twice (ns := ns) (x := (dp, (⟨kd', set', num', nm', mn', mx', lz', subs'⟩ : S25))) hf h6 h h2 h3 h4
          have fineE := fun h6 h h2 h3 => chk_fine (ns := ns) (x := (dp, (⟨kd', set', num', nm', mn', mx', lz', subs'⟩ : S25))) hf h6 h h2 h3
          dsimp only at skip numE longE twiceE fineE
          have SK := Lib.hid skip; have NE := Lib.hid numE; have LE := Lib.hid longE; have TE := Lib.hid twiceE; have FE := Lib.hid fineE
          clear hrel2 skip numE longE twiceE fineE hf
          obtain ⟨n1, hn1⟩ : ∃ n1, n1 = (ns.length : Int) + 1 := ⟨_, rfl⟩
          have hwn := (wr31 hn1 hns).1
          replace hn1 := Lib.hid hn1
          clear hlx
          obtain ⟨An, cn, rfl, hAn⟩ := rowForm how
          have KF : Kp [] w wr := ((k1.trans kk).trans k2).trans (Kp.ofBelow hb)
          replace KF := Lib.hid KF
          replace HOW := Lib.hid how
          clear how
          by_cases h6 : kd' = 6
          · subst h6
            by_cases hnum : num' = n1
            · subst num'
              by_cases h31 : ns.length = 31
              · have d31 := d31T hn1.out h31
                have E := Lib.hid (HERR.out _ (LE.out (by trivial) hn1.out h31))
                replace h31 := Lib.hid h31
                go_wp2_with (first | (rw [← hA]; go_at_call 77; refine (C77.out).mono ?_; clear C77; rintro e w5 ⟨rfl, k5⟩; have y0 : w5.cell? ⟨wr.heap.size, 0, none⟩ = some (.int .i64 6) := cellB (kblk k5 hbx.out) 0; have y2 : w5.cell? ⟨wr.heap.size, 2, none⟩ = some (.int .i64 n1) := cellB (kblk k5 hbx.out) 2; have y3 : w5.cell? ⟨wr.heap.size, 3, none⟩ = some (.string nm') := cellB (kblk k5 hbx.out) 3))
                go_ret
                exact ⟨by rw [E.out]; rfl, KF.out.trans (k3.trans k5)⟩
              · have d31 := d31F hn1.out hns h31
                replace h31 := Lib.hid h31
                go_wp2_with (first | (rw [← hA]; go_at_call 77; refine (C77.out).mono ?_; clear C77; rintro e w5 ⟨rfl, k5⟩; have y0 : w5.cell? ⟨wr.heap.size, 0, none⟩ = some (.int .i64 6) := cellB (kblk k5 hbx.out) 0; have y2 : w5.cell? ⟨wr.heap.size, 2, none⟩ = some (.int .i64 n1) := cellB (kblk k5 hbx.out) 2; have y3 : w5.cell? ⟨wr.heap.size, 3, none⟩ = some (.string nm') := cellB (kblk k5 hbx.out) 3))
                have HO5 := Lib.hid (rowKp (rowKp HOW.out k3) k5)
                have hB5 := Lib.hid (hb.trans ((k3.trans k5).bel.mono hb.size))
                have hb5 := ltB (kblk k5 hbx.out)
                go_loopw [7] (fun kv wq => Aside0 (Kp [] w5 wq) ∧ ∃ q : Nat, kv = .int .i64 q ∧ q ≤ ns.length ∧ Aside0 (∀ i (h : i < ns.length), i < q → ¬ (ns[i] = nm' ∧ emptyS nm' = false))) (fun kv _ => ns.length - (intOf kv).toNat)
                case atStart => exact ⟨⟨Kp.refl _ _⟩, 0, rfl, by omega, ⟨fun i _ h => absurd h (by omega)⟩⟩
                case round =>
                  obtain ⟨HK, q, rfl, hq, HQ⟩ := hrel
                  have yn := kcell HK.out y3
                  have HO6 := Lib.hid (rowKp HO5.out HK.out)
                  have hb6 := Nat.lt_of_lt_of_le hb5 HK.out.size
                  by_cases hql : q < ns.length
                  · have dq : decide ((q : Int) < (ns.length : Int)) = true := decide_eq_true (by omega)
                    obtain ⟨gn, rfl⟩ := hAn (by omega)
                    obtain ⟨sq, hsq⟩ : ∃ sq, sq = ns[q] := ⟨_, rfl⟩
                    have hcq : wr.cell? ⟨gn, q, none⟩ = some (.string sq) := by rw [HO6.out.cellAt q (by omega), hsq]; simp [hql]
                    have hgn := (HO6.out.lt gn rfl).2
                    replace hsq := Lib.hid hsq
                    have fin : ∀ {P : Prop}, ¬ (sq = nm' ∧ emptyS nm' = false) → ((∀ i (h : i < ns.length), i < q + 1 → ¬ (ns[i] = nm' ∧ emptyS nm' = false)) → P) → P := by
                      intro P h k
                      refine k fun i hi hi2 => ?_
                      by_cases e : i = q
                      · subst e; rw [← hsq.out]; exact h
                      · exact HQ.out i hi (by omega)
                    by_cases heq : sq = nm'
                    · have b1 := strT heq
                      by_cases hem : emptyS nm' = true
                      · have b2 : nm'.toList.isEmpty = true := hem
                        have FIN := Lib.hid (fin (P := Aside0 (∀ i (h : i < ns.length), i < q + 1 → ¬ (ns[i] = nm' ∧ emptyS nm' = false))) (fun h => by rw [hem] at h; exact absurd h.2 (by decide)) (fun h => ⟨h⟩))
                        clear fin heq hem
                        go_wp2_with fail
                        go_quiet (skip)
                        all_goals
                          go_wp2_with fail
                          go_round
                          case rel => exact ⟨⟨by first | exact HK.out.drewN _ | exact HK.out⟩, q + 1, by simp, hql, FIN.out⟩
                          case measure => simp [intOf]; omega
                      · obtain ⟨b2, b3⟩ := empF hem
                        have E := Lib.hid (HERR.out 6 (TE.out trivial hn1.out (by have := h31.out; omega) (by rw [← heq, hsq.out]; exact List.getElem_mem hql) b2))
                        clear fin heq hem
                        go_wp2_with fail
                        go_quiet (skip)
                        all_goals
                          go_wp2_with fail
                          go_ret
                          exact ⟨by rw [E.out]; rfl, KF.out.trans ((k3.trans k5).trans (by first | exact HK.out.drewN _ | exact HK.out))⟩
                    · have b1 := strF heq
                      have FIN := Lib.hid (fin (P := Aside0 (∀ i (h : i < ns.length), i < q + 1 → ¬ (ns[i] = nm' ∧ emptyS nm' = false))) (fun h => heq h.1) (fun h => ⟨h⟩))
                      clear fin heq
                      go_wp2_with fail
                      go_quiet (skip)
                      all_goals
                        go_wp2_with fail
                        go_round
                        case rel => exact ⟨⟨by first | exact HK.out.drewN _ | exact HK.out⟩, q + 1, by simp, hql, FIN.out⟩
                        case measure => simp [intOf]; omega
                  · obtain rfl : q = ns.length := by omega
                    have dq : decide ((ns.length : Int) < (ns.length : Int)) = false := decide_eq_false (by omega)
                    have hfine : ¬ (nm' ∈ ns ∧ emptyS nm' = false) := by
                      rintro ⟨h1, h2⟩
                      obtain ⟨i, hi, hi2⟩ := List.getElem_of_mem h1
                      exact HQ.out i hi hi ⟨hi2, h2⟩
                    have hns30 : ns.length ≤ 30 := by have := h31.out; omega
                    have hst := Lib.hid (FE.out trivial hn1.out hns30 hfine)
                    clear hfine HQ
                    have hrow6 := HO6.out.alloc (.cells #[.string nm'] 9)
                    have hb7 := Lib.hid (hB5.out.trans (HK.out.bel.mono hB5.out.size))
                    have hb8 := hb7.out.size
                    go_wp2_with (at_builtin; refine wpList_append_own _ rfl _ _ 57 rfl W2.heap.size 9 i0 (.string .empty) 1 16 Try.underlying57 hi hz0 hz1 hz2 rfl (by decide) _ _ _ rfl hrow6 ⟨wr.heap.size, 0, none⟩ 1 1 [.string nm'] rfl rfl (cell_one_new _ _ _) (by simp [Value.oneCell']) (by unfold maxLen; omega) (by omega) (by simp; omega) ?_; intro v' w1 hown' hgrow _)
                    go_round
                    case rel => exact REL.out w1 _ _ hst.out (by simpa using hown') (belowGrown hb7.out (Nat.le_refl _) hgrow (fun k hk => (HO6.out.lt k hk).1))
                    case measure => simp [intOf]; omega
            · have E := Lib.hid (HERR.out _ (NE.out (by trivial) (by rw [← hn1.out]; exact hnum)))
              have bn : (num' == n1) = false := beq_eq_false_iff_ne.2 hnum
              replace hnum := Lib.hid hnum
              go_wp2_with (first | (rw [← hA]; go_at_call 77; refine (C77.out).mono ?_; clear C77; rintro e w5 ⟨rfl, k5⟩; have y0 : w5.cell? ⟨wr.heap.size, 0, none⟩ = some (.int .i64 6) := cellB (kblk k5 hbx.out) 0; have y2 : w5.cell? ⟨wr.heap.size, 2, none⟩ = some (.int .i64 num') := cellB (kblk k5 hbx.out) 2; have y3 : w5.cell? ⟨wr.heap.size, 3, none⟩ = some (.string nm') := cellB (kblk k5 hbx.out) 3))
              go_ret
              exact ⟨by rw [E.out]; rfl, KF.out.trans (k3.trans k5)⟩
          · go_wp2_with (first | (rw [← hA]; go_at_call 77; refine (C77.out).mono ?_; clear C77; rintro e w5 ⟨rfl, k5⟩; have y0 : w5.cell? ⟨wr.heap.size, 0, none⟩ = some (.int .i64 kd') := cellB (kblk k5 hbx.out) 0))
            go_round
            case rel => exact REL.out w5 ns _ (SK.out h6) (rowKp (rowKp HOW.out k3) k5) (hb.trans ((k3.trans k5).bel.mono hb.size))
            case measure => simp [intOf]; omega
      · obtain rfl : j = ss.length := by omega
        have dk : decide ((ss.length : Int) < (ss.length : Int)) = false := decide_eq_false (by omega)
        rw [List.take_length] at hck
        replace hck := Lib.hid hck
        go_wp2_with fail
        go_ret
        exact ⟨by rw [hck.out]; rfl, ((k1.trans kk).trans k2).trans (Kp.ofBelow hb)⟩

end Go.Proofs.Ytojlhlepneefoaa
