/- Package mem, the law MemPlays: the walk. -/
import Derived.Test.YtndpmjgalmnhdaaU
import Derived.Maps.AppendAt
import Derived.Laws.OwnMore
namespace Go.Proofs.Ytndpmjgalmnhdaa
open Go.RowKit PMemPlays Go.Proofs.YtndpmjgalmnhdaaW.PrintWords Go.Proofs.YtndpmjgalmnhdaaW.PrintLast Go.Proofs.YtndpmjgalmnhdaaW.PrintMore
open Go.Sort Go.Shelf
set_option linter.unusedVariables false
set_option linter.unusedSimpArgs false

/-- append(v, l...), l regions that came in, nil or not, v a row of the call's own. -/
theorem run_append_regs (w : World) (ty : TypeId) (base : Nat) (v : Value) (n : Nat) (xs : List Value) (hown : w.ownsRow base 39 3 v n xs) (A : Option Addr) (cap : Nat) (l : List S39) (h : IsRegs w A cap l) (hn : n + l.length ≤ 1000) (hb : base ≤ w.heap.size) :
    ∃ v' w', (Builtin.append_ #[22, 22] ty #[v, .slice A l.length cap]).run Try.prog w = .ok v' w' ∧ w'.ownsRow base 39 3 v' (n + l.length) (xs ++ rcells l) ∧ w.grownBy w' v.ownBlock ∧ (v'.ownBlock = v.ownBlock ∨ v'.ownBlock = some w.heap.size) := by
  obtain ⟨i39, hi, hz, hsz, hby⟩ := info_parts info39
  rcases A with _ | ad
  · have hl : l = [] := by
      rcases l with _ | ⟨r, l⟩
      · rfl
      · obtain ⟨_, _, e, _⟩ := h.at_ 0 (by simp)
        cases e
    subst hl
    refine ⟨v, w, ?_, by simpa [rcells] using hown, World.grownBy.refl w _, .inl rfl⟩
    rcases hown.2 with ⟨rfl, rfl⟩ | ⟨g, c, cur, rfl, _, _, hnc, _⟩
    · simp [Builtin.append_, run_underlying Try.underlying22, sizeOf, typeInfo, hi, Builtin.lenOf, Builtin.firstCells]
    · simp [Builtin.append_, run_underlying Try.underlying22, sizeOf, typeInfo, hi, Builtin.lenOf, Builtin.firstCells, hnc, storeCells]
  · have hc : ∀ j u, (rcells l)[j]? = some u → w.cell? (ad.add j) = some u := by
      intro j u hu
      rcases l with _ | ⟨r, l⟩
      · simp [rcells] at hu
      · obtain ⟨b, off, e, _⟩ := h.at_ 0 (by simp)
        injection e with e
        subst e
        exact rcells_at h j u hu
    obtain ⟨v', w', h1, h2, h3, _, h5⟩ := run_append_own_at (P := Try.prog) w base 22 ty 39 i39 (.agg #[.int .u64 0, .string ⟨#[]⟩, .int .i64 0]) 3 32 Try.underlying22 hi hz hsz hby rfl (by decide) v n xs hown ad l.length cap (rcells l) (rcells_len l) hc (rcells_one l) (by unfold maxLen; omega) (by omega) hb
    exact ⟨v', w', h1, h2, h3, h5⟩
theorem wpList_append_regs {ops : Array Oper} {rest : List Oper} {o : Oper} {a : Act} {Q : Exit → Act → World → Prop} (w : World) (hgd : o.guard = none) (s x : Operand) (ho : o.op = .call { callee := .builtin .append, args := #[s, x], argTypes := #[22, 22] })
    (base : Nat) (v : Value) (n : Nat) (xs : List Value) (hs : a.eval s = v) (hown : w.ownsRow base 39 3 v n xs) (A : Option Addr) (cap : Nat) (l : List S39) (hx : a.eval x = .slice A l.length cap) (h : IsRegs w A cap l) (hn : n + l.length ≤ 1000) (hb : base ≤ w.heap.size)
    (hK : ∀ v' w', w'.ownsRow base 39 3 v' (n + l.length) (xs ++ rcells l) → w.grownBy w' v.ownBlock → (v'.ownBlock = v.ownBlock ∨ v'.ownBlock = some w.heap.size) → wpList Try.prog ops Q rest (a.put o.dst v') w') : wpList Try.prog ops Q (o :: rest) a w := by
  refine wpList_plain hgd fun K hK' => ?_
  obtain ⟨v', w', hrun, h2, h3, h4⟩ := run_append_regs w o.type base v n xs hown A cap l h hn hb
  unfold Oper.wp execOp
  simp only [ho, resolve, invoke, builtin, Sem.run_bind, Sem.run_pure, Result.andThen_ok, List.map_toArray, List.map_cons, List.map_nil, hs, hx, hrun]
  exact hK' _ _ (hK v' w' h2 h3 h4)
/-- The copy, as regions. -/
theorem regs_copy {w w' : World} {v : Value} {base : Nat} {A : Option Addr} {cap : Nat} {l : List S39} (h : IsRegs w A cap l) (hown : w'.ownsRow base 39 3 v (0 + l.length) ([] ++ rcells l)) : ∃ A' cap', v = .slice A' l.length cap' ∧ IsRegs w' A' cap' l := by
  rw [Nat.zero_add, List.nil_append] at hown
  rcases hown.2 with ⟨rfl, h0⟩ | ⟨g, c, cur, rfl, _, hg, h1, h2, _, h4⟩
  · have hl : l = [] := List.eq_nil_of_length_eq_zero h0
    subst hl
    exact ⟨none, 0, rfl, ⟨rfl, by simp, fun h => absurd h (by simp)⟩, by simp, by simp, by simp⟩
  · refine ⟨_, c, rfl, ⟨rfl, by have := h.1.2.1; omega, fun _ => ⟨_, rfl, fun j p hj => ?_⟩⟩, h1, h2, h.2.2.2⟩
    obtain ⟨hjl, rfl⟩ := List.getElem?_eq_some_iff.1 hj
    obtain ⟨g0, g1, g2⟩ := rcells_get l j hjl
    have key : ∀ (i : Nat) (u : Value), (rcells l)[i]? = some u → cur[i]? = some u := by
      intro i u hu
      rw [← h4, List.getElem?_take] at hu
      split at hu
      · rwa [Array.getElem?_toList] at hu
      · simp at hu
    refine ⟨_, rfl, k39_mk _ l[j], fun i u hu => ?_⟩
    have e2 : (⟨g, 0, none⟩ : Addr).add (j * k39.sz + i) = ⟨g, j * 3 + i, none⟩ := by
      have : k39.sz = 3 := rfl
      rw [this, WideShapes.add_plain]
      simp
    rw [e2, cellB hg]
    match i, hu with
    | 0, hu => simp at hu; subst hu; exact key _ _ g0
    | 1, hu => simp at hu; subst hu; exact key _ _ g1
    | 2, hu => simp at hu; subst hu; exact key _ _ g2

set_option maxRecDepth 100000 in
set_option maxHeartbeats 2000000 in
theorem plays_main (W : World) (A : Option Addr) (cap : Nat) (l : List S39) (hA : IsRegs W A cap l) (B : Option Addr) (len cap2 : Nat) (f : Nat → ActV) (hB : IsActs W B len f) :
    Calls Try.prog 4 #[.slice A l.length cap, .slice B len cap2] W fun e w' => e = .returned (.bool true) ∧ Kp [] W w' := by
  have hlen := hB.1
  have GA := fun w (k : Kp [] W w) => Lib.hid (great_any w A cap l (hA.kept k))
  have WA := Lib.hid works_any
  go_enter Try.func4, Try.ntmps4
  go_wp2_with fail
  refine (GA W (Kp.refl _ _)).out.mono ?_
  rintro e w1 ⟨rfl, k1⟩
  cases hgr : greatB l
  case true =>
    clear hgr
    go_wp2_with fail
    refine (WA.out w1).mono ?_
    rintro e w2 ⟨rfl, k2⟩
    go_wp2
    go_ret
    exact ⟨rfl, k1.trans k2⟩
  obtain ⟨hl10, hl200⟩ := great_no hgr
  clear hgr
  have hcap : cap ≤ 9223372036854775807 := hA.2.2.1
  have HNW := fun w (k : Kp [] W w) A' cap' (h : IsRegs w A' cap' l) => Lib.hid (new_any w A' cap' l h hl10 hl200)
  have HCK := fun w (k : Kp [] W w) (hs : Sz l) => Lib.hid (rcheck_any w A cap l (hA.kept k) hs)
  have ka := (Kp.refl [] w1).alloc (.cells #[] 39)
  go_wp2_with (at_builtin; refine wpList_append_regs (w1.alloc (.cells #[] 39)) rfl (.tmp 25) (.tmp 26) rfl w1.heap.size (.slice (some ⟨w1.heap.size, 0, none⟩) 0 0) 0 [] rfl (World.ownsRow_lit w1 #[] 0 (Nat.le_refl _) (by decide) rfl) A cap l rfl (hA.kept (k1.trans ka)) (by omega) (by simp) ?_; intro v w2 hown hgrow hat; obtain ⟨A2, cap2', rfl, hR2⟩ := regs_copy hA hown)
  have k2 : Kp [] W w2 := (k1.alloc (.cells #[] 39)).grown hgrow (fun j hj => .inr (by simp [Value.ownBlock] at hj; have := k1.size; omega))
  have hSz : Sz l := ⟨hl10, fun r hr => ⟨hl200 r hr, u64_wf' (hA.2.2.2 r hr).1⟩⟩
  have HN := HNW w2 k2 A2 cap2' hR2
  clear HNW hgrow hat hown
  go_wp2_with fail
  refine HN.out.mono ?_
  rintro e w3 ⟨k3, ⟨hc, m, bs, rfl, hm⟩ | ⟨hc, rfl⟩⟩
  case inr =>
    have HC1 := HCK w3 (k2.trans k3) hSz
    have hne : (chk 0 l == 0) = false := by simpa using hc
    have hne2 : (chk 0 l != 0) = true := by simpa using hc
    clear HCK HN
    go_wp2_with fail
    refine HC1.out.mono ?_
    rintro e w4 ⟨rfl, k4⟩
    go_wp2_with fail
    go_loopw [9] (fun i wr => i = .int .i64 0 ∧ wr = w4) (fun _ _ => 0)
    case atStart => exact ⟨rfl, rfl⟩
    case round =>
      obtain ⟨rfl, rfl⟩ := hrel
      go_wp2_with fail
      refine (WA.out _).mono ?_
      rintro e w5 ⟨rfl, k5⟩
      go_wp2
      go_ret
      exact ⟨rfl, ((k2.trans k3).trans k4).trans k5⟩
  have HC1 := HCK w3 (k2.trans k3) hSz
  have HOK := Lib.hid hc
  rw [hc] at HC1
  clear HCK HN hc
  go_wp2_with fail
  refine HC1.out.mono ?_
  rintro e w4 ⟨rfl, k4⟩
  have hok := (chk_ok l 0).2 HOK.out
  have P0 : Play W l.length m 0 bs A cap l w4 := by
    have hmB := hm.mB
    have hz := k2.size
    have hm2 : IsMem w3 W.heap.size m 0 bs (l.map pieceOf) := by
      obtain ⟨q1, q2, q3, q4, q5⟩ := hm
      obtain ⟨A1, c1, h1, h2⟩ := q1
      exact ⟨⟨A1, c1, h1, own_less h2 hz⟩, by omega, q3, q4, fun i hi hi' => ⟨by have := (q5 i hi hi').1; omega, (q5 i hi hi').2⟩⟩
    refine ⟨(k2.trans k3).trans k4, hm2.kept k4 (by simp), hok, hSz, rfl, hA.kept ((k2.trans k3).trans k4), fun h0 y e => ?_⟩
    obtain ⟨b, off, e2, hb, _⟩ := hA.at_ 0 h0
    rw [e] at e2
    injection e2 with e2
    subst e2
    refine ⟨by show b ≠ m; have := hm2.mB; omega, fun hmem => ?_⟩
    obtain ⟨i, hi, e3⟩ := List.getElem_of_mem hmem
    have := (hm2.by_ i (by have := hm2.len; omega) hi).1
    have e4 : b = bs[i] := e3.symm
    omega
  clear hm hR2
  go_wp2_with fail
  go_loopw [0, 8, 9] (fun a u i wr => ∃ (j : Nat) (wn : Int) (A' : Option Addr) (cap' : Nat) (l' : List S39), j ≤ 100 ∧ a = .slice A' l.length cap' ∧ u = .int .u64 wn ∧ i = .int .i64 j ∧ 0 ≤ wn ∧ wn ≤ 8 * j ∧ Play W l.length m wn bs A' cap' l' wr) (fun _ _ i _ => 100 - (intOf i).toNat)
  case atStart => exact ⟨0, 0, A, cap, l, by omega, rfl, rfl, rfl, by omega, by omega, P0⟩
  case round =>
    obtain ⟨j, wn, A', cap', l', hj, rfl, rfl, rfl, hw0, hw1, hP⟩ := hrel
    by_cases hgo : j < len ∧ j < 100
    · obtain ⟨hjl, hj100⟩ := hgo
      obtain ⟨b, off, rfl, hb, hcc⟩ := hB.2 (by omega)
      obtain ⟨c0, c1, c2, c3, ⟨ha0, ha1⟩, hx0, hx1⟩ := hcc j hjl
      generalize f j = q at c0 c1 c2 c3 ha0 ha1 hx0 hx1
      have hbr := Nat.lt_of_lt_of_le hb hP.k.size
      have d0 := (World.cell?_of_block (a := ⟨b, off + j * 4, none⟩) (hP.k.block b hb (by simp))).trans c0
      have d1 := (World.cell?_of_block (a := ⟨b, off + j * 4 + 1, none⟩) (hP.k.block b hb (by simp))).trans c1
      have d2 := (World.cell?_of_block (a := ⟨b, off + j * 4 + 2, none⟩) (hP.k.block b hb (by simp))).trans c2
      have d3 := (World.cell?_of_block (a := ⟨b, off + j * 4 + 3, none⟩) (hP.k.block b hb (by simp))).trans c3
      clear c0 c1 c2 c3 hcc
      have ka := (Kp.refl [] wr).alloc (.cells #[.int .i64 q.k, .int .i64 q.n, .int .u64 q.a, .int .u64 q.x] 25)
      have hx := heap_alloc_new wr (.cells #[.int .i64 q.k, .int .i64 q.n, .int .u64 q.a, .int .u64 q.x] 25)
      have hPa := hP.kept ka
      have hlt100 : (j : Int) < 100 := by omega
      by_cases hk0 : q.k = 0
      · have hk0' : (q.k == 0) = true := by simp [hk0]
        have HL := Lib.hid (load_any _ _ m wn bs _ hPa.mm (hPa.sz.new hPa.ok) q.a q.n ha0 ha1)
        have HK0 := Lib.hid hk0
        clear hk0
        go_wp2_with fail
        refine HL.out.mono ?_
        rintro e w5 ⟨x1, f1, rfl, hs1, k5⟩
        have hP5 := hPa.kept k5
        have hx5 := (k5.block _ (ltB hx) (by simp)).trans hx
        have y1 := cellB hx5 1
        have y2 := cellB hx5 2
        simp at y1 y2
        have HRL := Lib.hid (rload_any w5 A' cap' l' hP5.r hP5.sz hP5.ok ha0 ha1 hs1)
        rw [hP5.len] at HRL
        clear HL hs1
        go_wp2_with fail
        refine HRL.out.mono ?_
        rintro e w6 ⟨rfl, k6⟩
        have hP6 := hP5.kept k6
        have HWR := Lib.hid (written_any w6 _ m _ bs _ hP6.mm)
        have HSM := Lib.hid (same_any w6 _ m _ bs _ hP6.mm (hP6.sz.new hP6.ok) A' cap' l' hP6.r (match_new l'))
        rw [hP6.len] at HSM
        go_wp2_with fail
        refine HWR.out.mono ?_
        rintro e wt ⟨rfl, rfl⟩
        go_wp2_with fail
        refine HSM.out.mono ?_
        rintro e w8 ⟨rfl, k8⟩
        have hP8 := hP6.kept k8
        go_wp2
        go_roundw
        case rel => exact ⟨j + 1, wn, A', cap', l', by omega, rfl, rfl, by go_num, by omega, by omega, hP8⟩
        case measure => simp [intOf]; omega
      · have hk0' : (q.k == 0) = false := by simpa using hk0
        by_cases hk1 : q.k = 1
        · have hk1' : (q.k == 1) = true := by simp [hk1]
          have HRS := Lib.hid (rstore_any _ A' cap' l' hPa.r hPa.sz hPa.ok q.a q.n q.x ha0 ha1 hx0 hx1)
          rw [hPa.len] at HRS
          clear hk0 hk1
          go_wp2_with fail
          refine HRS.out.mono ?_
          intro e1 w5 hrs
          have hk5 : Kp [] (wr.alloc (.cells #[.int .i64 q.k, .int .i64 q.n, .int .u64 q.a, .int .u64 q.x] 25)) w5 := by
            rcases hrs with ⟨_, _, h⟩ | ⟨_, _, _, h⟩ | ⟨_, _, _, _, _, _, _, _, _, h⟩ <;> exact h
          have hP5 := hPa.kept hk5
          have hx5 := (hk5.block _ (ltB hx) (by simp)).trans hx
          have y1 := cellB hx5 1
          have y2 := cellB hx5 2
          have y3 := cellB hx5 3
          simp at y1 y2 y3
          have HST := Lib.hid (store_any w5 _ m wn bs _ hP5.mm (hP5.sz.new hP5.ok) q.a q.n q.x ha0 ha1 hx0 hx1 hw0 (by omega))
          obtain ⟨A2', c2', l2', cc, wn', he1, hboth⟩ : ∃ (A2' : Option Addr) (c2' : Nat) (l2' : List S39) (cc wn' : Int), e1 = .returned (.tuple #[.slice A2' l.length c2', .int .i64 cc]) ∧ True := by
            rcases hrs with ⟨_, rfl, _⟩ | ⟨_, _, rfl, _⟩ | ⟨_, k, g, c', hk, _, rfl, _⟩
            · exact ⟨A', cap', l', 1, 0, by rw [hP.len], trivial⟩
            · exact ⟨A', cap', l', 270, 0, by rw [hP.len], trivial⟩
            · exact ⟨_, c', l', 0, 0, by rw [hP.len], trivial⟩
          subst he1
          have HBS := Lib.hid (fun e2 w6 h2 => both_store hPa (w2 := w6) (e2 := e2) ha0 ha1 hrs h2)
          clear HRS hrs
          go_wp2_with fail
          refine HST.out.mono ?_
          intro e2 w6 hst
          have hx6 : w6.heap[wr.heap.size]? = some (.cells #[.int .i64 q.k, .int .i64 q.n, .int .u64 q.a, .int .u64 q.x] 25 (0, 0)) := by
            obtain ⟨_, _, hm0, _⟩ := hP.mm.st
            have hmlt := ltB hm0
            rcases hst with ⟨_, _, h⟩ | ⟨_, _, _, h⟩ | ⟨_, _, _, _, _, _, hp, hb, h, _⟩
            · exact (h.block _ (ltB hx5) (by simp)).trans hx5
            · exact (h.block _ (ltB hx5) (by simp)).trans hx5
            · have hbb := ltB (hP.mm.bytes hp hb).2
              exact (h.block _ (ltB hx5) (by simp; omega)).trans hx5
          obtain ⟨A3, c3, l3, c4, wn3, he1, rfl, hP6, hcw⟩ := HBS.out e2 w6 (fun _ => hst)
          injection he1 with he1
          injection he1 with he1
          simp at he1
          obtain ⟨⟨rfl, rfl⟩, rfl⟩ := he1
          clear HST HBS hst hP5 hP hPa hx hx5 y1 y2 y3 d0 d1 d2 d3 hk5
          have y1 := cellB hx6 1
          simp at y1
          rcases hcw with ⟨hc0, rfl⟩ | ⟨rfl, hwn, hn1, hn8⟩
          · have hcf : (cc == 0) = false := by simpa using hc0
            have hcf2 : (cc != 0) = true := by simpa using hc0
            clear hc0
            have HWR := Lib.hid (written_any w6 _ m _ bs _ hP6.mm)
            have HSM := Lib.hid (same_any w6 _ m _ bs _ hP6.mm (hP6.sz.new hP6.ok) A2' c2' l3 hP6.r (match_new l3))
            rw [hP6.len] at HSM
            go_wp2_with fail
            refine HWR.out.mono ?_
            rintro e wt ⟨rfl, rfl⟩
            go_wp2_with fail
            refine HSM.out.mono ?_
            rintro e w8 ⟨rfl, k8⟩
            have hP8 := hP6.kept k8
            go_wp2
            go_roundw
            case rel => exact ⟨j + 1, wn3, A2', c2', l3, by omega, rfl, rfl, by go_num, by omega, by omega, hP8⟩
            case measure => simp [intOf]; omega
          · have hwr : IntKind.u64.wrap (wn + q.n) = wn + q.n := by rw [IntKind.wrap_u64]; omega
            have hwn' : wn3 = wn + q.n := hwn
            subst hwn'
            have HWR := Lib.hid (written_any w6 _ m _ bs _ hP6.mm)
            have HSM := Lib.hid (same_any w6 _ m _ bs _ hP6.mm (hP6.sz.new hP6.ok) A2' c2' l3 hP6.r (match_new l3))
            rw [hP6.len] at HSM
            go_wp2_with fail
            refine HWR.out.mono ?_
            rintro e wt ⟨rfl, rfl⟩
            go_wp2_with fail
            refine HSM.out.mono ?_
            rintro e w8 ⟨rfl, k8⟩
            have hP8 := hP6.kept k8
            go_wp2
            go_roundw
            case rel => exact ⟨j + 1, wn + q.n, A2', c2', l3, by omega, rfl, rfl, by go_num, by omega, by omega, hP8⟩
            case measure => simp [intOf]; omega
        · have hk1' : (q.k == 1) = false := by simpa using hk1
          have HL := Lib.hid (fetch_any _ _ m wn bs _ hPa.mm (hPa.sz.new hPa.ok) q.a ha0 ha1)
          clear hk0 hk1
          go_wp2_with fail
          refine HL.out.mono ?_
          rintro e w5 ⟨x1, f1, rfl, hs1, k5⟩
          have hP5 := hPa.kept k5
          have hx5 := (k5.block _ (ltB hx) (by simp)).trans hx
          have y2 := cellB hx5 2
          simp at y2
          have HRL := Lib.hid (rfetch_any w5 A' cap' l' hP5.r hP5.sz hP5.ok ha0 ha1 hs1)
          rw [hP5.len] at HRL
          clear HL hs1
          go_wp2_with fail
          refine HRL.out.mono ?_
          rintro e w6 ⟨rfl, k6⟩
          have hP6 := hP5.kept k6
          have HWR := Lib.hid (written_any w6 _ m _ bs _ hP6.mm)
          have HSM := Lib.hid (same_any w6 _ m _ bs _ hP6.mm (hP6.sz.new hP6.ok) A' cap' l' hP6.r (match_new l'))
          rw [hP6.len] at HSM
          go_wp2_with fail
          refine HWR.out.mono ?_
          rintro e wt ⟨rfl, rfl⟩
          go_wp2_with fail
          refine HSM.out.mono ?_
          rintro e w8 ⟨rfl, k8⟩
          have hP8 := hP6.kept k8
          go_wp2
          go_roundw
          case rel => exact ⟨j + 1, wn, A', cap', l', by omega, rfl, rfl, by go_num, by omega, by omega, hP8⟩
          case measure => simp [intOf]; omega
    · have hz : (decide ((j : Int) < len) = false ∧ decide (j < len) = false) ∨ ((decide ((j : Int) < len) = true ∧ decide (j < len) = true) ∧ decide ((j : Int) < 100) = false ∧ decide (j < 100) = false) := by
        by_cases h : j < len
        · exact .inr ⟨⟨decide_eq_true (by omega), decide_eq_true h⟩, decide_eq_false (by omega), decide_eq_false (by omega)⟩
        · exact .inl ⟨decide_eq_false (by omega), decide_eq_false h⟩
      have kend := hP.k
      clear hgo hP
      rcases hz with ⟨hz, hz1⟩ | ⟨⟨hz, hz1⟩, hz2, hz3⟩
      all_goals
        go_wp2_with fail
        refine (WA.out _).mono ?_
        rintro e w5 ⟨rfl, k5⟩
        go_wp2
        go_ret
        exact ⟨rfl, kend.trans k5⟩
theorem plays_walk (W : World) (A : Option Addr) (cap : Nat) (l : List S39) (B : Option Addr) (len cap2 : Nat) (f : Nat → ActV) (hA : IsRegs W A cap l) (hB : IsActs W B len f) :
    Calls Try.prog 4 #[.slice A l.length cap, .slice B len cap2] W fun e w' => e = .returned (.bool true) ∧ Below W.heap.size W w' :=
  (plays_main W A cap l hA B len cap2 f hB).mono fun _ _ ⟨h, k⟩ => ⟨h, k.below (Nat.le_refl _) (by simp)⟩
end Go.Proofs.Ytndpmjgalmnhdaa
