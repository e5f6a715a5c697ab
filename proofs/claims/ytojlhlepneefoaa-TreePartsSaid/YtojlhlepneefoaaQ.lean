/- Package tree: the law TreeParts walked. -/
import Derived.Test.YtojlhlepneefoaaP
import Derived.Test.YtojlhlepneefoaaO
import Derived.IntWalk
namespace Go.Proofs.Ytojlhlepneefoaa
open Go.RowKit PAll Go.Proofs.YtojlhlepneefoaaW.PrintWords Go.Proofs.YtojlhlepneefoaaW.PrintLast Go.Proofs.YtojlhlepneefoaaW.PrintMore
open Go.Shelf
set_option linter.unusedVariables false
set_option linter.unusedSimpArgs false

attribute [local go_sem] max2_int min2_int max_two min_two
set_option maxRecDepth 100000 in
set_option maxHeartbeats 8000000 in
theorem parts_walk (v : NV) (w : World) (hv : v.ok w) : Calls Try.prog 8 #[v.val] w fun e w' => e = .returned (.bool true) ∧ Below w.heap.size w w' := by
  obtain ⟨W0, hW0⟩ : ∃ W0, W0 = w.alloc (.cells v.cells.toArray 25) := ⟨_, rfl⟩
  have k0 : Kp [] w W0 := by rw [hW0]; exact (Kp.refl [] w).alloc _
  have hb : W0.heap[w.heap.size]? = some (.cells v.cells.toArray 25 (0, 0)) := by rw [hW0]; exact new_at _ _ _ rfl
  have hv0 := hv.kp k0
  have kk : Kp [] W0 (w.alloc (.cells v.cells.toArray 25)) := by rw [hW0]; exact Kp.refl _ _
  have CW := Lib.hid (fun W (k : Kp [] W0 W) => (works_calls W).mono fun e w' ⟨h, q⟩ => (⟨h, k.trans q⟩ : _ ∧ Kp [] W0 w'))
  have CG : Hid (∀ (W : World), Kp [] W0 W → Calls Try.prog 31 #[v.val, .int .i64 300] W fun e w' => e = .returned (.bool (decide (weighP 40 v.n 300 < 0))) ∧ Kp [] W0 w') := Lib.hid fun W k => by
    obtain ⟨K, hK⟩ := Great_f v.n 300 (by omega)
    have ho := hv0.kp k
    exact (burinbook_Great.calls K v.n.f0 v.A1 v.c1 v.n.f1 v.n.f2 v.n.f3 v.n.f4 v.n.f5 v.n.f6 v.A7 v.c7 v.n.f7 300 _ W ho.g1 ho.l1 ho.g7 ho.l7 (hK K (Nat.le_refl _))).mono fun e w' ⟨h, q⟩ => ⟨h, k.trans (Kp.ofBelow q)⟩
  have bel : ∀ W, Kp [] W0 W → Below w.heap.size w W := fun W k => (k0.trans k).bel
  by_cases hg : weighP 40 v.n 300 < 0
  · rw [decide_eq_true hg] at CG
    clear hg hv0
    obtain ⟨⟨kd, set, num, nm, mn, mx_, lz, subs⟩, A1, c1, A7, c7⟩ := v
    dsimp only [NV.val, NV.cells] at hb kk CG ⊢
    replace hW0 := Lib.hid hW0
    go_enter Try.func8, Try.ntmps8
    go_wp2_with (first | (go_at_call 32; refine (CW.out _ kk).mono ?_; clear CW; rintro e w4 ⟨rfl, kk⟩; have z0 : w4.cell? ⟨w.heap.size, 0, none⟩ = some (.int .i64 kd) := cellB (kblk kk hb) 0; have z1 : w4.cell? ⟨w.heap.size, 1, none⟩ = some (.slice A1 set.length c1) := cellB (kblk kk hb) 1; have z2 : w4.cell? ⟨w.heap.size, 2, none⟩ = some (.int .i64 num) := cellB (kblk kk hb) 2; have z3 : w4.cell? ⟨w.heap.size, 3, none⟩ = some (.string nm) := cellB (kblk kk hb) 3; have z4 : w4.cell? ⟨w.heap.size, 4, none⟩ = some (.int .i64 mn) := cellB (kblk kk hb) 4; have z5 : w4.cell? ⟨w.heap.size, 5, none⟩ = some (.int .i64 mx_) := cellB (kblk kk hb) 5; have z6 : w4.cell? ⟨w.heap.size, 6, none⟩ = some (.bool lz) := cellB (kblk kk hb) 6; have z7 : w4.cell? ⟨w.heap.size, 7, none⟩ = some (.slice A7 subs.length c7) := cellB (kblk kk hb) 7) | (go_at_call 31; refine (CG.out _ kk).mono ?_; clear CG; rintro e w4 ⟨rfl, kk⟩; have z0 : w4.cell? ⟨w.heap.size, 0, none⟩ = some (.int .i64 kd) := cellB (kblk kk hb) 0; have z1 : w4.cell? ⟨w.heap.size, 1, none⟩ = some (.slice A1 set.length c1) := cellB (kblk kk hb) 1; have z2 : w4.cell? ⟨w.heap.size, 2, none⟩ = some (.int .i64 num) := cellB (kblk kk hb) 2; have z3 : w4.cell? ⟨w.heap.size, 3, none⟩ = some (.string nm) := cellB (kblk kk hb) 3; have z4 : w4.cell? ⟨w.heap.size, 4, none⟩ = some (.int .i64 mn) := cellB (kblk kk hb) 4; have z5 : w4.cell? ⟨w.heap.size, 5, none⟩ = some (.int .i64 mx_) := cellB (kblk kk hb) 5; have z6 : w4.cell? ⟨w.heap.size, 6, none⟩ = some (.bool lz) := cellB (kblk kk hb) 6; have z7 : w4.cell? ⟨w.heap.size, 7, none⟩ = some (.slice A7 subs.length c7) := cellB (kblk kk hb) 7))
    go_ret
    exact ⟨rfl, bel _ kk⟩
  · obtain ⟨ht, hlen⟩ := Great_no (a := 300) hg
    have hst := hlen 1000 1
    rw [decide_eq_false hg] at CG
    have hdp := depthP_le 1001 v.n
    have C38 := Lib.hid (fun W (k : Kp [] W0 W) => (size_calls v W (hv0.kp k) (by omega)).mono fun e w' ⟨h, q⟩ => (⟨h, k.trans q⟩ : _ ∧ Kp [] W0 w'))
    have C39 := Lib.hid (fun W (k : Kp [] W0 W) => (depth_calls v W (hv0.kp k) ht).mono fun e w' ⟨h, q⟩ => (⟨h, k.trans q⟩ : _ ∧ Kp [] W0 w'))
    have C24 := Lib.hid (fun W (k : Kp [] W0 W) => (check_calls v W (hv0.kp k) ht (by omega)).mono fun e w' ⟨h, q⟩ => (⟨h, k.trans q⟩ : _ ∧ Kp [] W0 w'))
    have h0 : ∀ {e : Ending} {k : Nat} {W : World} {b : Nat} {ys : List Value} (u : Value), W.ownsRow b 9 1 u k ys → e = .returned u → ∃ A c, e = .returned (.slice A k c) := by
      intro e k W b ys u ho he
      rcases ho.2 with ⟨rfl, h⟩ | ⟨g, cap, cur, rfl, _⟩
      · exact ⟨none, 0, by rw [he]; simp_all⟩
      · exact ⟨_, _, he⟩
    have C41 := Lib.hid (fun W (k : Kp [] W0 W) => (groups_calls v W (hv0.kp k) (by omega)).mono fun e w' ⟨u, h, ho, q⟩ => (⟨h0 u ho h, k.trans q⟩ : (∃ A c, e = Ending.returned (.slice A (groupsP (stepsL 1000 1 v.n)).length c)) ∧ Kp [] W0 w'))
    have hsz := sizes ht
    have hdp2 := depths ht
    have hpar := parts_right ht
    have HS := Lib.hid hsz
    have HD := Lib.hid hdp2
    have HP := Lib.hid hpar
    have HST := Lib.hid hst
    have HT := Lib.hid ht
    have HL := Lib.hid hlen
    obtain ⟨SN, hSN⟩ : ∃ SN : Nat, SN = (stepsL 1000 1 v.n).length := ⟨_, rfl⟩
    obtain ⟨DN, hDN⟩ : ∃ DN, DN = depthP 1001 v.n := ⟨_, rfl⟩
    obtain ⟨CN, hCN⟩ : ∃ CN, CN = checkV v.n := ⟨_, rfl⟩
    obtain ⟨GN, hGN⟩ : ∃ GN : Nat, GN = (groupsP (stepsL 1000 1 v.n)).length := ⟨_, rfl⟩
    rw [← hSN] at C38
    rw [← hDN] at C39
    rw [← hCN] at C24
    rw [← hGN] at C41
    replace hSN := Lib.hid hSN
    replace hDN := Lib.hid hDN
    replace hCN := Lib.hid hCN
    replace hGN := Lib.hid hGN
    have HG7 := Lib.hid hv0
    clear hsz hdp2 hpar hst ht hlen hg hdp h0 hv0
    obtain ⟨⟨kd, set, num, nm, mn, mx_, lz, subs⟩, A1, c1, A7, c7⟩ := v
    dsimp only [NV.val, NV.cells] at hb kk CG C38 C39 C24 C41 ⊢
    replace hW0 := Lib.hid hW0
    go_enter Try.func8, Try.ntmps8
    go_wp2_with (first | (go_at_call 32; refine (CW.out _ kk).mono ?_; clear CW; rintro e w4 ⟨rfl, kk⟩; have z0 : w4.cell? ⟨w.heap.size, 0, none⟩ = some (.int .i64 kd) := cellB (kblk kk hb) 0; have z1 : w4.cell? ⟨w.heap.size, 1, none⟩ = some (.slice A1 set.length c1) := cellB (kblk kk hb) 1; have z2 : w4.cell? ⟨w.heap.size, 2, none⟩ = some (.int .i64 num) := cellB (kblk kk hb) 2; have z3 : w4.cell? ⟨w.heap.size, 3, none⟩ = some (.string nm) := cellB (kblk kk hb) 3; have z4 : w4.cell? ⟨w.heap.size, 4, none⟩ = some (.int .i64 mn) := cellB (kblk kk hb) 4; have z5 : w4.cell? ⟨w.heap.size, 5, none⟩ = some (.int .i64 mx_) := cellB (kblk kk hb) 5; have z6 : w4.cell? ⟨w.heap.size, 6, none⟩ = some (.bool lz) := cellB (kblk kk hb) 6; have z7 : w4.cell? ⟨w.heap.size, 7, none⟩ = some (.slice A7 subs.length c7) := cellB (kblk kk hb) 7) | (go_at_call 31; refine (CG.out _ kk).mono ?_; clear CG; rintro e w4 ⟨rfl, kk⟩; have z0 : w4.cell? ⟨w.heap.size, 0, none⟩ = some (.int .i64 kd) := cellB (kblk kk hb) 0; have z1 : w4.cell? ⟨w.heap.size, 1, none⟩ = some (.slice A1 set.length c1) := cellB (kblk kk hb) 1; have z2 : w4.cell? ⟨w.heap.size, 2, none⟩ = some (.int .i64 num) := cellB (kblk kk hb) 2; have z3 : w4.cell? ⟨w.heap.size, 3, none⟩ = some (.string nm) := cellB (kblk kk hb) 3; have z4 : w4.cell? ⟨w.heap.size, 4, none⟩ = some (.int .i64 mn) := cellB (kblk kk hb) 4; have z5 : w4.cell? ⟨w.heap.size, 5, none⟩ = some (.int .i64 mx_) := cellB (kblk kk hb) 5; have z6 : w4.cell? ⟨w.heap.size, 6, none⟩ = some (.bool lz) := cellB (kblk kk hb) 6; have z7 : w4.cell? ⟨w.heap.size, 7, none⟩ = some (.slice A7 subs.length c7) := cellB (kblk kk hb) 7))
    have hsl := HG7.out.g7.2.1
    dsimp only at hsl
    go_loopw [3, 4, 5, 15] (fun sv dv fv iv wr => ∃ (k S : Nat) (D : Int) (f : Bool), sv = .int .i64 S ∧ dv = .int .i64 D ∧ fv = .bool f ∧ iv = .int .i64 k ∧ k ≤ subs.length ∧ S ≤ 300 ∧ 0 ≤ D ∧ D ≤ 1001 ∧ Aside0 (S = 1 + ((subs.take k).map fun x => (stepsL 1000 1 x).length).sum) ∧ Aside0 (D = ((subs.take k).map (depthP 1001)).foldl mx 0) ∧ Aside0 (f = true ↔ ∀ x ∈ subs.take k, checkV x = 0) ∧ Aside0 (Kp [] W0 wr)) (fun _ _ _ iv _ => subs.length - (intOf iv).toNat)
    case atStart => exact ⟨0, 1, 0, true, rfl, rfl, rfl, rfl, by omega, by omega, by omega, by omega, ⟨by simp⟩, ⟨by simp⟩, ⟨by simp⟩, ⟨kk⟩⟩
    case round =>
      obtain ⟨k, S, D, f, rfl, rfl, rfl, rfl, hk, hS, hD, hD2, HS1, HD1, HF1, HK⟩ := hrel
      by_cases hlt : k < subs.length
      · have dk : decide ((k : Int) < (subs.length : Int)) = true := decide_eq_true (by omega)
        have hh := HG7.out
        obtain ⟨b, o, rfl, hbl, vs, hvs, hok, hc⟩ := rowOpen hh.g7 (show 0 < subs.length by omega)
        have hvl : vs.length = subs.length := by rw [← show vs.map (·.n) = subs from hvs]; simp
        have hkv : k < vs.length := by omega
        obtain ⟨vk, hvk⟩ : ∃ vk, vk = vs[k] := ⟨_, rfl⟩
        have hsk : subs[k] = vk.n := by have h1 : vs.map (·.n) = subs := hvs; subst h1; rw [hvk]; simp
        have hvok : vk.ok W0 := by rw [hvk]; exact hok _ (List.getElem_mem hkv)
        have hcell : ∀ i u, vk.cells[i]? = some u → wr.cell? ⟨b, o + k * 8 + i, none⟩ = some u := by
          intro i u hu
          rw [hvk] at hu
          exact kcell HK.out (hc k hkv i u hu)
        obtain ⟨W1, hW1⟩ : ∃ W1, W1 = wr.alloc (.cells vk.cells.toArray 25) := ⟨_, rfl⟩
        have k1 : Kp [] wr W1 := by rw [hW1]; exact (Kp.refl [] wr).alloc _
        have hbx : W1.heap[wr.heap.size]? = some (.cells vk.cells.toArray 25 (0, 0)) := by rw [hW1]; exact new_at _ _ _ rfl
        have kx : Kp [] W1 (wr.alloc (.cells vk.cells.toArray 25)) := by rw [hW1]; exact Kp.refl _ _
        have hvok1 := (hvok.kp HK.out).kp k1
        have htx : Thin 40 vk.n := by rw [← hsk]; exact Thin.mono (d := 39) (by omega) (HT.out.2.1 _ (List.getElem_mem hlt))
        have hlx : (stepsL 1000 1 vk.n).length + S ≤ 300 := by
          have e1 := HS.out; have e2 := HST.out; have e3 := HS1.out
          have htk : subs.take (k + 1) = subs.take k ++ [vk.n] := by rw [List.take_succ_eq_append_getElem hlt, hsk]
          have e4 : (subs.map fun x => (stepsL 1000 1 x).length).sum = ((subs.take (k + 1)).map fun x => (stepsL 1000 1 x).length).sum + ((subs.drop (k + 1)).map fun x => (stepsL 1000 1 x).length).sum := by
            rw [← List.sum_append, ← List.map_append, List.take_append_drop]
          rw [htk, List.map_append, List.sum_append] at e4
          simp only [List.map_cons, List.map_nil, List.sum_cons, List.sum_nil] at e4
          try dsimp only at e1 e2
          omega
        have X38 := Lib.hid (fun W (k : Kp [] W1 W) => (size_calls vk W (hvok1.kp k) (by omega)).mono fun e w' ⟨h, q⟩ => (⟨h, k.trans q⟩ : _ ∧ Kp [] W1 w'))
        have X39 := Lib.hid (fun W (k : Kp [] W1 W) => (depth_calls vk W (hvok1.kp k) htx).mono fun e w' ⟨h, q⟩ => (⟨h, k.trans q⟩ : _ ∧ Kp [] W1 w'))
        have X24 := Lib.hid (fun W (k : Kp [] W1 W) => (check_calls vk W (hvok1.kp k) htx (by omega)).mono fun e w' ⟨h, q⟩ => (⟨h, k.trans q⟩ : _ ∧ Kp [] W1 w'))
        obtain ⟨SX, hSX⟩ : ∃ SX : Nat, SX = (stepsL 1000 1 vk.n).length := ⟨_, rfl⟩
        obtain ⟨DX, hDX⟩ : ∃ DX, DX = depthP 1001 vk.n := ⟨_, rfl⟩
        obtain ⟨CX, hCX⟩ : ∃ CX, CX = checkV vk.n := ⟨_, rfl⟩
        rw [← hSX] at X38 hlx
        rw [← hDX] at X39
        rw [← hCX] at X24
        have hdx := depthP_le 1001 vk.n
        rw [← hDX] at hdx
        replace hSX := Lib.hid hSX
        replace hDX := Lib.hid hDX
        replace hCX := Lib.hid hCX
        replace hbx := Lib.hid hbx
        replace hW1 := Lib.hid hW1
        replace hsk := Lib.hid hsk
        replace k1 := Lib.hid k1
        obtain ⟨⟨kd', set', num', nm', mn', mx', lz', subs'⟩, A1', c1', A7', c7'⟩ := vk
        dsimp only [NV.val, NV.cells] at hcell kx X38 X39 X24
        have z0 := hcell 0 _ rfl; have z1 := hcell 1 _ rfl; have z2 := hcell 2 _ rfl; have z3 := hcell 3 _ rfl
        have z4 := hcell 4 _ rfl; have z5 := hcell 5 _ rfl; have z6 := hcell 6 _ rfl; have z7 := hcell 7 _ rfl
        simp only [Nat.add_zero] at z0
        clear hcell hvk hvok1 hvok htx hc hok hvs hh
        have sOf : ∀ W, Kp [] W1 W → (Kp [] W1 W ∧ W.cell? ⟨wr.heap.size, 0, none⟩ = some (Value.int .i64 kd') ∧ W.cell? ⟨wr.heap.size, 1, none⟩ = some (Value.slice A1' set'.length c1') ∧ W.cell? ⟨wr.heap.size, 2, none⟩ = some (Value.int .i64 num') ∧ W.cell? ⟨wr.heap.size, 3, none⟩ = some (Value.string nm') ∧ W.cell? ⟨wr.heap.size, 4, none⟩ = some (Value.int .i64 mn') ∧ W.cell? ⟨wr.heap.size, 5, none⟩ = some (Value.int .i64 mx') ∧ W.cell? ⟨wr.heap.size, 6, none⟩ = some (Value.bool lz') ∧ W.cell? ⟨wr.heap.size, 7, none⟩ = some (Value.slice A7' subs'.length c7')) := fun W k => ⟨k, cellB (kblk k hbx.out) 0, cellB (kblk k hbx.out) 1, cellB (kblk k hbx.out) 2, cellB (kblk k hbx.out) 3, cellB (kblk k hbx.out) 4, cellB (kblk k hbx.out) 5, cellB (kblk k hbx.out) 6, cellB (kblk k hbx.out) 7⟩
        have Y38 := Lib.hid (fun W (h : (Kp [] W1 W ∧ W.cell? ⟨wr.heap.size, 0, none⟩ = some (Value.int .i64 kd') ∧ W.cell? ⟨wr.heap.size, 1, none⟩ = some (Value.slice A1' set'.length c1') ∧ W.cell? ⟨wr.heap.size, 2, none⟩ = some (Value.int .i64 num') ∧ W.cell? ⟨wr.heap.size, 3, none⟩ = some (Value.string nm') ∧ W.cell? ⟨wr.heap.size, 4, none⟩ = some (Value.int .i64 mn') ∧ W.cell? ⟨wr.heap.size, 5, none⟩ = some (Value.int .i64 mx') ∧ W.cell? ⟨wr.heap.size, 6, none⟩ = some (Value.bool lz') ∧ W.cell? ⟨wr.heap.size, 7, none⟩ = some (Value.slice A7' subs'.length c7'))) => (X38.out W h.1).mono (fun e (w' : World) ⟨h, q⟩ => (⟨h, sOf _ q⟩ : _ ∧ (Kp [] W1 w' ∧ w'.cell? ⟨wr.heap.size, 0, none⟩ = some (Value.int .i64 kd') ∧ w'.cell? ⟨wr.heap.size, 1, none⟩ = some (Value.slice A1' set'.length c1') ∧ w'.cell? ⟨wr.heap.size, 2, none⟩ = some (Value.int .i64 num') ∧ w'.cell? ⟨wr.heap.size, 3, none⟩ = some (Value.string nm') ∧ w'.cell? ⟨wr.heap.size, 4, none⟩ = some (Value.int .i64 mn') ∧ w'.cell? ⟨wr.heap.size, 5, none⟩ = some (Value.int .i64 mx') ∧ w'.cell? ⟨wr.heap.size, 6, none⟩ = some (Value.bool lz') ∧ w'.cell? ⟨wr.heap.size, 7, none⟩ = some (Value.slice A7' subs'.length c7')))))
        have Y39 := Lib.hid (fun W (h : (Kp [] W1 W ∧ W.cell? ⟨wr.heap.size, 0, none⟩ = some (Value.int .i64 kd') ∧ W.cell? ⟨wr.heap.size, 1, none⟩ = some (Value.slice A1' set'.length c1') ∧ W.cell? ⟨wr.heap.size, 2, none⟩ = some (Value.int .i64 num') ∧ W.cell? ⟨wr.heap.size, 3, none⟩ = some (Value.string nm') ∧ W.cell? ⟨wr.heap.size, 4, none⟩ = some (Value.int .i64 mn') ∧ W.cell? ⟨wr.heap.size, 5, none⟩ = some (Value.int .i64 mx') ∧ W.cell? ⟨wr.heap.size, 6, none⟩ = some (Value.bool lz') ∧ W.cell? ⟨wr.heap.size, 7, none⟩ = some (Value.slice A7' subs'.length c7'))) => (X39.out W h.1).mono (fun e (w' : World) ⟨h, q⟩ => (⟨h, sOf _ q⟩ : _ ∧ (Kp [] W1 w' ∧ w'.cell? ⟨wr.heap.size, 0, none⟩ = some (Value.int .i64 kd') ∧ w'.cell? ⟨wr.heap.size, 1, none⟩ = some (Value.slice A1' set'.length c1') ∧ w'.cell? ⟨wr.heap.size, 2, none⟩ = some (Value.int .i64 num') ∧ w'.cell? ⟨wr.heap.size, 3, none⟩ = some (Value.string nm') ∧ w'.cell? ⟨wr.heap.size, 4, none⟩ = some (Value.int .i64 mn') ∧ w'.cell? ⟨wr.heap.size, 5, none⟩ = some (Value.int .i64 mx') ∧ w'.cell? ⟨wr.heap.size, 6, none⟩ = some (Value.bool lz') ∧ w'.cell? ⟨wr.heap.size, 7, none⟩ = some (Value.slice A7' subs'.length c7')))))
        have s0 := sOf _ kx
        have hw : IntKind.i64.wrap ((S : Int) + (SX : Int)) = (S : Int) + (SX : Int) := IntWalk.i64_in _ (by omega)
        replace sOf := Lib.hid sOf
        clear X38 X39 kx
        go_wp2_with fail
        go_region_held3 (fun (w' : World) => (Kp [] W1 w' ∧ w'.cell? ⟨wr.heap.size, 0, none⟩ = some (Value.int .i64 kd') ∧ w'.cell? ⟨wr.heap.size, 1, none⟩ = some (Value.slice A1' set'.length c1') ∧ w'.cell? ⟨wr.heap.size, 2, none⟩ = some (Value.int .i64 num') ∧ w'.cell? ⟨wr.heap.size, 3, none⟩ = some (Value.string nm') ∧ w'.cell? ⟨wr.heap.size, 4, none⟩ = some (Value.int .i64 mn') ∧ w'.cell? ⟨wr.heap.size, 5, none⟩ = some (Value.int .i64 mx') ∧ w'.cell? ⟨wr.heap.size, 6, none⟩ = some (Value.bool lz') ∧ w'.cell? ⟨wr.heap.size, 7, none⟩ = some (Value.slice A7' subs'.length c7'))) (first | assumption | exact ⟨Kp.drew (And.left (by assumption)), And.right (by assumption)⟩)
          (first
           | (go_at_call 38; refine (Y38.out _ (by assumption)).mono ?_; clear Y38; rintro e wA ⟨rfl, sA⟩)
           | (go_at_call 39; refine (Y39.out _ (by assumption)).mono ?_; clear Y39; rintro e wB ⟨rfl, sB⟩))
        obtain ⟨kB, y0, y1, y2, y3, y4, y5, y6, y7⟩ := sB
        clear sA s0 hw
        obtain ⟨D', hD'⟩ : ∃ D', D' = (if D < DX then DX else D) := ⟨_, rfl⟩
        rw [← hD']
        have hDm : D' = mx D DX := hD'
        have hD0 : 0 ≤ D' ∧ D' ≤ 1001 := by rw [hD']; split <;> omega
        have fin : ∀ (W : World) (g : Bool), (g = true ↔ f = true ∧ CX = 0) → Kp [] W1 W → ∃ (k_1 S_1 : Nat) (D_1 : Int) (f_1 : Bool), Value.int .i64 ((S : Int) + (SX : Int)) = .int .i64 S_1 ∧ Value.int .i64 D' = .int .i64 D_1 ∧ Value.bool g = .bool f_1 ∧ Value.int .i64 ((k : Int) + 1) = .int .i64 k_1 ∧ k_1 ≤ subs.length ∧ S_1 ≤ 300 ∧ 0 ≤ D_1 ∧ D_1 ≤ 1001 ∧ Aside0 (S_1 = 1 + ((subs.take k_1).map fun x => (stepsL 1000 1 x).length).sum) ∧ Aside0 (D_1 = ((subs.take k_1).map (depthP 1001)).foldl mx 0) ∧ Aside0 (f_1 = true ↔ ∀ x ∈ subs.take k_1, checkV x = 0) ∧ Aside0 (Kp [] W0 W) := by
          intro W g hg kW
          have htk : subs.take (k + 1) = subs.take k ++ [⟨kd', set', num', nm', mn', mx', lz', subs'⟩] := by rw [List.take_succ_eq_append_getElem hlt, hsk.out]
          refine ⟨k + 1, S + SX, D', g, by simp, rfl, rfl, by simp, by omega, by omega, hD0.1, hD0.2, ⟨?_⟩, ⟨?_⟩, ⟨?_⟩, ⟨(HK.out.trans k1.out).trans kW⟩⟩
          · rw [htk, List.map_append, List.sum_append, HS1.out, hSX.out]; simp; omega
          · rw [htk, List.map_append, List.foldl_append, ← HD1.out, hDm, hDX.out]; rfl
          · rw [htk, hg, HF1.out, hCX.out]
            constructor
            · rintro ⟨a, b⟩ x hx
              rcases List.mem_append.1 hx with hx | hx
              · exact a x hx
              · simp at hx; subst hx; exact b
            · intro a
              exact ⟨fun x hx => a x (List.mem_append_left _ hx), a _ (List.mem_append_right _ (by simp))⟩
        have FIN := Lib.hid fin
        clear fin hD' hDm
        cases f
        · go_wp2_with fail
          go_round
          case rel => exact FIN.out _ false (by simp) kB
          case measure => simp [intOf]; omega
        · go_wp2_with (go_at_call 24; refine (X24.out _ kB).mono ?_; clear X24; rintro e w4 ⟨rfl, k4⟩)
          go_round
          case rel => exact FIN.out _ _ (by simp) k4
          case measure => simp [intOf]; omega
      · obtain rfl : k = subs.length := by omega
        have dk : decide ((subs.length : Int) < (subs.length : Int)) = false := decide_eq_false (by omega)
        have e1 : SN = S := by
          have a := HS.out; have b := HS1.out
          rw [List.take_length] at b
          rw [hSN.out, b]; exact a
        have e2 : DN = D + 1 := by
          have a := HD.out; have b := HD1.out
          rw [List.take_length] at b
          rw [hDN.out, b]; exact a
        have e3 : CN = 0 → GN = 0 → f = true := by
          intro h1 h2
          have b := HF1.out
          rw [List.take_length] at b
          refine b.2 (HP.out (by rw [← hCN.out]; exact h1) (List.eq_nil_of_length_eq_zero (by rw [← hGN.out]; exact h2)))
        subst e1 e2
        have k9 := HK.out
        have z0 : wr.cell? ⟨w.heap.size, 0, none⟩ = some (Value.int .i64 kd) := cellB (kblk HK.out hb) 0
        have z1 : wr.cell? ⟨w.heap.size, 1, none⟩ = some (Value.slice A1 set.length c1) := cellB (kblk HK.out hb) 1
        have z2 : wr.cell? ⟨w.heap.size, 2, none⟩ = some (Value.int .i64 num) := cellB (kblk HK.out hb) 2
        have z3 : wr.cell? ⟨w.heap.size, 3, none⟩ = some (Value.string nm) := cellB (kblk HK.out hb) 3
        have z4 : wr.cell? ⟨w.heap.size, 4, none⟩ = some (Value.int .i64 mn) := cellB (kblk HK.out hb) 4
        have z5 : wr.cell? ⟨w.heap.size, 5, none⟩ = some (Value.int .i64 mx_) := cellB (kblk HK.out hb) 5
        have z6 : wr.cell? ⟨w.heap.size, 6, none⟩ = some (Value.bool lz) := cellB (kblk HK.out hb) 6
        have z7 : wr.cell? ⟨w.heap.size, 7, none⟩ = some (Value.slice A7 subs.length c7) := cellB (kblk HK.out hb) 7
        have hw : wrap64 (D + 1) = D + 1 := by unfold wrap64; omega
        by_cases hc0 : CN = 0
        · by_cases hg0 : GN = 0
          · have hf := e3 hc0 hg0
            subst hc0 hg0 hf
            clear e3
            go_wp2_with (first | (go_at_call 38; refine (C38.out _ k9).mono ?_; clear C38; rintro e w4 ⟨rfl, k9⟩; have z0 : w4.cell? ⟨w.heap.size, 0, none⟩ = some (Value.int .i64 kd) := cellB (kblk k9 hb) 0; have z1 : w4.cell? ⟨w.heap.size, 1, none⟩ = some (Value.slice A1 set.length c1) := cellB (kblk k9 hb) 1; have z2 : w4.cell? ⟨w.heap.size, 2, none⟩ = some (Value.int .i64 num) := cellB (kblk k9 hb) 2; have z3 : w4.cell? ⟨w.heap.size, 3, none⟩ = some (Value.string nm) := cellB (kblk k9 hb) 3; have z4 : w4.cell? ⟨w.heap.size, 4, none⟩ = some (Value.int .i64 mn) := cellB (kblk k9 hb) 4; have z5 : w4.cell? ⟨w.heap.size, 5, none⟩ = some (Value.int .i64 mx_) := cellB (kblk k9 hb) 5; have z6 : w4.cell? ⟨w.heap.size, 6, none⟩ = some (Value.bool lz) := cellB (kblk k9 hb) 6; have z7 : w4.cell? ⟨w.heap.size, 7, none⟩ = some (Value.slice A7 subs.length c7) := cellB (kblk k9 hb) 7) | (go_at_call 39; refine (C39.out _ k9).mono ?_; clear C39; rintro e w4 ⟨rfl, k9⟩; have z0 : w4.cell? ⟨w.heap.size, 0, none⟩ = some (Value.int .i64 kd) := cellB (kblk k9 hb) 0; have z1 : w4.cell? ⟨w.heap.size, 1, none⟩ = some (Value.slice A1 set.length c1) := cellB (kblk k9 hb) 1; have z2 : w4.cell? ⟨w.heap.size, 2, none⟩ = some (Value.int .i64 num) := cellB (kblk k9 hb) 2; have z3 : w4.cell? ⟨w.heap.size, 3, none⟩ = some (Value.string nm) := cellB (kblk k9 hb) 3; have z4 : w4.cell? ⟨w.heap.size, 4, none⟩ = some (Value.int .i64 mn) := cellB (kblk k9 hb) 4; have z5 : w4.cell? ⟨w.heap.size, 5, none⟩ = some (Value.int .i64 mx_) := cellB (kblk k9 hb) 5; have z6 : w4.cell? ⟨w.heap.size, 6, none⟩ = some (Value.bool lz) := cellB (kblk k9 hb) 6; have z7 : w4.cell? ⟨w.heap.size, 7, none⟩ = some (Value.slice A7 subs.length c7) := cellB (kblk k9 hb) 7) | (go_at_call 24; refine (C24.out _ k9).mono ?_; clear C24; rintro e w4 ⟨rfl, k9⟩; have z0 : w4.cell? ⟨w.heap.size, 0, none⟩ = some (Value.int .i64 kd) := cellB (kblk k9 hb) 0; have z1 : w4.cell? ⟨w.heap.size, 1, none⟩ = some (Value.slice A1 set.length c1) := cellB (kblk k9 hb) 1; have z2 : w4.cell? ⟨w.heap.size, 2, none⟩ = some (Value.int .i64 num) := cellB (kblk k9 hb) 2; have z3 : w4.cell? ⟨w.heap.size, 3, none⟩ = some (Value.string nm) := cellB (kblk k9 hb) 3; have z4 : w4.cell? ⟨w.heap.size, 4, none⟩ = some (Value.int .i64 mn) := cellB (kblk k9 hb) 4; have z5 : w4.cell? ⟨w.heap.size, 5, none⟩ = some (Value.int .i64 mx_) := cellB (kblk k9 hb) 5; have z6 : w4.cell? ⟨w.heap.size, 6, none⟩ = some (Value.bool lz) := cellB (kblk k9 hb) 6; have z7 : w4.cell? ⟨w.heap.size, 7, none⟩ = some (Value.slice A7 subs.length c7) := cellB (kblk k9 hb) 7) | (go_at_call 41; refine (C41.out _ k9).mono ?_; clear C41; rintro e w4 ⟨⟨Ag, cg, rfl⟩, k9⟩; have z0 : w4.cell? ⟨w.heap.size, 0, none⟩ = some (Value.int .i64 kd) := cellB (kblk k9 hb) 0; have z1 : w4.cell? ⟨w.heap.size, 1, none⟩ = some (Value.slice A1 set.length c1) := cellB (kblk k9 hb) 1; have z2 : w4.cell? ⟨w.heap.size, 2, none⟩ = some (Value.int .i64 num) := cellB (kblk k9 hb) 2; have z3 : w4.cell? ⟨w.heap.size, 3, none⟩ = some (Value.string nm) := cellB (kblk k9 hb) 3; have z4 : w4.cell? ⟨w.heap.size, 4, none⟩ = some (Value.int .i64 mn) := cellB (kblk k9 hb) 4; have z5 : w4.cell? ⟨w.heap.size, 5, none⟩ = some (Value.int .i64 mx_) := cellB (kblk k9 hb) 5; have z6 : w4.cell? ⟨w.heap.size, 6, none⟩ = some (Value.bool lz) := cellB (kblk k9 hb) 6; have z7 : w4.cell? ⟨w.heap.size, 7, none⟩ = some (Value.slice A7 subs.length c7) := cellB (kblk k9 hb) 7))
            go_ret
            exact ⟨rfl, bel _ k9⟩
          · have dg : decide ((0 : Int) < (GN : Int)) = true := decide_eq_true (by omega)
            subst hc0
            clear e3
            go_wp2_with (first | (go_at_call 38; refine (C38.out _ k9).mono ?_; clear C38; rintro e w4 ⟨rfl, k9⟩; have z0 : w4.cell? ⟨w.heap.size, 0, none⟩ = some (Value.int .i64 kd) := cellB (kblk k9 hb) 0; have z1 : w4.cell? ⟨w.heap.size, 1, none⟩ = some (Value.slice A1 set.length c1) := cellB (kblk k9 hb) 1; have z2 : w4.cell? ⟨w.heap.size, 2, none⟩ = some (Value.int .i64 num) := cellB (kblk k9 hb) 2; have z3 : w4.cell? ⟨w.heap.size, 3, none⟩ = some (Value.string nm) := cellB (kblk k9 hb) 3; have z4 : w4.cell? ⟨w.heap.size, 4, none⟩ = some (Value.int .i64 mn) := cellB (kblk k9 hb) 4; have z5 : w4.cell? ⟨w.heap.size, 5, none⟩ = some (Value.int .i64 mx_) := cellB (kblk k9 hb) 5; have z6 : w4.cell? ⟨w.heap.size, 6, none⟩ = some (Value.bool lz) := cellB (kblk k9 hb) 6; have z7 : w4.cell? ⟨w.heap.size, 7, none⟩ = some (Value.slice A7 subs.length c7) := cellB (kblk k9 hb) 7) | (go_at_call 39; refine (C39.out _ k9).mono ?_; clear C39; rintro e w4 ⟨rfl, k9⟩; have z0 : w4.cell? ⟨w.heap.size, 0, none⟩ = some (Value.int .i64 kd) := cellB (kblk k9 hb) 0; have z1 : w4.cell? ⟨w.heap.size, 1, none⟩ = some (Value.slice A1 set.length c1) := cellB (kblk k9 hb) 1; have z2 : w4.cell? ⟨w.heap.size, 2, none⟩ = some (Value.int .i64 num) := cellB (kblk k9 hb) 2; have z3 : w4.cell? ⟨w.heap.size, 3, none⟩ = some (Value.string nm) := cellB (kblk k9 hb) 3; have z4 : w4.cell? ⟨w.heap.size, 4, none⟩ = some (Value.int .i64 mn) := cellB (kblk k9 hb) 4; have z5 : w4.cell? ⟨w.heap.size, 5, none⟩ = some (Value.int .i64 mx_) := cellB (kblk k9 hb) 5; have z6 : w4.cell? ⟨w.heap.size, 6, none⟩ = some (Value.bool lz) := cellB (kblk k9 hb) 6; have z7 : w4.cell? ⟨w.heap.size, 7, none⟩ = some (Value.slice A7 subs.length c7) := cellB (kblk k9 hb) 7) | (go_at_call 24; refine (C24.out _ k9).mono ?_; clear C24; rintro e w4 ⟨rfl, k9⟩; have z0 : w4.cell? ⟨w.heap.size, 0, none⟩ = some (Value.int .i64 kd) := cellB (kblk k9 hb) 0; have z1 : w4.cell? ⟨w.heap.size, 1, none⟩ = some (Value.slice A1 set.length c1) := cellB (kblk k9 hb) 1; have z2 : w4.cell? ⟨w.heap.size, 2, none⟩ = some (Value.int .i64 num) := cellB (kblk k9 hb) 2; have z3 : w4.cell? ⟨w.heap.size, 3, none⟩ = some (Value.string nm) := cellB (kblk k9 hb) 3; have z4 : w4.cell? ⟨w.heap.size, 4, none⟩ = some (Value.int .i64 mn) := cellB (kblk k9 hb) 4; have z5 : w4.cell? ⟨w.heap.size, 5, none⟩ = some (Value.int .i64 mx_) := cellB (kblk k9 hb) 5; have z6 : w4.cell? ⟨w.heap.size, 6, none⟩ = some (Value.bool lz) := cellB (kblk k9 hb) 6; have z7 : w4.cell? ⟨w.heap.size, 7, none⟩ = some (Value.slice A7 subs.length c7) := cellB (kblk k9 hb) 7) | (go_at_call 41; refine (C41.out _ k9).mono ?_; clear C41; rintro e w4 ⟨⟨Ag, cg, rfl⟩, k9⟩; have z0 : w4.cell? ⟨w.heap.size, 0, none⟩ = some (Value.int .i64 kd) := cellB (kblk k9 hb) 0; have z1 : w4.cell? ⟨w.heap.size, 1, none⟩ = some (Value.slice A1 set.length c1) := cellB (kblk k9 hb) 1; have z2 : w4.cell? ⟨w.heap.size, 2, none⟩ = some (Value.int .i64 num) := cellB (kblk k9 hb) 2; have z3 : w4.cell? ⟨w.heap.size, 3, none⟩ = some (Value.string nm) := cellB (kblk k9 hb) 3; have z4 : w4.cell? ⟨w.heap.size, 4, none⟩ = some (Value.int .i64 mn) := cellB (kblk k9 hb) 4; have z5 : w4.cell? ⟨w.heap.size, 5, none⟩ = some (Value.int .i64 mx_) := cellB (kblk k9 hb) 5; have z6 : w4.cell? ⟨w.heap.size, 6, none⟩ = some (Value.bool lz) := cellB (kblk k9 hb) 6; have z7 : w4.cell? ⟨w.heap.size, 7, none⟩ = some (Value.slice A7 subs.length c7) := cellB (kblk k9 hb) 7))
            go_ret
            exact ⟨rfl, bel _ k9⟩
        · clear e3
          go_wp2_with (first | (go_at_call 38; refine (C38.out _ k9).mono ?_; clear C38; rintro e w4 ⟨rfl, k9⟩; have z0 : w4.cell? ⟨w.heap.size, 0, none⟩ = some (Value.int .i64 kd) := cellB (kblk k9 hb) 0; have z1 : w4.cell? ⟨w.heap.size, 1, none⟩ = some (Value.slice A1 set.length c1) := cellB (kblk k9 hb) 1; have z2 : w4.cell? ⟨w.heap.size, 2, none⟩ = some (Value.int .i64 num) := cellB (kblk k9 hb) 2; have z3 : w4.cell? ⟨w.heap.size, 3, none⟩ = some (Value.string nm) := cellB (kblk k9 hb) 3; have z4 : w4.cell? ⟨w.heap.size, 4, none⟩ = some (Value.int .i64 mn) := cellB (kblk k9 hb) 4; have z5 : w4.cell? ⟨w.heap.size, 5, none⟩ = some (Value.int .i64 mx_) := cellB (kblk k9 hb) 5; have z6 : w4.cell? ⟨w.heap.size, 6, none⟩ = some (Value.bool lz) := cellB (kblk k9 hb) 6; have z7 : w4.cell? ⟨w.heap.size, 7, none⟩ = some (Value.slice A7 subs.length c7) := cellB (kblk k9 hb) 7) | (go_at_call 39; refine (C39.out _ k9).mono ?_; clear C39; rintro e w4 ⟨rfl, k9⟩; have z0 : w4.cell? ⟨w.heap.size, 0, none⟩ = some (Value.int .i64 kd) := cellB (kblk k9 hb) 0; have z1 : w4.cell? ⟨w.heap.size, 1, none⟩ = some (Value.slice A1 set.length c1) := cellB (kblk k9 hb) 1; have z2 : w4.cell? ⟨w.heap.size, 2, none⟩ = some (Value.int .i64 num) := cellB (kblk k9 hb) 2; have z3 : w4.cell? ⟨w.heap.size, 3, none⟩ = some (Value.string nm) := cellB (kblk k9 hb) 3; have z4 : w4.cell? ⟨w.heap.size, 4, none⟩ = some (Value.int .i64 mn) := cellB (kblk k9 hb) 4; have z5 : w4.cell? ⟨w.heap.size, 5, none⟩ = some (Value.int .i64 mx_) := cellB (kblk k9 hb) 5; have z6 : w4.cell? ⟨w.heap.size, 6, none⟩ = some (Value.bool lz) := cellB (kblk k9 hb) 6; have z7 : w4.cell? ⟨w.heap.size, 7, none⟩ = some (Value.slice A7 subs.length c7) := cellB (kblk k9 hb) 7) | (go_at_call 24; refine (C24.out _ k9).mono ?_; clear C24; rintro e w4 ⟨rfl, k9⟩; have z0 : w4.cell? ⟨w.heap.size, 0, none⟩ = some (Value.int .i64 kd) := cellB (kblk k9 hb) 0; have z1 : w4.cell? ⟨w.heap.size, 1, none⟩ = some (Value.slice A1 set.length c1) := cellB (kblk k9 hb) 1; have z2 : w4.cell? ⟨w.heap.size, 2, none⟩ = some (Value.int .i64 num) := cellB (kblk k9 hb) 2; have z3 : w4.cell? ⟨w.heap.size, 3, none⟩ = some (Value.string nm) := cellB (kblk k9 hb) 3; have z4 : w4.cell? ⟨w.heap.size, 4, none⟩ = some (Value.int .i64 mn) := cellB (kblk k9 hb) 4; have z5 : w4.cell? ⟨w.heap.size, 5, none⟩ = some (Value.int .i64 mx_) := cellB (kblk k9 hb) 5; have z6 : w4.cell? ⟨w.heap.size, 6, none⟩ = some (Value.bool lz) := cellB (kblk k9 hb) 6; have z7 : w4.cell? ⟨w.heap.size, 7, none⟩ = some (Value.slice A7 subs.length c7) := cellB (kblk k9 hb) 7) | (go_at_call 41; refine (C41.out _ k9).mono ?_; clear C41; rintro e w4 ⟨⟨Ag, cg, rfl⟩, k9⟩; have z0 : w4.cell? ⟨w.heap.size, 0, none⟩ = some (Value.int .i64 kd) := cellB (kblk k9 hb) 0; have z1 : w4.cell? ⟨w.heap.size, 1, none⟩ = some (Value.slice A1 set.length c1) := cellB (kblk k9 hb) 1; have z2 : w4.cell? ⟨w.heap.size, 2, none⟩ = some (Value.int .i64 num) := cellB (kblk k9 hb) 2; have z3 : w4.cell? ⟨w.heap.size, 3, none⟩ = some (Value.string nm) := cellB (kblk k9 hb) 3; have z4 : w4.cell? ⟨w.heap.size, 4, none⟩ = some (Value.int .i64 mn) := cellB (kblk k9 hb) 4; have z5 : w4.cell? ⟨w.heap.size, 5, none⟩ = some (Value.int .i64 mx_) := cellB (kblk k9 hb) 5; have z6 : w4.cell? ⟨w.heap.size, 6, none⟩ = some (Value.bool lz) := cellB (kblk k9 hb) 6; have z7 : w4.cell? ⟨w.heap.size, 7, none⟩ = some (Value.slice A7 subs.length c7) := cellB (kblk k9 hb) 7))
          go_ret
          exact ⟨rfl, bel _ k9⟩
theorem parts_row (W : World) (x : NV) (h : x.ok W) : Calls Try.prog 8 #[x.val] W fun e w' => e = .returned (.bool true) ∧ Below W.heap.size W w' := parts_walk x W h
end Go.Proofs.Ytojlhlepneefoaa
