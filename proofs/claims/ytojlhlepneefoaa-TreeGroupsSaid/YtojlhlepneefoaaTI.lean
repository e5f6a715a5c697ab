/- The law TreeGroups, walked. -/
import Derived.Test.YtojlhlepneefoaaTH
import Derived.Deep.RegionLaw
import Derived.Deep.AppendLies
namespace Go.Proofs.Ytojlhlepneefoaa
open Go.RowKit PAll Go.Proofs.YtojlhlepneefoaaW.PrintWords Go.Proofs.YtojlhlepneefoaaW.PrintLast Go.Proofs.YtojlhlepneefoaaW.PrintMore
open Go.Shelf
set_option linter.unusedVariables false
set_option linter.unusedSimpArgs false

/-- What the loop over the names keeps. -/
def TgI (W0 : World) (B : Nat) (ns : List ByteArray) (fv tv iv : Value) (wr : World) : Prop :=
  ∃ (j : Nat) (vs : List NV) (u : Value) (f t : Bool), iv = .int .i64 j ∧ fv = .bool f ∧ tv = .bool t ∧ j ≤ ns.length ∧ vs.map (·.n) = ((grs ns).take j).map (fun p => grN p.1 p.2) ∧ GRow B vs u wr ∧ Below W0.heap.size W0 wr ∧
    (f = true ↔ ∀ s ∈ ns.take j, fineB s = true) ∧ (t = true ↔ TwiceIn ns j)
theorem growBox {B : Nat} {vs : List NV} {u : Value} {wr w3 w5 : World} {a b : Obj} (h : GRow B vs u wr) (k3 : Kp [] wr w3) (hg : ((w3.alloc a).alloc b).grownBy w5 u.ownBlock) : w5.heap[B]? = some (.cells (catC u) 25 (0, 0)) := by
  have hBl := ltB h.box
  have := k3.size
  exact (hg.block B (by simp; omega) (fun e => by have := (h.row.lt B e.symm).1; omega)).trans ((Below.heap_alloc _ _ _ (by simp; omega)).trans ((Below.heap_alloc _ _ _ (by omega)).trans ((k3.block B hBl (by simp)).trans h.box)))
def TgS (W0 : World) (B : Nat) (ns : List ByteArray) (j : Nat) (wr : World) : Prop := ∃ (vs : List NV) (u : Value), vs.map (·.n) = ((grs ns).take j).map (fun p => grN p.1 p.2) ∧ GRow B vs u wr ∧ Below W0.heap.size W0 wr
theorem belowGrown2 {W2 wr w3 w1 : World} {a b : Obj} {r : Option Nat} (h : Below W2.heap.size W2 wr) (k3 : Kp [] wr w3) (hg : ((w3.alloc a).alloc b).grownBy w1 r) (hr : ∀ k, r = some k → W2.heap.size ≤ k) : Below W2.heap.size W2 w1 := by
  have hh := ((h.trans (k3.bel.mono h.size)).alloc (Nat.le_trans h.size k3.size) a).alloc (by have := h.size; have := k3.size; simp; omega) b
  exact ⟨hg.os.trans hh.os, hg.tape.trans hh.tape, hg.output.trans hh.output, Nat.le_trans hh.size hg.size, fun i hi => (hg.block i (Nat.lt_of_lt_of_le hi hh.size) (fun e => by have := hr i e.symm; omega)).trans (hh.block i hi)⟩
theorem same_row (u1 : Value) (A2 : Option Addr) (c2 : Nat) (ns : List ByteArray) (hl : ns.length ≤ 1000000) (b1 : Nat) (w : World) (h1 : w.ownsRow b1 9 1 u1 ns.length (ns.map .string)) (l2 : ns.length ≤ c2) (g2 : Kd.C Kd.string w A2 ns.length ns) : Calls Try.prog 42 #[u1, .slice A2 ns.length c2] w fun e w' => e = .returned (.bool true) ∧ Kp [] w w' := by
  obtain ⟨A1, c1, rfl, l1, g1⟩ := ownStr h1 (by omega)
  exact (burinbook_SameTexts.calls _ A1 c1 ns A2 c2 ns true w g1 l1 g2 l2 (same_f ns (by omega))).mono fun e w' ⟨h, q⟩ => ⟨h, by first | exact Kp.ofDrawn q | exact Kp.ofBelow q⟩
theorem set_map (ns : List ByteArray) (k : Nat) (hk : k < ns.length) (vs : List NV) (h : vs.map (·.n) = (grs ns).map (fun p => grN p.1 p.2)) (hv : k < vs.length) (x : Int) :
    (vs.set k { vs[k] with n := { vs[k].n with f2 := x } }).map (·.n) = (((grs ns).set k (x, ns[k])).map fun p => grN p.1 p.2) := by
  rw [List.map_set, h, List.map_set]
  congr 1
  have : (vs.map (·.n))[k]'(by simpa using hv) = vs[k].n := by simp
  show ({ vs[k].n with f2 := x } : S25) = grN x ns[k]
  rw [← this]
  simp only [h, List.getElem_map, grs, List.getElem_zipIdx]
  rfl
theorem below_g (a : Int) (m : Nat) (h1 : 1 ≤ m) (h2 : m ≤ 1000000000) : ∃ r : Nat, burinbook_Below.f a m = some (r : Int) ∧ r < m := by
  have l1 := Int.tmod_lt_of_pos a (show (0 : Int) < m by omega)
  have l2 := Int.lt_tmod_of_pos a (show (0 : Int) < m by omega)
  unfold burinbook_Below.f
  rw [if_neg (by omega), if_neg (by omega)]
  generalize Int.tmod a m = t at *
  split
  · exact ⟨(t + m).toNat, by rw [show wrap64 (t + m) = t + m by unfold wrap64; omega]; simp; omega, by omega⟩
  · exact ⟨t.toNat, by simp; omega, by omega⟩
theorem ft_of {CN : Int} {f t : Bool} {n : Nat} (hr2 : CN = 0 ↔ f = true ∧ ¬ t = true ∧ n ≤ 31) (h31 : n ≤ 31) (hc0 : ¬ CN = 0) : f = false ∨ t = true := by
  cases f
  · exact .inl rfl
  · cases t
    · exact absurd (hr2.2 ⟨rfl, by decide, h31⟩) hc0
    · exact .inr rfl
theorem grs_names (ns : List ByteArray) : (grs ns).map (·.2) = ns := by
  unfold grs
  rw [List.map_map]
  exact List.zipIdx_map_fst 0 ns
theorem twice_succ (ns : List ByteArray) (j : Nat) (h : j < ns.length) : TwiceIn ns (j + 1) ↔ TwiceIn ns j ∨ (ns[j] ∈ ns.take j ∧ emptyS ns[j] = false) := by
  constructor
  · rintro ⟨i, hi, h1, h2⟩
    by_cases e : i = j
    · subst e; exact .inr h2
    · exact .inl ⟨i, by omega, h1, h2⟩
  · rintro (⟨i, hi, h1, h2⟩ | h2)
    · exact ⟨i, by omega, h1, h2⟩
    · exact ⟨j, by omega, h, h2⟩
theorem twice_zero (ns : List ByteArray) : ¬ TwiceIn ns 0 := fun ⟨i, h, _⟩ => by omega
theorem grs_at (ns : List ByteArray) (j : Nat) (h : j < ns.length) : (grs ns).take (j + 1) = (grs ns).take j ++ [((j : Int) + 1, ns[j])] := by
  rw [List.take_succ_eq_append_getElem (by simpa [grs] using h)]
  congr 2
  simp [grs]
set_option maxRecDepth 100000 in
set_option maxHeartbeats 8000000 in
theorem groups_walk (A : Option Addr) (c : Nat) (ns : List ByteArray) (odd : Int) (w : World) (hA : Kd.C Kd.string w A ns.length ns) (hc : ns.length ≤ c) (hcm : c ≤ 9223372036854775807) : Calls Try.prog 9 #[.slice A ns.length c, .int .i64 odd] w fun e w' => e = .returned (.bool true) ∧ Below w.heap.size w w' := by
  obtain ⟨i0, hi, hz0, hz1, hz2⟩ := info_parts info25
  have CF := Lib.hid (fun W (k : Below w.heap.size w W) => (few_calls A c ns W (Kd.C_below hA k) hc).mono fun e w' ⟨h, q⟩ => (⟨h, k.trans (q.bel.mono k.size)⟩ : _ ∧ Below w.heap.size w w'))
  cases hfew : fewB ns with
  | false =>
    rw [hfew] at CF
    clear hfew
    go_enter Try.func9, Try.ntmps9
    go_wp2_with (first | (go_at_call 32; refine (works_calls _).mono ?_; rintro e w1 ⟨rfl, k1⟩; have kk := k1.bel) | (go_at_call 48; refine (CF.out _ kk).mono ?_; clear CF; rintro e w4 ⟨rfl, kk⟩))
    go_ret
    exact ⟨rfl, kk⟩
  | true =>
    rw [hfew] at CF
    by_cases h2 : ns.length < 2
    · have d2 : decide ((ns.length : Int) < 2) = true := decide_eq_true (by omega)
      clear hfew
      go_enter Try.func9, Try.ntmps9
      go_wp2_with (first | (go_at_call 32; refine (works_calls _).mono ?_; rintro e w1 ⟨rfl, k1⟩; have kk := k1.bel) | (go_at_call 48; refine (CF.out _ kk).mono ?_; clear CF; rintro e w4 ⟨rfl, kk⟩))
      go_ret
      exact ⟨rfl, kk⟩
    · have d2 : decide ((ns.length : Int) < 2) = false := decide_eq_false (by omega)
      have h40 : ns.length ≤ 40 := by unfold fewB at hfew; simp at hfew; exact hfew.1
      have hsz : ∀ s ∈ ns, s.size ≤ 100 := by
        unfold fewB at hfew
        simp at hfew
        intro s hs
        have := hfew.2 s hs
        omega
      obtain ⟨ba, oa, rfl, hba, hca⟩ := strOpen hA (by omega)
      have HSZ := Lib.hid hsz
      have HCA := Lib.hid hca
      have HA := Lib.hid hA
      clear hfew hsz hca hA
      go_enter Try.func9, Try.ntmps9
      go_wp2_with (first | (go_at_call 32; refine (works_calls _).mono ?_; rintro e w1 ⟨rfl, k1⟩; have kk := k1.bel) | (go_at_call 48; refine (CF.out _ kk).mono ?_; clear CF; rintro e w4 ⟨rfl, kk⟩))
      obtain ⟨W1, hW1⟩ : ∃ W1, W1 = w4.alloc (.cells #[.int .i64 7, .slice none 0 0, .int .i64 0, .string ⟨#[]⟩, .int .i64 0, .int .i64 0, .bool false, .slice none 0 0] 25) := ⟨_, rfl⟩
      obtain ⟨B, hB⟩ : ∃ B, B = w4.heap.size := ⟨_, rfl⟩
      have hb0 : W1.heap[B]? = some (.cells (catC (.slice none 0 0)) 25 (0, 0)) := by rw [hW1, hB]; exact heap_alloc_new _ _
      have k41 : Below w4.heap.size w4 W1 := by rw [hW1]; exact (Below.refl _ _).alloc (Nat.le_refl _) _
      have hBw : w4.heap.size ≤ B := by rw [hB]; exact Nat.le_refl _
      rw [← hW1, ← hB]
      have g0 : GRow B [] (.slice none 0 0) W1 := ⟨hb0, World.ownsRow_nil _ _ _ _, fun v hv => by cases hv⟩
      have hbaW : ba < w4.heap.size := Nat.lt_of_lt_of_le hba kk.size
      clear hW1 hb0
      replace hB := Lib.hid hB
      go_loopw [6, 7, 27] (fun fv tv iv wr => TgI w4 B ns fv tv iv wr) (fun _ _ iv _ => ns.length - (intOf iv).toNat)
      case atStart => exact ⟨0, [], _, true, false, rfl, rfl, rfl, by omega, rfl, g0, k41, by simp, by simp [twice_zero]⟩
      case round =>
        obtain ⟨j, vs, u, f, t, rfl, rfl, rfl, hj, hvs, hG, hbl, hf, ht⟩ := hrel
        by_cases hlt : j < ns.length
        · have dk : decide ((j : Int) < (ns.length : Int)) = true := decide_eq_true (by omega)
          obtain ⟨s, hs⟩ : ∃ s, s = ns[j] := ⟨_, rfl⟩
          have hcs : wr.cell? ⟨ba, oa + j, none⟩ = some (.string s) := by
            rw [World.cell?_of_block ((kk.trans (hbl.mono kk.size)).block ba hba), hs]
            exact HCA.out j hlt
          have hvl : vs.length = j := by
            have := congrArg List.length hvs
            simp [grs] at this
            omega
          have y7 : wr.cell? ⟨B, 7, none⟩ = some u := cellB hG.box 7
          have f7 : wr.frozen? ⟨B, 7, none⟩ = false := frozB hG.box 7
          have hbw := Nat.lt_of_lt_of_le hbaW hbl.size
          have hBl := ltB hG.box
          have wj : IntKind.i64.wrap ((j : Int) + 1) = (j : Int) + 1 := IntWalk.i64_in _ (by omega)
          replace hs := Lib.hid hs
          replace hf := Lib.hid hf
          replace ht := Lib.hid ht
          replace hvs := Lib.hid hvs
          go_wp2_with fail
          go_cut [8, 9] (fun v8 v9 wc => v8 = .int .i64 j ∧ v9 = .string s ∧ TgS w4 B ns (j + 1) wc)
          case first =>
            go_region_law (first
              | (go_simp; go_at_call 37; refine (letter_own 97 _).mono ?_; rintro e w3 ⟨lv, rfl, hn, hl, k3⟩; replace k3 : Kp [] wr w3 := (by first | exact k3 | exact k3.undrew); obtain ⟨ln, L1, d1, L7, d7⟩ := lv; obtain rfl : ln = letN 97 := hn; dsimp only [NV.val, NV.cells, letN, List.length_cons, List.length_nil, Nat.zero_add]; have yy := kcell k3 y7; have hb3 := Nat.lt_of_lt_of_le hBl k3.size)
              | (refine step_append_lies _ rfl _ _ 23 rfl (B + 1) 25 i0 _ 8 104 Try.underlying23 hi hz0 hz1 hz2 rfl (by decide) u vs.length (vs.flatMap NV.cells) rfl (((rowKp hG.row k3).alloc _).alloc _) ⟨w3.heap.size + 1, 0, none⟩ 1 1 (⟨grN ((j : Int) + 1) s, none, 0, some ⟨w3.heap.size, 0, none⟩, 1⟩ : NV).cells rfl rfl (newCells _ _ _ _ (by simp)) (by simp [NV.cells, Value.oneCell']) (by omega) (by unfold maxLen; omega) (by omega) (by simp; omega) (w3.heap.size + 1 + 1) (by simp) ?_; intro g' cap' w5 hown5 hgrow5 hat5 hlt5; have hB5 := growBox hG k3 hgrow5; have y5 : w5.cell? ⟨B, 7, none⟩ = some u := cellB hB5 7; have f5 := frozB hB5 7))
            all_goals
              have hG2 : GRow B (vs ++ [⟨grN ((j : Int) + 1) s, none, 0, some ⟨w3.heap.size, 0, none⟩, 1⟩]) (.slice (some ⟨g', 0, none⟩) (j + 1) cap') (w5.setCell ⟨B, 7, none⟩ (.slice (some ⟨g', 0, none⟩) (j + 1) cap')) :=
                hG.grow k3 rfl hl hgrow5 (by rw [hvl] at hown5 ⊢; exact hown5) (hat5.elim (fun h => .inl h.symm) (fun h => .inr (by rw [h]; rfl)))
              have hbe := setKeeps (belowGrown2 hbl k3 hgrow5 (fun k hk => by have := (hG.row.lt k hk).1; omega)) hBw 7 (.slice (some ⟨g', 0, none⟩) (j + 1) cap')
              go_wp2_with fail
              go_meet
              case rel => exact ⟨rfl, rfl, _, _, by rw [grs_at ns j hlt, List.map_append, List.map_append, hvs.out, ← hs.out]; rfl, hG2, hbe⟩
          case rest =>
            obtain ⟨rfl, rfl, hS⟩ := hcut
            clear y7 f7 hG hvs hbl hcs hbw hBl hvl
            have hSb : ∀ {W w' : World}, TgS w4 B ns (j + 1) W → Kp [] W w' → TgS w4 B ns (j + 1) w' := fun ⟨vs, u, h1, h2, h3⟩ k => ⟨vs, u, h1, h2.kp k, h3.trans (k.bel.mono h3.size)⟩
            go_upto_region 11 with fail
            go_cut [6] (fun v6 wc => v6 = .bool (f && fineB s) ∧ TgS w4 B ns (j + 1) wc)
            case first =>
              cases f with
              | false =>
                go_wp2_with fail
                go_meet
                case rel => exact ⟨rfl, hS⟩
              | true =>
                by_cases hem : emptyS s = true
                · have b2 : s.toList.isEmpty = true := hem
                  have hv : fineB s = true := by simp [fineB, hem]
                  replace hem := Lib.hid hem
                  go_wp2_with fail
                  go_meet
                  case rel => exact ⟨by rw [hv]; rfl, hS⟩
                · obtain ⟨b2, b3⟩ := empF hem
                  have hv : fineB s = nameB s.data.toList := by simp [fineB, hem]
                  replace hem := Lib.hid hem
                  have C34 : ∀ W, Calls Try.prog 34 #[.string s] W fun e w' => e = .returned (.bool (nameB s.data.toList)) ∧ Kp [] W w' := fun W => name_calls s.data.toList W
                  simp only [← hv] at C34
                  replace hv := Lib.hid hv
                  replace C34 := Lib.hid C34
                  go_wp2_with (go_at_call 34; refine (C34.out _).mono ?_; rintro e w5 ⟨rfl, k5⟩)
                  go_meet
                  case rel => exact ⟨by simp, hSb hS k5⟩
            case rest =>
              obtain ⟨rfl, hS⟩ := hcut
              obtain ⟨vs', u', hvs', hG', hbl'⟩ := hS
              have hbw := Nat.lt_of_lt_of_le hbaW hbl'.size
              have hnm : ∀ q (h : q < ns.length), wc.cell? ⟨ba, oa + q, none⟩ = some (.string ns[q]) := by
                intro q h
                rw [World.cell?_of_block ((kk.trans (hbl'.mono kk.size)).block ba hba)]
                exact HCA.out q h
              have HNM := Lib.hid hnm
              have hS : TgS w4 B ns (j + 1) wc := ⟨vs', u', hvs', hG', hbl'⟩
              have hjc : j ≤ c := by omega
              clear hnm hvs' hG'
              replace hbl' := Lib.hid hbl'
              go_upto_region 12 with fail
              go_wp2_with fail
              go_loopw [7, 56] (fun tv iv wq => Aside0 (Kp [] wc wq) ∧ ∃ (q : Nat) (t' : Bool), iv = .int .i64 q ∧ tv = .bool t' ∧ q ≤ j ∧ Aside0 (t' = true ↔ t = true ∨ ∃ p, p < q ∧ ∃ h : p < ns.length, s = ns[p] ∧ emptyS s = false)) (fun _ iv _ => j - (intOf iv).toNat)
              case atStart => exact ⟨⟨Kp.refl _ _⟩, 0, t, rfl, rfl, by omega, ⟨⟨.inl, fun h => h.elim id (fun ⟨p, hp, _⟩ => by omega)⟩⟩⟩
              case round =>
                obtain ⟨HK, q, t', rfl, rfl, hq, HT⟩ := hrel
                by_cases hql : q < j
                · have dq : decide ((q : Int) < (j : Int)) = true := decide_eq_true (by omega)
                  obtain ⟨sq, hsq⟩ : ∃ sq, sq = ns[q]'(by omega) := ⟨_, rfl⟩
                  have hcq := kcell HK.out (HNM.out q (by omega))
                  rw [← hsq] at hcq
                  have hbq := Nat.lt_of_lt_of_le hbw HK.out.size
                  have fin : ∀ b : Bool, (b = true ↔ t' = true ∨ (s = sq ∧ emptyS s = false)) → Aside0 (b = true ↔ t = true ∨ ∃ p, p < q + 1 ∧ ∃ h : p < ns.length, s = ns[p] ∧ emptyS s = false) := by
                    intro b hb
                    refine ⟨?_⟩
                    rw [hb, HT.out, hsq]
                    constructor
                    · rintro ((h | ⟨p, hp, h, h2⟩) | h2)
                      · exact .inl h
                      · exact .inr ⟨p, by omega, h, h2⟩
                      · exact .inr ⟨q, by omega, by omega, h2⟩
                    · rintro (h | ⟨p, hp, h, h2⟩)
                      · exact .inl (.inl h)
                      · by_cases e : p = q
                        · subst e; exact .inr h2
                        · exact .inl (.inr ⟨p, by omega, h, h2⟩)
                  replace hsq := Lib.hid hsq
                  cases t' with
                  | true =>
                    have FIN := Lib.hid (fin true (by simp))
                    clear fin
                    go_wp2_with fail
                    go_round
                    case rel => exact ⟨HK, q + 1, true, by simp, rfl, hql, FIN.out⟩
                    case measure => simp [intOf]; omega
                  | false =>
                    by_cases heq : s = sq
                    · have b1 := strT heq
                      by_cases hem : emptyS s = true
                      · have b2 : s.toList.isEmpty = true := hem
                        have FIN := Lib.hid (fin false (by simp [hem]))
                        clear fin heq hem
                        go_wp2_with fail
                        go_round
                        case rel => exact ⟨HK, q + 1, false, by simp, rfl, hql, FIN.out⟩
                        case measure => simp [intOf]; omega
                      · obtain ⟨b2, b3⟩ := empF hem
                        have FIN := Lib.hid (fin true (by simp [heq]; rw [← heq]; simpa using hem))
                        clear fin heq hem
                        go_wp2_with fail
                        go_round
                        case rel => exact ⟨HK, q + 1, true, by simp, rfl, hql, FIN.out⟩
                        case measure => simp [intOf]; omega
                    · have b1 := strF heq
                      have FIN := Lib.hid (fin false (by simp [heq]))
                      clear fin heq
                      go_wp2_with fail
                      go_round
                      case rel => exact ⟨HK, q + 1, false, by simp, rfl, hql, FIN.out⟩
                      case measure => simp [intOf]; omega
                · obtain rfl : q = j := by omega
                  have dq : decide ((q : Int) < (q : Int)) = false := decide_eq_false (by omega)
                  have hfin : TgI w4 B ns (.bool (f && fineB s)) (.bool t') (.int .i64 ((q : Int) + 1)) wr := by
                    obtain ⟨vs, u, h1, h2, h3⟩ := hSb hS HK.out
                    refine ⟨q + 1, vs, u, f && fineB s, t', by simp, rfl, rfl, hlt, h1, h2, h3, ?_, ?_⟩
                    · rw [Bool.and_eq_true, hf.out, List.take_succ_eq_append_getElem hlt]
                      constructor
                      · rintro ⟨a, b⟩ x hx
                        rcases List.mem_append.1 hx with hx | hx
                        · exact a x hx
                        · simp at hx; rw [hx, ← hs.out]; exact b
                      · intro a
                        exact ⟨fun x hx => a x (List.mem_append_left _ hx), a s (List.mem_append_right _ (by rw [← hs.out]; simp))⟩
                    · rw [HT.out, ht.out, twice_succ ns q hlt, ← hs.out]
                      refine or_congr Iff.rfl ?_
                      constructor
                      · rintro ⟨p, hp, h, h1, h2⟩
                        refine ⟨?_, h2⟩
                        rw [h1]
                        exact List.mem_take_iff_getElem.2 ⟨p, by omega, rfl⟩
                      · rintro ⟨h1, h2⟩
                        obtain ⟨p, hp, e⟩ := List.mem_take_iff_getElem.1 h1
                        exact ⟨p, by omega, by omega, e.symm, h2⟩
                  have FIN := Lib.hid hfin
                  clear hfin
                  go_wp2_with fail
                  go_round
                  case rel => exact FIN.out
                  case measure => simp [intOf]; omega
        · obtain rfl : j = ns.length := by omega
          have dk : decide ((ns.length : Int) < (ns.length : Int)) = false := decide_eq_false (by omega)
          have hgl : (grs ns).length = ns.length := by simp [grs]
          rw [← hgl, List.take_length] at hvs
          have hvl : vs.length = ns.length := by have := congrArg List.length hvs; simpa [grs] using this
          rw [List.take_length] at hf
          have hr := groups_right ns (by omega)
          obtain ⟨A7, c7, rfl, hok, hgg⟩ := hG.tree (by omega)
          obtain ⟨g, rfl⟩ := hgg (by omega)
          rw [hvs] at hok
          have hthin : Thin 3 (catN ((grs ns).map fun p => grN p.1 p.2)) := cat_thin (grs ns) (by omega) (fun p hp => by
            obtain ⟨q, hq, rfl⟩ := List.mem_map.1 hp
            exact HSZ.out q.1 (by have := List.fst_mem_of_mem_zipIdx hq; exact this))
          have hln := cat_len (grs ns)
          have C24 := check_calls _ wr hok hthin (by rw [hln]; omega)
          obtain ⟨CN, hCN⟩ : ∃ CN, CN = checkV (catN ((grs ns).map fun p => grN p.1 p.2)) := ⟨_, rfl⟩
          have hval : ∀ l : List (Int × ByteArray), l.length = ns.length → (⟨catN (l.map fun p => grN p.1 p.2), none, 0, some ⟨g, 0, none⟩, c7⟩ : NV).val = .agg #[.int .i64 7, .slice none 0 0, .int .i64 0, .string ⟨#[]⟩, .int .i64 0, .int .i64 0, .bool false, .slice (some ⟨g, 0, none⟩) ns.length c7] := by
            intro l hl
            simp [NV.val, NV.cells, catN, hl]
          dsimp only at C24
          rw [← hCN, hval _ hgl] at C24
          rw [← hCN] at hr
          have hr2 : CN = 0 ↔ f = true ∧ ¬ t = true ∧ ns.length ≤ 31 := by rw [hr, hf, ht]
          have y7 : wr.cell? ⟨B, 7, none⟩ = some (.slice (some ⟨g, 0, none⟩) ns.length c7) := by rw [← hvl]; exact cellB hG.box 7
          have y0 : wr.cell? ⟨B, 0, none⟩ = some (.int .i64 7) := cellB hG.box 0
          have y1 : wr.cell? ⟨B, 1, none⟩ = some (.slice none 0 0) := cellB hG.box 1
          have y2 : wr.cell? ⟨B, 2, none⟩ = some (.int .i64 0) := cellB hG.box 2
          have y3 : wr.cell? ⟨B, 3, none⟩ = some (.string ⟨#[]⟩) := cellB hG.box 3
          have y4 : wr.cell? ⟨B, 4, none⟩ = some (.int .i64 0) := cellB hG.box 4
          have y5 : wr.cell? ⟨B, 5, none⟩ = some (.int .i64 0) := cellB hG.box 5
          have y6 : wr.cell? ⟨B, 6, none⟩ = some (.bool false) := cellB hG.box 6
          have hBl := ltB hG.box
          replace C24 := Lib.hid C24
          replace hCN := Lib.hid hCN
          clear hr hf ht hok hthin hln
          go_upto_region 19 with (go_at_call 24; refine (C24.out).mono ?_; clear C24; rintro e w6 ⟨rfl, k6⟩)
          go_cut [97] (fun v wc => v = .bool false ∧ Kp [] wr wc)
          case first =>
            by_cases h31 : ns.length ≤ 31
            · have d31 : decide ((ns.length : Int) ≤ 31) = true := decide_eq_true (by omega)
              by_cases hc0 : CN = 0
              · obtain ⟨h1, h2, _⟩ := hr2.1 hc0
                have h2' : t = false := by simpa using h2
                subst h1 h2' hc0
                go_wp2_with fail
                go_meet
                case rel => exact ⟨rfl, k6⟩
              · have b0 : (CN == 0) = false := beq_eq_false_iff_ne.2 hc0
                have hft := ft_of hr2 h31 hc0
                clear hr2 hc0
                rcases hft with rfl | rfl
                · cases t
                  all_goals
                    go_wp2_with fail
                    go_meet
                    case rel => exact ⟨rfl, k6⟩
                · cases f
                  all_goals
                    go_wp2_with fail
                    go_meet
                    case rel => exact ⟨rfl, k6⟩
            · have d31 : decide ((ns.length : Int) ≤ 31) = false := decide_eq_false (by omega)
              have hc0 : ¬ CN = 0 := fun h => h31 (hr2.1 h).2.2
              have b0 : (CN == 0) = false := beq_eq_false_iff_ne.2 hc0
              clear hr2 hc0
              cases f <;> cases t
              all_goals
                go_wp2_with fail
                go_meet
                case rel => exact ⟨rfl, k6⟩
          case rest =>
            obtain ⟨rfl, kc⟩ := hcut
            have hG1 := hG.kp kc
            obtain ⟨k, hk, hkn⟩ := below_g odd ns.length (by omega) (by omega)
            have hkv : k < vs.length := by omega
            have hvk : vs[k].n = grN ((k : Int) + 1) ns[k] := by
              have h1 : (vs.map (·.n))[k]'(by simpa using hkv) = vs[k].n := by simp
              rw [← h1]
              simp only [hvs, List.getElem_map, grs, List.getElem_zipIdx]
              simp
            have hnum : ∀ W, Kp [] wr W → W.cell? ⟨g, k * 8 + 2, none⟩ = some (.int .i64 ((k : Int) + 1)) := by
              intro W q
              rw [(hG.kp q).row.cellAt (k * 8 + 2) (by omega)]
              have := flat8 vs k hkv 2 (.int .i64 ((k : Int) + 1)) (by rw [NV.cells, hvk]; rfl)
              exact this
            obtain ⟨X, hX⟩ : ∃ X : Int, X = (k : Int) + 1 + 5 := ⟨_, rfl⟩
            have hwx : IntKind.i64.wrap ((k : Int) + 1 + 5) = X := by rw [IntWalk.i64_in _ (by omega)]; exact hX.symm
            have hgB : ∀ W, Kp [] wr W → B < W.heap.size ∧ g < W.heap.size ∧ W.frozen? ⟨g, k * 8 + 2, none⟩ = false := by
              intro W q
              refine ⟨Nat.lt_of_lt_of_le hBl q.size, ((hG.kp q).row.lt g rfl).2, ?_⟩
              exact (hG.kp q).row.frozenAt _
            have hset := set_map ns k hkn vs hvs hkv X
            obtain ⟨L, hL⟩ : ∃ L, L = (grs ns).set k (X, ns[k]) := ⟨_, rfl⟩
            rw [← hL] at hset
            have hLl : L.length = ns.length := by rw [hL]; simpa using hgl
            have hLk : L[k]'(by omega) = (X, ns[k]) := by simp only [hL, List.getElem_set_self]
            have hLp : ∀ p ∈ L, 1 ≤ p.1 ∧ p.2.size ≤ 100 := by
              intro p hp
              rw [hL] at hp
              rcases List.mem_or_eq_of_mem_set hp with h | h
              · obtain ⟨q, hq, rfl⟩ := List.mem_map.1 h
                exact ⟨by dsimp only; omega, HSZ.out q.1 (by have := List.fst_mem_of_mem_zipIdx hq; exact this)⟩
              · rw [h]; exact ⟨by dsimp only; omega, HSZ.out _ (List.getElem_mem hkn)⟩
            have hLg : L.map (·.2) = ns := by
              rw [hL, List.map_set]
              rw [grs_names]
              exact List.set_getElem_self hkn
            have hwrong := groups_wrong L (fun p hp => (hLp p hp).1) (by omega) k (by omega) (by rw [hLk]; dsimp only; omega)
            have hok2 : ∀ W, Kp [] wr W → ∀ W', Kp [] (W.setCell ⟨g, k * 8 + 2, none⟩ (.int .i64 X)) W' → (⟨catN (L.map fun p => grN p.1 p.2), none, 0, some ⟨g, 0, none⟩, c7⟩ : NV).ok W' := by
              intro W q W' q'
              have hs := (GRow.store hkv X (hG.kp q)).kp q'
              have hlen : (vs.set k { vs[k] with n := { vs[k].n with f2 := X } }).length = vs.length := by simp
              rw [← hlen] at hs
              obtain ⟨A', c', e, h1, _⟩ := hs.tree (by rw [hlen]; omega)
              injection e with e1 _ e3
              subst e1 e3
              rw [hset] at h1
              exact h1
            have hbox2 : ∀ W, Kp [] wr W → ∀ W', Kp [] (W.setCell ⟨g, k * 8 + 2, none⟩ (.int .i64 X)) W' → W'.heap[B]? = some (.cells (catC (.slice (some ⟨g, 0, none⟩) ns.length c7)) 25 (0, 0)) := by
              intro W q W' q'
              have hs := (GRow.store hkv X (hG.kp q)).kp q'
              rw [← hvl]
              exact hs.box
            have hthin2 : Thin 3 (catN (L.map fun p => grN p.1 p.2)) := cat_thin L (by omega) (fun p hp => (hLp p hp).2)
            have hln2 : (stepsL 1000 1 (catN (L.map fun p => grN p.1 p.2))).length ≤ 1000000 := by rw [cat_len]; omega
            have hgr2 : groupsP (stepsL 1000 1 (catN (L.map fun p => grN p.1 p.2))) = ns := by rw [cat_groups, hLg]
            have hvL := hval L hLl
            have G2 := Lib.hid hok2; have B2 := Lib.hid hbox2; have T2 := Lib.hid hthin2; have L2 := Lib.hid hln2; have R2 := Lib.hid hgr2; have WR := Lib.hid hwrong; have NU := Lib.hid hnum; have GB := Lib.hid hgB; have VL := Lib.hid hvL
            clear hok2 hbox2 hthin2 hln2 hgr2 hwrong hnum hgB hval hvL hLg hLp hLk hLl hset hvk hvs hG1 hgl hr2
            replace hk := Lib.hid hk
            replace hL := Lib.hid hL
            replace hX := Lib.hid hX
            go_upto_region 23 with (go_at_call 36; refine (burinbook_Below.calls odd ns.length k _ hk.out).mono ?_; rintro e w7 ⟨rfl, k7⟩; have q7 : Kp [] wr w7 := kc.trans (Kp.ofDrawn k7); have yy7 := kcell q7 y7; have hn7 := NU.out _ q7; obtain ⟨g1, g2, g3⟩ := GB.out _ q7)
            obtain ⟨W8, hW8⟩ : ∃ W8, W8 = w7.setCell ⟨g, k * 8 + 2, none⟩ (.int .i64 X) := ⟨_, rfl⟩
            have G3 : ∀ W', Kp [] W8 W' → (⟨catN (L.map fun p => grN p.1 p.2), none, 0, some ⟨g, 0, none⟩, c7⟩ : NV).ok W' := by rw [hW8]; exact G2.out _ q7
            have B3 : ∀ W', Kp [] W8 W' → W'.heap[B]? = some (.cells (catC (.slice (some ⟨g, 0, none⟩) ns.length c7)) 25 (0, 0)) := by rw [hW8]; exact B2.out _ q7
            have k8 : Below w4.heap.size w4 W8 := by
              rw [hW8]
              exact setKeeps (hbl.trans (q7.bel.mono hbl.size)) (by have := (hG.row.lt g rfl).1; omega) _ _
            have kf : Below w.heap.size w W8 := kk.trans (k8.mono kk.size)
            obtain ⟨CM, hCM⟩ : ∃ CM, CM = checkV (catN (L.map fun p => grN p.1 p.2)) := ⟨_, rfl⟩
            have hne : (CM == 0) = false := beq_eq_false_iff_ne.2 (by rw [hCM]; exact WR.out)
            have hne2 : (CM != 0) = true := by rw [bne, hne]; rfl
            have C24 : ∀ W, Kp [] W8 W → Calls Try.prog 24 #[.agg #[.int .i64 7, .slice none 0 0, .int .i64 0, .string ⟨#[]⟩, .int .i64 0, .int .i64 0, .bool false, .slice (some ⟨g, 0, none⟩) ns.length c7]] W fun e w' => e = .returned (.int .i64 CM) ∧ Kp [] W8 w' := by
              intro W q
              have := (check_calls _ W (G3 W q) T2.out L2.out).mono fun e w' ⟨h, p⟩ => (⟨h, q.trans p⟩ : _ ∧ Kp [] W8 w')
              dsimp only at this
              rw [← hCM, VL.out] at this
              exact this
            have C41 : ∀ W, Kp [] W8 W → Calls Try.prog 41 #[.agg #[.int .i64 7, .slice none 0 0, .int .i64 0, .string ⟨#[]⟩, .int .i64 0, .int .i64 0, .bool false, .slice (some ⟨g, 0, none⟩) ns.length c7]] W fun e w' => ∃ u, e = .returned u ∧ w'.ownsRow W.heap.size 9 1 u ns.length (ns.map .string) ∧ Kp [] W8 w' := by
              intro W q
              have := (groups_calls _ W (G3 W q) L2.out).mono fun e w' ⟨u, h, ho, p⟩ => (⟨u, h, ho, q.trans p⟩ : ∃ u, e = Ending.returned u ∧ w'.ownsRow W.heap.size 9 1 u (groupsP (stepsL 1000 1 (catN (L.map fun (p : Int × ByteArray) => grN p.1 p.2)))).length ((groupsP (stepsL 1000 1 (catN (L.map fun (p : Int × ByteArray) => grN p.1 p.2)))).map .string) ∧ Kp [] W8 w')
              rw [R2.out, VL.out] at this
              exact this
            have C42 : ∀ W, Kp [] W8 W → ∀ u b, W.ownsRow b 9 1 u ns.length (ns.map .string) → Calls Try.prog 42 #[u, .slice (some ⟨ba, oa, none⟩) ns.length c] W fun e w' => e = .returned (.bool true) ∧ Kp [] W8 w' := by
              intro W q u b ho
              exact (same_row u _ c ns (by omega) b W ho hc (Kd.C_below HA.out (kf.trans (q.bel.mono kf.size)))).mono fun e w' ⟨h, p⟩ => ⟨h, q.trans p⟩
            have k80 := Kp.refl [] W8
            have hb8 := B3 W8 k80
            have p0 : W8.cell? ⟨B, 0, none⟩ = some (Value.int .i64 7) := cellB hb8 0; have p1 : W8.cell? ⟨B, 1, none⟩ = some (Value.slice none 0 0) := cellB hb8 1; have p2 : W8.cell? ⟨B, 2, none⟩ = some (Value.int .i64 0) := cellB hb8 2; have p3 : W8.cell? ⟨B, 3, none⟩ = some (Value.string ⟨#[]⟩) := cellB hb8 3; have p4 : W8.cell? ⟨B, 4, none⟩ = some (Value.int .i64 0) := cellB hb8 4; have p5 : W8.cell? ⟨B, 5, none⟩ = some (Value.int .i64 0) := cellB hb8 5; have p6 : W8.cell? ⟨B, 6, none⟩ = some (Value.bool false) := cellB hb8 6; have p7 : W8.cell? ⟨B, 7, none⟩ = some (Value.slice (some ⟨g, 0, none⟩) ns.length c7) := cellB hb8 7
            have hB8 := ltB hb8
            rw [← hW8]
            replace C24 := Lib.hid C24; replace C41 := Lib.hid C41; replace C42 := Lib.hid C42; replace B3 := Lib.hid B3
            clear G3 hCM hb8 yy7 hn7 g1 g2 g3 y0 y1 y2 y3 y4 y5 y6 y7
            replace hW8 := Lib.hid hW8
            go_wp2_with (first
              | (go_at_call 24; refine (C24.out _ k80).mono ?_; clear C24; rintro e w9 ⟨rfl, k80⟩; have hb8 := B3.out w9 k80; have p0 : w9.cell? ⟨B, 0, none⟩ = some (Value.int .i64 7) := cellB hb8 0; have p1 : w9.cell? ⟨B, 1, none⟩ = some (Value.slice none 0 0) := cellB hb8 1; have p2 : w9.cell? ⟨B, 2, none⟩ = some (Value.int .i64 0) := cellB hb8 2; have p3 : w9.cell? ⟨B, 3, none⟩ = some (Value.string ⟨#[]⟩) := cellB hb8 3; have p4 : w9.cell? ⟨B, 4, none⟩ = some (Value.int .i64 0) := cellB hb8 4; have p5 : w9.cell? ⟨B, 5, none⟩ = some (Value.int .i64 0) := cellB hb8 5; have p6 : w9.cell? ⟨B, 6, none⟩ = some (Value.bool false) := cellB hb8 6; have p7 : w9.cell? ⟨B, 7, none⟩ = some (Value.slice (some ⟨g, 0, none⟩) ns.length c7) := cellB hb8 7)
              | (go_at_call 41; refine (C41.out _ k80).mono ?_; clear C41; rintro e wa ⟨u9, rfl, ho9, k80⟩)
              | (go_at_call 42; refine (C42.out _ k80 _ _ ho9).mono ?_; clear C42; rintro e wb ⟨rfl, k80⟩))
            go_ret
            exact ⟨rfl, kf.trans (k80.bel.mono kf.size)⟩
section
open Go.Deep Go.ChangeShapes Go.WideShapes
variable {H : Type} {enc : TypeId × Value → H} {w : World} {base : Nat} {spare : Nat → Bool} {held : Bool} {r : Reach} {b0 : Nat} {v : Value} {d : DataW H} {p : List MemPlace}
set_option maxRecDepth 100000 in
theorem openStrs (hv : Value.okWide Try.prog w r b0 57 v) (h : DataW.Trod enc Try.prog w base spare held 57 v d p) : ∃ (A : Option Addr) (c : Nat) (ns : List ByteArray), v = .slice A ns.length c ∧ (Kd.C Kd.string w A ns.length ns ∧ ns.length ≤ c ∧ c ≤ 9223372036854775807) := by
  obtain ⟨a, len, cap, rfl⟩ := okWide_slice Try.underlying57 hv
  obtain ⟨fuel, hf⟩ := h
  have : Inhabited ByteArray := ⟨ByteArray.empty⟩
  have c9 : Try.prog.cellsOf 9 = 1 := by kernel_rfl
  have hcap : cap ≤ 9223372036854775807 := by
    rcases DataW.trod_slice Try.underlying57 hf with ⟨hcs, _⟩ | ⟨a', len', cap', elems, rest, n, hn, hcs, _, _, hl, hm, _⟩
    · simp [Value.cells] at hcs
      omega
    · simp [Value.cells] at hcs
      have : maxLen = 9223372036854775807 := rfl
      omega
  obtain ⟨A, c, l, hcs, hC, hl⟩ := openRow Kd.string Try.underlying57 c9 (fun m _ cs y hy => by
    obtain ⟨s, q, _, _⟩ := DataW.trod_string Try.underlying9 hy
    exact ⟨s, q⟩) hf
  simp [Value.cells] at hcs
  obtain ⟨rfl, rfl, rfl⟩ := hcs
  exact ⟨_, _, l, rfl, hC, hl, hcap⟩
end
theorem groups_row (W : World) (A : Option Addr) (c : Nat) (ns : List ByteArray) (odd : Int) (h : Kd.C Kd.string W A ns.length ns ∧ ns.length ≤ c ∧ c ≤ 9223372036854775807) : Calls Try.prog 9 #[.slice A ns.length c, .int .i64 odd] W fun e w' => e = .returned (.bool true) ∧ Below W.heap.size W w' := groups_walk A c ns odd W h.1 h.2.1 h.2.2

end Go.Proofs.Ytojlhlepneefoaa
