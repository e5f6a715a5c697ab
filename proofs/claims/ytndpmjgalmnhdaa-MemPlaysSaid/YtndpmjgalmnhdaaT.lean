/- Package mem: the document's Store (it builds a new slice of regions). -/
import Derived.Test.YtndpmjgalmnhdaaS
import Derived.Lib.ConvBytes
namespace Go.Proofs.Ytndpmjgalmnhdaa
open Go.RowKit PMemPlays Go.Proofs.YtndpmjgalmnhdaaW.PrintWords Go.Proofs.YtndpmjgalmnhdaaW.PrintLast Go.Proofs.YtndpmjgalmnhdaaW.PrintMore
open Go.Sort Go.Shelf
set_option linter.unusedVariables false
set_option linter.unusedSimpArgs false

def RStorePost (A : Option Addr) (cap : Nat) (l : List S39) (a n x : Int) (w : World) (e : Ending) (w' : World) : Prop :=
  (¬ SizeOk n ∧ e = .returned (.tuple #[.slice A l.length cap, .int .i64 1]) ∧ Kp [] w w') ∨
  (SizeOk n ∧ NotFound (l.map pieceOf) a n 2 ∧ e = .returned (.tuple #[.slice A l.length cap, .int .i64 270]) ∧ Kp [] w w') ∨
  (SizeOk n ∧ ∃ k g c', ∃ hk : k < l.length, Finds (l.map pieceOf) a n 2 k ∧ e = .returned (.tuple #[.slice (some ⟨g, 0, none⟩) l.length c', .int .i64 0]) ∧ IsRegs w' (some ⟨g, 0, none⟩) c' (putR l k l[k] a n x) ∧ w.heap.size ≤ g ∧ Kp [] w w')
theorem rsize_any (w : World) (n : Int) : Calls Try.prog 23 #[.int .i64 n] w fun e w' => e = .returned (.bool (decide (SizeOk n))) ∧ Kp [] w w' :=
  (burinref27_Size.calls n _ w (size_f n)).mono fun _ _ ⟨h, ⟨⟨q, hq⟩⟩⟩ => ⟨h, hq ▸ kp_drewN w q⟩
theorem rwhere_any (w : World) (A : Option Addr) (cap : Nat) (l : List S39) (hA : IsRegs w A cap l) (a n rt r : Int) (h : burinref27_Where.f 12 l a n rt = some r) :
    Calls Try.prog 24 #[.slice A l.length cap, .int .u64 a, .int .i64 n, .int .i64 rt] w fun e w' => e = .returned (.int .i64 r) ∧ Kp [] w w' :=
  (burinref27_Where.calls 12 A cap l a n rt r w hA.1 hA.2.1 h).mono fun _ _ ⟨h, ⟨⟨q, hq⟩⟩⟩ => ⟨h, hq ▸ kp_drewN w q⟩
theorem info39 : (Try.prog.info? 39).map (fun i => (i.zero, i.size, i.bytes)) = some (some (.agg #[.int .u64 0, .string ⟨#[]⟩, .int .i64 0]), 3, 32) := by kernel_rfl
def rcells : List S39 → List Value
  | [] => []
  | r :: l => .int .u64 r.f0 :: .string r.f1 :: .int .i64 r.f2 :: rcells l
theorem rcells_len : ∀ l, (rcells l).length = l.length * 3
  | [] => rfl
  | r :: l => by simp [rcells, rcells_len l]; omega
theorem rcells_one : ∀ l, ∀ u ∈ rcells l, u.oneCell' = true
  | r :: l, u, hu => by
    simp only [rcells, List.mem_cons] at hu
    rcases hu with rfl | rfl | rfl | hu
    · rfl
    · rfl
    · rfl
    · exact rcells_one l u hu
theorem rcells_get : ∀ (l : List S39) (i : Nat) (h : i < l.length), (rcells l)[i * 3]? = some (.int .u64 l[i].f0) ∧ (rcells l)[i * 3 + 1]? = some (.string l[i].f1) ∧ (rcells l)[i * 3 + 2]? = some (.int .i64 l[i].f2)
  | r :: l, 0, _ => ⟨rfl, rfl, rfl⟩
  | r :: l, i + 1, h => by
    have := rcells_get l i (by simpa using h)
    rw [show (i + 1) * 3 = i * 3 + 1 + 1 + 1 by omega]
    simp only [rcells, List.getElem?_cons_succ, List.getElem_cons_succ, show i * 3 + 1 + 1 + 1 + 1 = (i * 3 + 1) + 1 + 1 + 1 by omega, show i * 3 + 1 + 1 + 1 + 2 = (i * 3 + 2) + 1 + 1 + 1 by omega]
    exact this
theorem rcells_at {w : World} {b off cap : Nat} {l : List S39} (h : IsRegs w (some ⟨b, off, none⟩) cap l) : ∀ j u, (rcells l)[j]? = some u → w.cell? ((⟨b, off, none⟩ : Addr).add j) = some u := by
  intro j u hu
  have hj := (List.getElem?_eq_some_iff.1 hu).1
  rw [rcells_len] at hj
  have e : (⟨b, off, none⟩ : Addr).add j = ⟨b, off + j, none⟩ := WideShapes.add_plain b off j
  rw [e]
  obtain ⟨b', off', e2, _, c0, c1, c2⟩ := h.at_ (j / 3) (by omega)
  injection e2 with e2
  injection e2 with e3 e4
  subst e3 e4
  obtain ⟨g0, g1, g2⟩ := rcells_get l (j / 3) (by omega)
  have h3 : j = j / 3 * 3 ∨ j = j / 3 * 3 + 1 ∨ j = j / 3 * 3 + 2 := by omega
  rcases h3 with h3 | h3 | h3
  · rw [h3] at hu ⊢
    rw [← h3] at hu ⊢
    rw [h3, g0] at hu
    injection hu with hu
    rw [h3, c0, hu]
  · rw [h3, g1] at hu
    injection hu with hu
    rw [h3, ← Nat.add_assoc, c1, hu]
  · rw [h3, g2] at hu
    injection hu with hu
    rw [h3, ← Nat.add_assoc, c2, hu]
theorem row_open {w : World} {B g n c : Nat} {xs : List Value} (h : w.ownsRow B 39 3 (.slice (some ⟨g, 0, none⟩) (0 + n) c) (0 + n) ([] ++ xs)) : ∃ cur, w.heap[g]? = some (.cells cur 39 (0, 0)) ∧ n ≤ c ∧ c ≤ 9223372036854775807 ∧ ∀ (j : Nat) (u : Value), xs[j]? = some u → cur[j]? = some u := by
  rcases h.2 with ⟨h1, _⟩ | ⟨g', cap, cur, hv, hb, hg, h1, h2, h3, h4⟩
  · simp at h1
  · injection hv with e1 e2 e3
    injection e1 with e1
    injection e1 with e1
    subst e1 e3
    refine ⟨cur, hg, by omega, h2, fun j u hu => ?_⟩
    rw [List.nil_append] at h4
    rw [← h4, List.getElem?_take] at hu
    split at hu
    · rwa [Array.getElem?_toList] at hu
    · simp at hu
theorem regs_put {w w5 : World} {A : Option Addr} {cap : Nat} {l : List S39} (hA : IsRegs w A cap l) {k : Nat} (hk : k < l.length) {g c : Nat} {cur : Array Value} (hg : w5.heap[g]? = some (.cells cur 39 (0, 0))) (hcur : ∀ (j : Nat) (u : Value), (rcells l)[j]? = some u → cur[j]? = some u) (h1 : l.length ≤ c) (h2 : c ≤ 9223372036854775807) (S : ByteArray) :
    IsRegs (w5.setCell ⟨g, k * 3 + 1, none⟩ (.string S)) (some ⟨g, 0, none⟩) c (l.set k ⟨l[k].f0, S, l[k].f2⟩) := by
  have hs := setB hg (k * 3 + 1) (.string S)
  have key : ∀ i (hi : i < l.length), (cur.setIfInBounds (k * 3 + 1) (.string S))[i * 3]? = some (.int .u64 (l.set k ⟨l[k].f0, S, l[k].f2⟩)[i]!.f0) ∧ (cur.setIfInBounds (k * 3 + 1) (.string S))[i * 3 + 1]? = some (.string (l.set k ⟨l[k].f0, S, l[k].f2⟩)[i]!.f1) ∧ (cur.setIfInBounds (k * 3 + 1) (.string S))[i * 3 + 2]? = some (.int .i64 (l.set k ⟨l[k].f0, S, l[k].f2⟩)[i]!.f2) := by
    intro i hi
    obtain ⟨g0, g1, g2⟩ := rcells_get l i hi
    have z0 := hcur _ _ g0
    have z1 := hcur _ _ g1
    have z2 := hcur _ _ g2
    have hi2 : i < (l.set k ⟨l[k].f0, S, l[k].f2⟩).length := by simpa using hi
    rw [getElem!_pos _ i hi2, List.getElem_set]
    rw [Array.getElem?_setIfInBounds_ne (by omega), Array.getElem?_setIfInBounds_ne (show k * 3 + 1 ≠ i * 3 + 2 by omega)]
    by_cases hki : k = i
    · subst hki
      rw [if_pos rfl]
      have hz : k * 3 + 1 < cur.size := (Array.getElem?_eq_some_iff.1 z1).1
      exact ⟨z0, by rw [Array.getElem?_setIfInBounds_self_of_lt hz], z2⟩
    · rw [if_neg hki, Array.getElem?_setIfInBounds_ne (by omega)]
      exact ⟨z0, z1, z2⟩
  refine ⟨⟨rfl, by rw [List.length_set]; omega, fun _ => ⟨_, rfl, fun j p hj => ?_⟩⟩, by rw [List.length_set]; exact h1, h2, fun r hr => ?_⟩
  · have hjl := (List.getElem?_eq_some_iff.1 hj).1
    have hjl2 : j < l.length := by simpa using hjl
    obtain ⟨y0, y1, y2⟩ := key j hjl2
    have e : (l.set k ⟨l[k].f0, S, l[k].f2⟩)[j]! = p := by
      rw [getElem!_pos _ j hjl]
      exact (List.getElem?_eq_some_iff.1 hj).2
    rw [e] at y0 y1 y2
    refine ⟨_, rfl, k39_mk _ p, fun i u hu => ?_⟩
    have e2 : (⟨g, 0, none⟩ : Addr).add (j * k39.sz + i) = ⟨g, j * 3 + i, none⟩ := by
      have : k39.sz = 3 := rfl
      rw [this, WideShapes.add_plain]
      simp
    rw [e2, cellB hs]
    match i, hu with
    | 0, hu => simp at hu; subst hu; exact y0
    | 1, hu => simp at hu; subst hu; exact y1
    | 2, hu => simp at hu; subst hu; exact y2
  · rcases List.mem_or_eq_of_mem_set hr with hr | rfl
    · exact hA.2.2.2 r hr
    · exact hA.2.2.2 l[k] (List.getElem_mem _)
/-- The bytes of a conversion: so many, then spare ones. -/
def YB (w : World) (yb : Nat) (l : List Int) (rest : List Value) : Prop := w.heap[yb]? = some (.cells ((l.map (Value.int .u8)) ++ rest).toArray 5 ((l.length + rest.length), (l.length + rest.length) + 1))
theorem frozC {w : World} {b m : Nat} {cs : Array Value} {t : TypeId} (h : w.heap[b]? = some (.cells cs t (m, m + 1))) (o : Nat) (ho : o < m) : w.frozen? ⟨b, o, none⟩ = false := by
  unfold World.frozen?; simp [h]; omega
theorem yb_new (w : World) (s : ByteArray) : ∃ rest, YB (Lib.bytesWorld w 5 s) w.heap.size (bytesB s) rest := by
  refine ⟨List.replicate (grownCap w s.size 0 5 - s.size) (.int .u8 0), ?_⟩
  unfold YB
  rw [Lib.bytesWorld_at_new]
  have e : (Lib.bytesCells w 5 s) = ((bytesB s).map (Value.int .u8) ++ List.replicate (grownCap w s.size 0 5 - s.size) (Value.int .u8 0)).toArray := by
    apply Array.toList_inj.1
    simp [Lib.bytesCells, bytesB, Function.comp_def]
  rw [e]
  simp
theorem kp_bytes (w : World) (s : ByteArray) : Kp [] w (Lib.bytesWorld w 5 s) :=
  ⟨rfl, rfl, rfl, by rw [Lib.bytesWorld_size]; omega, fun k hk _ => Lib.bytesWorld_at_old w 5 s k hk⟩
theorem yb_reads {w : World} {yb : Nat} {l : List Int} {rest : List Value} (h : YB w yb l rest) (hl : l.length ≤ 200) : Kd.C (Kd.int .u8) w (some ⟨yb, 0, none⟩) l.length l := by
  refine ⟨rfl, by omega, fun _ => ⟨_, rfl, fun j x hj => ⟨[.int .u8 x], rfl, rfl, fun i u hu => ?_⟩⟩⟩
  have hi : i = 0 := by
    have := (List.getElem?_eq_some_iff.1 hu).1
    simp at this
    exact this
  subst hi
  simp at hu
  subst hu
  have hjl := (List.getElem?_eq_some_iff.1 hj).1
  have e : (⟨yb, 0, none⟩ : Addr).add (j * (Kd.int IntKind.u8).sz + 0) = ⟨yb, j, none⟩ := by
    have : (Kd.int IntKind.u8).sz = 1 := rfl
    rw [this]
    simp [Addr.add]
    intro h; exact h.symm
  rw [e, cellB h]
  have hj2 := (List.getElem?_eq_some_iff.1 hj).2
  simp [List.getElem?_append_left, hjl, hj2]
/-- What stands behind the append. -/
theorem behind {wr w5 : World} {l : List S39} {g c yb k C : Nat} {bs : List Int} {rest : List Value} (hk : k < l.length) (hown : w5.ownsRow wr.heap.size 39 3 (.slice (some ⟨g, 0, none⟩) (0 + l.length) c) (0 + l.length) ([] ++ rcells l)) (hgrow : wr.grownBy w5 (Value.slice none 0 0).ownBlock)
    (hat : (Value.slice none 0 0).ownBlock = some g ∨ g = wr.heap.size) (hy : YB wr yb bs rest) (hl : bs.length ≤ 200) (n : Nat) (hn : bs.length = n) : Kp [] wr w5 ∧ wr.heap.size ≤ g ∧ l.length ≤ c ∧ c ≤ 9223372036854775807 ∧
    (∃ cur, w5.heap[g]? = some (.cells cur 39 (0, 0)) ∧ ∀ (j : Nat) (u : Value), (rcells l)[j]? = some u → cur[j]? = some u) ∧ (convert 57 9 (.slice (some ⟨yb, 0, none⟩) n C)).run Try.prog w5 = .ok (.string (strOfNums bs)) w5 ∧
    w5.cell? ⟨g, k * 3 + 1, none⟩ = some (.string l[k].f1) ∧ w5.frozen? ⟨g, k * 3 + 1, none⟩ = false := by
  have k5 : Kp [] wr w5 := ⟨hgrow.os, hgrow.tape, hgrow.output, hgrow.size, fun i hi _ => hgrow.block i hi (by simp [Value.ownBlock])⟩
  have hgw : wr.heap.size ≤ g := by
    rcases hat with h | h
    · simp [Value.ownBlock] at h
    · omega
  obtain ⟨cur, hg5, hc1, hc2, hcur⟩ := row_open hown
  have hb5 : YB w5 yb bs rest := (k5.block _ (ltB hy) (by simp)).trans hy
  obtain ⟨q0, q1, q2⟩ := rcells_get l k hk
  subst hn
  exact ⟨k5, hgw, hc1, hc2, ⟨cur, hg5, hcur⟩, bytes_string w5 _ _ _ _ (yb_reads hb5 hl), by rw [cellB hg5]; exact hcur _ _ q1, frozB hg5 _⟩
set_option maxRecDepth 100000 in
set_option maxHeartbeats 1000000 in
theorem rstore_any (w : World) (A : Option Addr) (cap : Nat) (l : List S39) (hA : IsRegs w A cap l) (hs : Sz l) (hok : okR 0 l) (a n x : Int) (ha : 0 ≤ a) (ha1 : a < 18446744073709551616) (hx0 : 0 ≤ x) (hx : x < 18446744073709551616) :
    Calls Try.prog 16 #[.slice A l.length cap, .int .u64 a, .int .i64 n, .int .u64 x] w (RStorePost A cap l a n x w) := by
  have HS := Lib.hid (rsize_any w n)
  by_cases hz : SizeOk n
  · rw [decide_eq_true hz] at HS
    obtain ⟨n1, n8⟩ := sizeOk_bd hz
    rcases find_cases (l.map pieceOf) a n 2 with hf | ⟨k, hf⟩
    · have HW := fun w' (k' : Kp [] w w') => Lib.hid (rwhere_any w' A cap l (hA.kept k') a n 2 (-1) (where_no hs hok ha ha1 n1 n8 hf))
      go_enter Try.func16, Try.ntmps16
      go_wp2_with fail
      refine HS.out.mono ?_
      rintro e w1 ⟨rfl, k1⟩
      have HW1 := HW w1 k1
      clear HW
      go_wp2_with fail
      refine HW1.out.mono ?_
      rintro e w2 ⟨rfl, k2⟩
      go_wp2
      go_ret2
      exact .inr (.inl ⟨hz, hf, rfl, k1.trans k2⟩)
    · have HW := fun w' (k' : Kp [] w w') => Lib.hid (rwhere_any w' A cap l (hA.kept k') a n 2 k (where_yes hs hok ha ha1 n1 n8 hf))
      obtain ⟨hk, hle, hfit⟩ := finds_at n1 hf
      obtain ⟨s1, s2, s3⟩ := hs.2 l[k] (List.getElem_mem _)
      have hl10 := hs.1
      have hAt := fun w' (k' : Kp [] w w') => (hA.kept k').at_ k hk
      obtain ⟨i39, i39a, i39b, i39c, i39d⟩ := info_parts info39
      go_enter Try.func16, Try.ntmps16
      go_wp2_with fail
      refine HS.out.mono ?_
      rintro e w1 ⟨rfl, k1⟩
      have HW1 := HW w1 k1
      clear HW
      go_wp2_with fail
      refine HW1.out.mono ?_
      rintro e w2 ⟨rfl, k2⟩
      have kk := k1.trans k2
      obtain ⟨b, off, rfl, hb, c0, c1, c2⟩ := hAt w2 kk
      clear hAt
      generalize hrr : l[k] = r at *
      have HRR := Lib.hid hrr
      clear hrr
      have HCV := Lib.run_convert_string_bytes (P := Try.prog) w2 9 57 5 r.f1 Try.underlying9 Try.underlying57 Try.underlying5
      have hcapl := hA.2.2.1
      have hsub : Hid (a - r.f0 = (((a - r.f0).toNat : Nat) : Int)) := (by omega : a - r.f0 = (((a - r.f0).toNat : Nat) : Int))
      obtain ⟨n', rfl⟩ := Int.eq_ofNat_of_zero_le (show 0 ≤ n by omega)
      rw [Int.toNat_natCast] at hfit
      go_wp2_with fail
      refine genW (fun ws => Kp [] w2 ws ∧ ∃ rest, YB ws w2.heap.size (bytesB r.f1) rest) ⟨kp_bytes _ _, yb_new _ _⟩ ?_
      rintro ws ⟨kb, rest, hy⟩
      clear HCV
      generalize hff : (a - r.f0).toNat = f at *
      have HFF := Lib.hid hff
      clear hff
      have hsb := hsub.out
      go_loopw [3, 12] (fun xx i wr => ∃ (j : Nat), j ≤ n' ∧ xx = .int .u64 (x / 256 ^ j) ∧ i = .int .i64 j ∧ Kp [] w2 wr ∧ YB wr w2.heap.size (patch (bytesB r.f1) f (leB x j)) rest) (fun _ i _ => n' - (intOf i).toNat)
      case atStart => exact ⟨0, by omega, by simp, rfl, kb, by rw [show leB x 0 = [] from rfl, patch_nil]; exact hy⟩
      case round =>
        obtain ⟨j, hj, rfl, rfl, kj, hbj⟩ := hrel
        have hy0 : 0 ≤ x / 256 ^ j := Int.ediv_nonneg hx0 (Int.le_of_lt (Int.pow_pos (by decide)))
        have hy1 : x / 256 ^ j < 18446744073709551616 := Int.lt_of_le_of_lt (Int.ediv_le_self _ hx0) hx
        have hpl : (patch (bytesB r.f1) f (leB x j)).length = r.f1.size := by rw [patch_len (by rw [leB_len, bytesB_len]; omega), bytesB_len]
        by_cases hlt : j < n'
        · have d0 := (World.cell?_of_block (a := ⟨b, off + k * 3, none⟩) (kj.block b hb (by simp))).trans c0
          have hlt2 : f + j < (patch (bytesB r.f1) f (leB x j)).length := by omega
          obtain ⟨v, b0⟩ : ∃ v, wr.cell? ⟨w2.heap.size, f + j, none⟩ = some (.int .u8 v) := ⟨(patch (bytesB r.f1) f (leB x j))[f + j], by rw [cellB hbj]; simp [List.getElem?_append_left, hlt2]⟩
          have b1 := frozC hbj (f + j) (by omega)
          have hs1 := setB hbj (f + j) (.int .u8 (x / 256 ^ j % 256))
          have e1 : (((patch (bytesB r.f1) f (leB x j)).map (Value.int .u8)) ++ rest).toArray.setIfInBounds (f + j) (.int .u8 (x / 256 ^ j % 256)) = (((patch (bytesB r.f1) f (leB x (j + 1))).map (Value.int .u8)) ++ rest).toArray := by
            have := patch_snoc (l := bytesB r.f1) (f := f) (bs := leB x j) (x / 256 ^ j % 256) (by rw [leB_len, bytesB_len]; omega)
            rw [leB_len] at this
            rw [show leB x (j + 1) = leB x j ++ [x / 256 ^ j % 256] from rfl, ← this]
            simp only [List.setIfInBounds_toArray]
            congr 1
            rw [List.set_append, if_pos (by simpa using hlt2), List.map_set]
          rw [e1] at hs1
          have hpl2 : (patch (bytesB r.f1) f (leB x (j + 1))).length = r.f1.size := by rw [patch_len (by rw [leB_len, bytesB_len]; omega), bytesB_len]
          have HS1 : Hid (YB (wr.setCell ⟨w2.heap.size, f + j, none⟩ (.int .u8 (x / 256 ^ j % 256))) w2.heap.size (patch (bytesB r.f1) f (leB x (j + 1))) rest) := (by unfold YB; rw [hs1, hpl, hpl2] : YB (wr.setCell ⟨w2.heap.size, f + j, none⟩ (.int .u8 (x / 256 ^ j % 256))) w2.heap.size (patch (bytesB r.f1) f (leB x (j + 1))) rest)
          have hk2 : Kp [] w2 (wr.setCell ⟨w2.heap.size, f + j, none⟩ (.int .u8 (x / 256 ^ j % 256))) := kj.setNew (Nat.le_refl _) _
          have HD : Hid (x / 256 ^ j / 256 = x / 256 ^ (j + 1)) := (by rw [Int.ediv_ediv_of_nonneg (Int.le_of_lt (Int.pow_pos (by decide))), Int.pow_succ] : x / 256 ^ j / 256 = x / 256 ^ (j + 1))
          clear hs1 e1 hbj hpl hpl2 hlt2
          generalize hyy : x / 256 ^ j = y at *
          have HY := Lib.hid hyy
          clear hyy
          go_wp2
          go_roundw
          case rel => exact ⟨j + 1, by omega, by rw [HD.out], by go_num, hk2, HS1.out⟩
          case measure => simp [intOf]; omega
        · have e : j = n' := by omega
          subst e
          have hd : decide ((j : Int) < j) = false := by simp
          have hAr := hA.kept (kk.trans kj)
          have hnews := rcells_at hAr
          go_wp2_with (at_builtin; refine wpList_append_lies _ rfl (.tmp 53) (.tmp 54) 22 rfl wr.heap.size 39 i39 (.agg #[.int .u64 0, .string ⟨#[]⟩, .int .i64 0]) 3 32 Try.underlying22 i39a i39b i39c i39d rfl (by decide) (.slice none 0 0) 0 [] rfl (own_nil _ _ _ _) ⟨b, off, none⟩ l.length cap (rcells l) rfl (rcells_len l) hnews (rcells_one l) (by omega) (by unfold maxLen; omega) (by omega) (Nat.le_refl _) wr.heap.size rfl ?_; intro g c' w5 hown hgrow hat hlt5; obtain ⟨b1, b2, b3, b4, b5, hst, v0, v1⟩ := behind (C := grownCap w2 r.f1.size 0 5) hk hown hgrow hat hbj (by omega) r.f1.size hpl; have B5 := Lib.hid (And.intro b1 (And.intro b2 (And.intro b3 (And.intro b4 b5)))); clear b1 b2 b3 b4 b5 hown hgrow hat)
          obtain ⟨k5, hgw, hc1, hc2, cur, hg5, hcur⟩ := B5.out
          have HI := Lib.hid (regs_put hA hk hg5 hcur hc1 hc2 (strOfNums (patch (bytesB r.f1) f (leB x j))))
          have kend : Kp [] w (w5.setCell ⟨g, k * 3 + 1, none⟩ (.string (strOfNums (patch (bytesB r.f1) f (leB x j))))) := ((kk.trans kj).trans k5).setNew (by have := (kk.trans kj).size; show w.heap.size ≤ g; omega) _
          have HWG : Hid (w.heap.size ≤ g) := (by have := (kk.trans kj).size; omega : w.heap.size ≤ g)
          go_ret2
          refine .inr (.inr ⟨hz, k, g, c', hk, hf, rfl, ?_, HWG.out, kend⟩)
          unfold putR
          rw [HRR.out, HFF.out, Int.toNat_natCast]
          have := HI.out
          rw [HRR.out] at this
          exact this
  · rw [decide_eq_false hz] at HS
    go_enter Try.func16, Try.ntmps16
    go_wp2_with fail
    refine HS.out.mono ?_
    rintro e w1 ⟨rfl, k1⟩
    go_wp2
    go_ret2
    exact .inl ⟨hz, rfl, k1⟩
end Go.Proofs.Ytndpmjgalmnhdaa
