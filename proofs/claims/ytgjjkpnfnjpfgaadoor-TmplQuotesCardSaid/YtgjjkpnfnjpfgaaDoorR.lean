/- The law TmplQuotes, walked. -/
import Derived.Test.YtgjjkpnfnjpfgaaDoorQ
import Derived.Lib.ReplaceLaws
import Derived.Deep.Slices
import Derived.Deep.Strs
import Derived.ChangeSame
import Derived.ChangeArms
import Derived.OpenShut
import Derived.ShutString
import Derived.ChangeOld
namespace Go.Proofs.YtgjjkpnfnjpfgaaDoor
open Go.Shelf Go.RowKit PAll Go.Proofs.YtgjjkpnfnjpfgaaDoorW.PrintWords Go.Proofs.YtgjjkpnfnjpfgaaDoorW.PrintLast Go.Proofs.YtgjjkpnfnjpfgaaDoorW.PrintMore
set_option linter.unusedVariables false
set_option linter.unusedSimpArgs false
theorem kblk {a b : World} (k : Kp [] a b) {i : Nat} {o : Obj} (h : a.heap[i]? = some o) : b.heap[i]? = some o := (k.block i (ltB h) (by simp)).trans h
set_option maxRecDepth 100000 in
set_option maxHeartbeats 2000000 in
theorem quote_calls (l : List UInt8) (hl : l.length ≤ 1000) (m : Int) (w : World) (hm : w.cell? ⟨0, 0, none⟩ = some (.int .i64 m)) : Calls Tryd.prog 6 #[.string (bs l)] w fun e w' => e = .returned (.string (bs (quoteL l))) ∧ Kp [] w w' := by
  have hsz : (bs l).size = l.length := bs_size l
  have hcb : Lib.countB (bs l) ⟨#[36]⟩ ≤ l.length := by
    have := Lib.countB_mul_le ⟨#[36]⟩ (by decide) (bs l).size (bs l) (Nat.le_refl _)
    rw [hsz] at this
    have e : (⟨#[36]⟩ : ByteArray).size = 1 := rfl
    rw [e, Nat.mul_one] at this
    exact this
  have R := Lib.hid (show Calls Tryd.prog 13 #[.string (bs l), .string ⟨#[36]⟩, .string ⟨#[36, 36]⟩] w fun e w' => e = .returned (.string (bs (quoteL l))) ∧ Kp [] w w' from by
    have e2 : (⟨#[36, 36]⟩ : ByteArray).size = 2 := rfl
    refine (Tryd.strings_ReplaceAll (bs l) ⟨#[36]⟩ ⟨#[36, 36]⟩ m w (by rw [hsz]; omega) hm (by decide) (by rw [hsz, e2]; omega)).mono ?_
    rintro e w' ⟨rfl, hb⟩
    refine ⟨?_, Kp.ofBel hb⟩
    have hd : (bs l).data.toList = l := by rw [bs_eq]
    rw [hd, bs_eq, ← replaceAll_quote])
  clear hm hcb
  go_enter Tryd.func6, Tryd.ntmps6
  go_wp2_with (go_at_call 13; refine (R.out).mono ?_; rintro e w1 ⟨rfl, k1⟩)
  go_ret
  exact ⟨rfl, k1⟩
theorem bsEq (l : List UInt8) : ((bs l).toList == (bs l).toList) = true := by simp
set_option maxRecDepth 100000 in
set_option maxHeartbeats 4000000 in
theorem quotes_walk (l : List UInt8) (t : ByteArray) (B : Option Addr) (cb : Nat) (sl : List Int) (m : Int) (w : World) (hm : w.cell? ⟨0, 0, none⟩ = some (.int .i64 m)) (hB : Kd.C (Kd.int .i64) w B sl.length sl) (hcb : sl.length ≤ cb) :
    Calls Tryd.prog 3 #[.string (bs l), .agg #[.string t, .slice B sl.length cb]] w fun e w' => e = .returned (.bool true) ∧ Below w.heap.size w w' := by
  have WC := Lib.hid works_calls
  have z0 : (bs l).size = l.length := bs_size l
  go_enter Tryd.func3, Tryd.ntmps3
  go_upto_region 1 with fail
  obtain ⟨W0, hW0⟩ : ∃ W, W = w.alloc (Obj.cells #[Value.string t, Value.slice B sl.length cb] 24) := ⟨_, rfl⟩
  obtain ⟨b3, hb3⟩ : ∃ b, b = w.heap.size := ⟨_, rfl⟩
  have k0 : Kp [] w W0 := by rw [hW0]; exact (Kp.refl [] w).alloc _
  have H3 : W0.heap[b3]? = some (Obj.cells #[Value.string t, Value.slice B sl.length cb] 24) := by rw [hW0, hb3]; exact heap_alloc_new _ _
  rw [← hW0, ← hb3]
  clear hW0 hb3
  by_cases hl : l.length ≤ 1000
  rotate_left
  · have d0 : decide ((1000 : Int) < (l.length : Int)) = true := decide_eq_true (by omega)
    go_wp2_with (go_at_call 4; refine (WC.out _).mono ?_; rintro e w1 ⟨rfl, k1⟩)
    go_ret
    exact ⟨rfl, (k0.trans k1).bel⟩
  have d0 : decide ((1000 : Int) < (l.length : Int)) = false := decide_eq_false (by omega)
  obtain ⟨p, hp, hex, hgr⟩ := quote_new [] t sl (l.length + 1) l ((quoteL l).length + 1) (by omega) (by omega)
  have hql := quote_len l
  have h0lt : 0 < w.heap.size := World.block_lt_of_cell? w _ hm
  have QC := Lib.hid (fun W (k : Kp [] w W) => quote_calls l hl m W ((by rw [World.cell?_of_block (k.block 0 h0lt (by simp))]; exact hm)))
  have NC := Lib.hid (show ∀ W, Calls Tryd.prog 5 #[.string (bs (quoteL l)), .slice none 0 0] W fun e w' => NewPost W (.inr p) e w' from fun W => by
    have := new_calls none 0 [] (quoteL l) W (by decide) (by decide) (by omega) (fun w' k => Kd.C_nil _ _)
    rw [hp] at this
    exact this)
  have hpl := newL_len [] _ _ _ hp
  have hok : ∀ q ∈ p, okPc q := (newL_ok [] (by decide) _ _ _ (by omega) hp).2
  have hne : p ≠ [] := (newL_ok [] (by decide) _ _ _ (by omega) hp).1
  have hwB : ∀ W, Kp [] w W → Kd.C (Kd.int .i64) W B sl.length sl := fun W k => Kd.C_below hB k.bel
  have EC := Lib.hid (show ∀ (b : Nat) (u : Value) W, Kp [] w W → TBox b (p.map Pc.val) u W → Calls Tryd.prog 7 #[.pointer (some ⟨b, 0, none⟩), .string t, .slice B sl.length cb] W fun e w' => e = .returned (.string (bs l)) ∧ Kp [] W w' from fun b u W k hT => by
    have := expand_calls b p u t B cb sl W hT hne (by omega) (.inr hgr) hcb (hwB W k) hok
    rw [hex, ← bs_eq] at this
    exact this.mono fun e w' ⟨h1, h2⟩ => ⟨h1, Kp.ofBel h2⟩)
  have GC := Lib.hid (show ∀ (b : Nat) (u : Value) W, TBox b (p.map Pc.val) u W → Calls Tryd.prog 8 #[.pointer (some ⟨b, 0, none⟩)] W fun e w' => ∃ A c, e = .returned (.slice A 0 c) ∧ Kp [] W w' from fun b u W hT => by
    refine (groups_calls b p u W hT hne (by omega)).mono ?_
    rintro e w' ⟨v, rfl, ho, hk⟩
    rw [hgr] at ho
    rcases ho.2 with ⟨rfl, _⟩ | ⟨g, cap, cur, rfl, _⟩
    · exact ⟨none, 0, rfl, hk⟩
    · exact ⟨_, cap, rfl, hk⟩)
  clear hp hex hgr hql hpl hok hne hwB hm
  go_upto_region 6 with (first | (go_at_call 4; refine (WC.out _).mono ?_; rintro e w1 ⟨rfl, k1⟩) | (go_at_call 6; refine (QC.out _ (k0.trans k1)).mono ?_; rintro e w2 ⟨rfl, k2⟩) | (go_at_call 5; refine (NC.out _).mono ?_; rintro e w3 ⟨bb, u, rfl, hb, hT, k3⟩))
  clear QC NC WC
  have k4 := ((k0.trans k1).trans k2).trans k3
  have hb3 := kblk ((k1.trans k2).trans k3) H3
  have y0 := cellB hb3 0
  have y1 := cellB hb3 1
  have lt3 := ltB hb3
  have ltT := ltB hT.box
  have EC' := Lib.hid (EC.out bb u w3 k4 hT)
  have GC' := Lib.hid (fun W (k : Kp [] w3 W) => GC.out bb u W (hT.kp k))
  clear EC GC
  have e1 := bsEq l
  go_wp2_with (first | (go_at_call 7; (refine (EC'.out).mono ?_); rintro e w5 ⟨rfl, k5⟩) | (go_at_call 8; (refine (GC'.out _ k5).mono ?_); rintro e w6 ⟨A6, c6, rfl, k6⟩))
  go_ret
  exact ⟨rfl, ((k4.trans k5).trans k6).bel⟩
section
open Go.Deep Go.ChangeShapes Go.WideShapes
set_option maxRecDepth 100000
variable {H : Type} {enc : TypeId × Value → H} {w : World} {base : Nat} {spare : Nat → Bool} {held : Bool} {r : Reach} {b0 : Nat} {v : Value} {d : DataW H} {p : List MemPlace}
theorem openRow {α : Type} [Inhabited α] (kd : Kd α) {t e : TypeId} (ht : Tryd.prog.underlying t = some (.slice e)) (sz : Tryd.prog.cellsOf e = kd.sz) {fuel : Nat}
    (el : ∀ m, m < fuel → ∀ (cs : List Value) (y : DataW H × List MemPlace), DataW.trod enc Tryd.prog w base spare held m e cs = some y → ∃ x : α, kd.K w x cs)
    {cs : List Value} {y : DataW H × List MemPlace} (h : DataW.trod enc Tryd.prog w base spare held fuel t cs = some y) :
    ∃ (A : Option Addr) (cap : Nat) (l : List α), cs = [.slice A l.length cap] ∧ kd.C w A l.length l ∧ l.length ≤ cap := by
  rcases DataW.trod_slice ht h with ⟨rfl, _⟩ | ⟨a, len, cap, elems, rest, n, hn, rfl, _, _, hl, hm, hlen, hel, _, _⟩
  · exact ⟨none, 0, [], rfl, ⟨rfl, by simp, fun h => absurd h (by simp)⟩, Nat.le_refl _⟩
  · rw [sz] at hel
    have hml : maxLen = 9223372036854775807 := rfl
    have each : ∀ i, i < len → ∃ x : α, ∃ cs : List Value, kd.K w x cs ∧ ∀ j u, cs[j]? = some u → w.cell? (a.add (i * kd.sz + j)) = some u := by
      intro i hi
      have h1 := hel i hi
      rw [List.getElem?_eq_getElem (by omega)] at h1
      cases hc : w.cells? base (a.add (i * kd.sz)) kd.sz with
      | none => rw [hc] at h1; cases h1
      | some cs' =>
        rw [hc] at h1
        obtain ⟨x, hx⟩ := el n (by omega) cs' _ h1
        obtain ⟨_, hlen', hcell⟩ := World.cells?_some hc
        refine ⟨x, cs', hx, fun j u hu => ?_⟩
        have hj : j < kd.sz := by have := (List.getElem?_eq_some_iff.1 hu).1; omega
        have := hcell j (by omega)
        rw [Go.Deep.add_add] at this
        exact this.trans hu
    obtain ⟨q, hq⟩ := choose_lt each
    refine ⟨some a, cap, (List.range len).map q, by simp, ⟨rfl, by simp; omega, fun h => ⟨a, rfl, fun j x hx => ?_⟩⟩, by simp; omega⟩
    rw [List.getElem?_map] at hx
    by_cases hj : j < len
    · rw [List.getElem?_range hj] at hx
      simp at hx
      subst hx
      obtain ⟨cs, hK, hc⟩ := hq j hj
      exact ⟨cs, kd.K_len hK, hK, hc⟩
    · rw [List.getElem?_eq_none (by simpa using hj)] at hx
      simp at hx
theorem openWith (hv : Value.okWide Tryd.prog w r b0 24 v) (h : DataW.Trod enc Tryd.prog w base spare held 24 v d p) : ∃ (t : ByteArray) (B : Option Addr) (c : Nat) (sl : List Int), v = .agg #[.string t, .slice B sl.length c] ∧ (Kd.C (Kd.int .i64) w B sl.length sl ∧ sl.length ≤ c) := by
  obtain ⟨cs, rfl, hsz⟩ := okWide_struct Tryd.underlying24 hv
  have c34 : Tryd.prog.cellsOf 24 = 2 := by kernel_rfl
  have c9 : Tryd.prog.cellsOf 9 = 1 := by kernel_rfl
  have c29 : Tryd.prog.cellsOf 22 = 1 := by kernel_rfl
  have c3 : Tryd.prog.cellsOf 3 = 1 := by kernel_rfl
  rw [c34] at hsz
  obtain ⟨a, b, hcs⟩ : ∃ a b, cs = #[a, b] := by
    match cs, hsz with
    | ⟨[a, b]⟩, _ => exact ⟨a, b, rfl⟩
  subst hcs
  obtain ⟨fuel, hf⟩ := h
  obtain ⟨y0, y1, n, hx, hl, h0, h1⟩ := trod_struct2 Tryd.underlying24 hf
  have hd : d = .agg [y0.1, y1.1] := congrArg Prod.fst hx
  simp only [Value.cells, c9, c29, List.drop_zero, List.take_succ_cons, List.take_zero, List.drop_succ_cons] at h0 h1
  obtain ⟨t, e0, z0, _⟩ := DataW.trod_string Tryd.underlying9 h0
  simp at e0
  subst e0
  have : Inhabited Int := ⟨0⟩
  obtain ⟨A, c, l, hcs, hC, hlc⟩ := openRow (Kd.int .i64) Tryd.underlying22 c3 (fun m _ cs y hy => by
    obtain ⟨i, hi⟩ := DataW.trod_int Tryd.underlying3 hy
    exact ⟨i, hi.1⟩) h1
  simp at hcs
  subst hcs
  exact ⟨t, A, c, l, rfl, hC, hlc⟩
end
theorem quotes_row (W : World) (s : ByteArray) (t : ByteArray) (B : Option Addr) (cb : Nat) (sl : List Int) (h2 : Kd.C (Kd.int .i64) W B sl.length sl ∧ sl.length ≤ cb) (m : Int) (hm : W.cell? ⟨0, 0, none⟩ = some (.int .i64 m)) :
    Calls Tryd.prog 3 #[.string s, .agg #[.string t, .slice B sl.length cb]] W fun e w' => e = .returned (.bool true) ∧ Below W.heap.size W w' := by
  rw [bs_of s]
  exact quotes_walk s.toList t B cb sl m W hm h2.1 h2.2
end Go.Proofs.YtgjjkpnfnjpfgaaDoor
