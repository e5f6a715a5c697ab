/- The arguments of TmplJoins, opened; the law's row. -/
import Derived.Test.YtgjjkpnfnjpfgaaT
import Derived.Deep.Slices
import Derived.Deep.Strs
import Derived.ChangeSame
import Derived.ChangeArms
import Derived.OpenShut
import Derived.ShutString
import Derived.ChangeOld
namespace Go.Proofs.Ytgjjkpnfnjpfgaa
open Go.Shelf Go.RowKit PAll Go.Proofs.YtgjjkpnfnjpfgaaW.PrintWords Go.Proofs.YtgjjkpnfnjpfgaaW.PrintLast Go.Proofs.YtgjjkpnfnjpfgaaW.PrintMore
open Go.Deep Go.ChangeShapes Go.WideShapes
set_option linter.unusedVariables false
set_option linter.unusedSimpArgs false
set_option maxRecDepth 100000
theorem bulk_one {H : Type} (d : DataW H) : 1 ≤ Rows.uptoBulk d := by
  cases d with
  | lit l => cases l <;> simp [Rows.uptoBulk]
  | nil => simp [Rows.uptoBulk]
  | ptr d => simp [Rows.uptoBulk]
  | slice elems spare => simp [Rows.uptoBulk]
  | agg parts => simp [Rows.uptoBulk]
  | iface t d => simp [Rows.uptoBulk]
  | map entries => simp [Rows.uptoBulk]
  | held h => simp [Rows.uptoBulk]
theorem bulk_len {H : Type} (l : List (DataW H)) : l.length ≤ Rows.uptoBulkAll l := by
  induction l with
  | nil => simp [Rows.uptoBulkAll]
  | cons x r ih => have := bulk_one x; simp only [Rows.uptoBulkAll, List.length_cons]; omega
section
variable {H : Type} {enc : TypeId × Value → H} {w : World} {base : Nat} {spare : Nat → Bool} {held : Bool} {r : Reach} {b0 : Nat} {v : Value} {d : DataW H} {p : List MemPlace}
theorem openRow {α : Type} [Inhabited α] (kd : Kd α) {t e : TypeId} (ht : Try.prog.underlying t = some (.slice e)) (sz : Try.prog.cellsOf e = kd.sz) {fuel : Nat}
    (el : ∀ m, m < fuel → ∀ (cs : List Value) (y : DataW H × List MemPlace), DataW.trod enc Try.prog w base spare held m e cs = some y → ∃ x : α, kd.K w x cs)
    {cs : List Value} {y : DataW H × List MemPlace} (h : DataW.trod enc Try.prog w base spare held fuel t cs = some y) :
    ∃ (A : Option Addr) (cap : Nat) (l : List α), cs = [.slice A l.length cap] ∧ kd.C w A l.length l ∧ l.length ≤ cap := by
  rcases DataW.trod_slice ht h with ⟨rfl, _⟩ | ⟨a, len, cap, elems, rest, n, hn, rfl, _, _, hl, hm, hlen, hel, _, _⟩
  · exact ⟨none, 0, [], rfl, ⟨rfl, by simp, fun h => absurd h (by simp)⟩, Nat.le_refl _⟩
  · rw [sz] at hel
    have hml : maxLen = 9223372036854775807 := rfl
    have each : ∀ i, i < len → ∃ x : α, ∃ cs : List Value, kd.K w x cs ∧ ∀ j u, cs[j]? = some u → w.cell? (a.add (i * kd.sz + j)) = some u := by
      intro i hi
      have h1 := hel i hi
      rw [List.getElem?_eq_getElem (by omega)] at h1
      cases hc : w.cells? base (a.add (i * kd.sz)) kd.sz with
      | none => rw [hc] at h1; cases h1
      | some cs' =>
        rw [hc] at h1
        obtain ⟨x, hx⟩ := el n (by omega) cs' _ h1
        obtain ⟨_, hlen', hcell⟩ := World.cells?_some hc
        refine ⟨x, cs', hx, fun j u hu => ?_⟩
        have hj : j < kd.sz := by have := (List.getElem?_eq_some_iff.1 hu).1; omega
        have := hcell j (by omega)
        rw [Go.Deep.add_add] at this
        exact this.trans hu
    obtain ⟨q, hq⟩ := choose_lt each
    refine ⟨some a, cap, (List.range len).map q, by simp, ⟨rfl, by simp; omega, fun h => ⟨a, rfl, fun j x hx => ?_⟩⟩, by simp; omega⟩
    rw [List.getElem?_map] at hx
    by_cases hj : j < len
    · rw [List.getElem?_range hj] at hx
      simp at hx
      subst hx
      obtain ⟨cs, hK, hc⟩ := hq j hj
      exact ⟨cs, kd.K_len hK, hK, hc⟩
    · rw [List.getElem?_eq_none (by simpa using hj)] at hx
      simp at hx
theorem trod_array2 {t e : TypeId} {fuel : Nat} {c0 c1 : Value} {x : DataW H × List MemPlace} (ht : Try.prog.underlying t = some (.array 2 e)) (hce : Try.prog.cellsOf e = 1)
    (h : DataW.trod enc Try.prog w base spare held fuel t [c0, c1] = some x) :
    ∃ y0 y1 n, DataW.trod enc Try.prog w base spare held n e [c0] = some y0 ∧ DataW.trod enc Try.prog w base spare held n e [c1] = some y1 := by
  cases fuel with
  | zero => simp [DataW.trod] at h
  | succ n =>
    unfold DataW.trod at h
    rw [ht] at h
    have r2 : List.range 2 = [0, 1] := rfl
    simp [r2, hce] at h
    obtain ⟨_, h⟩ := h
    cases h0 : DataW.trod enc Try.prog w base spare held n e [c0] with
    | none => simp [h0] at h
    | some y0 =>
      cases h1 : DataW.trod enc Try.prog w base spare held n e [c1] with
      | none => simp [h0, h1] at h
      | some y1 => exact ⟨y0, y1, n, h0, h1⟩

theorem openTwo (hv : Value.okWide Try.prog w r b0 31 v) (h : DataW.Trod enc Try.prog w base spare held 31 v d p) : ∃ (s0 s1 : ByteArray), v = .agg #[.string s0, .string s1] ∧ True := by
  obtain ⟨cs, rfl, hsz⟩ : ∃ cs, v = .agg cs ∧ cs.size = 2 := by
    simp only [Value.okWide, Try.underlying31] at hv
    obtain ⟨cs, h1, h2, _⟩ := hv
    exact ⟨cs, h1, h2.trans (by kernel_rfl)⟩
  obtain ⟨fuel, hf⟩ := h
  obtain ⟨a, b, hcs⟩ : ∃ a b, cs = #[a, b] := by
    match cs, hsz with
    | ⟨[a, b]⟩, _ => exact ⟨a, b, rfl⟩
  subst hcs
  obtain ⟨y0, y1, n, h0, h1⟩ := trod_array2 Try.underlying31 (by kernel_rfl) hf
  obtain ⟨s0, e0, _⟩ := DataW.trod_string Try.underlying9 h0
  obtain ⟨s1, e1, _⟩ := DataW.trod_string Try.underlying9 h1
  simp at e0 e1
  subst e0 e1
  exact ⟨s0, s1, rfl, trivial⟩
theorem openStrs (hv : Value.okWide Try.prog w r b0 32 v) (h : DataW.Trod enc Try.prog w base spare held 32 v d p) : ∃ (A : Option Addr) (c : Nat) (ns : List ByteArray), v = .slice A ns.length c ∧ (Kd.C Kd.string w A ns.length ns ∧ ns.length ≤ c) := by
  obtain ⟨a, len, cap, rfl⟩ := okWide_slice Try.underlying32 hv
  obtain ⟨fuel, hf⟩ := h
  have : Inhabited ByteArray := ⟨ByteArray.empty⟩
  have c9 : Try.prog.cellsOf 9 = 1 := by kernel_rfl
  obtain ⟨A, c, l, hcs, hC, hl⟩ := openRow Kd.string Try.underlying32 c9 (fun m _ cs y hy => by
    obtain ⟨s, q, _, _⟩ := DataW.trod_string Try.underlying9 hy
    exact ⟨s, q⟩) hf
  simp [Value.cells] at hcs
  obtain ⟨rfl, rfl, rfl⟩ := hcs
  exact ⟨_, _, l, rfl, hC, hl⟩
theorem openWith (hv : Value.okWide Try.prog w r b0 34 v) (h : DataW.Trod enc Try.prog w base spare held 34 v d p) : ∃ (t : ByteArray) (B : Option Addr) (c : Nat) (sl : List Int), v = .agg #[.string t, .slice B sl.length c] ∧ (Kd.C (Kd.int .i64) w B sl.length sl ∧ sl.length ≤ c ∧ t.size + sl.length ≤ Rows.uptoBulk d) := by
  obtain ⟨cs, rfl, hsz⟩ := okWide_struct Try.underlying34 hv
  have c34 : Try.prog.cellsOf 34 = 2 := by kernel_rfl
  have c9 : Try.prog.cellsOf 9 = 1 := by kernel_rfl
  have c29 : Try.prog.cellsOf 29 = 1 := by kernel_rfl
  have c3 : Try.prog.cellsOf 3 = 1 := by kernel_rfl
  rw [c34] at hsz
  obtain ⟨a, b, hcs⟩ : ∃ a b, cs = #[a, b] := by
    match cs, hsz with
    | ⟨[a, b]⟩, _ => exact ⟨a, b, rfl⟩
  subst hcs
  obtain ⟨fuel, hf⟩ := h
  obtain ⟨y0, y1, n, hx, hl, h0, h1⟩ := trod_struct2 Try.underlying34 hf
  have hd : d = .agg [y0.1, y1.1] := congrArg Prod.fst hx
  simp only [Value.cells, c9, c29, List.drop_zero, List.take_succ_cons, List.take_zero, List.drop_succ_cons] at h0 h1
  obtain ⟨t, e0, z0, _⟩ := DataW.trod_string Try.underlying9 h0
  simp at e0
  subst e0
  have hz0 : Rows.uptoBulk y0.1 = t.size + 1 := by
    rw [z0]
    have e : t.data.toList.length = t.size := by rw [Array.length_toList]; rfl
    simp [Rows.uptoBulk, e]
  have : Inhabited Int := ⟨0⟩
  obtain ⟨A, c, l, hcs, hC, hlc⟩ := openRow (Kd.int .i64) Try.underlying29 c3 (fun m _ cs y hy => by
    obtain ⟨i, hi⟩ := DataW.trod_int Try.underlying3 hy
    exact ⟨i, hi.1⟩) h1
  simp at hcs
  subst hcs
  refine ⟨t, A, c, l, rfl, hC, hlc, ?_⟩
  have hz1 : l.length ≤ Rows.uptoBulk y1.1 := by
    rcases DataW.trod_slice Try.underlying29 h1 with ⟨q, _⟩ | ⟨a', len', cap', elems, rest, n', hn, q, hx', _, hle, hm, hel, _⟩
    · simp at q
      omega
    · simp at q
      rw [hx']
      simp only [Rows.uptoBulk]
      have := bulk_len (elems.map (·.1))
      rw [List.length_map] at this
      omega
  rw [hd]
  simp only [Rows.uptoBulk, Rows.uptoBulkAll]
  omega
end
theorem joins_row (W : World) (s0 s1 : ByteArray) (A : Option Addr) (c : Nat) (N : List ByteArray) (t : ByteArray) (B : Option Addr) (cb : Nat) (sl : List Int) (h1 : Kd.C Kd.string W A N.length N ∧ N.length ≤ c) (n : Nat) (h2 : Kd.C (Kd.int .i64) W B sl.length sl ∧ sl.length ≤ cb ∧ t.size + sl.length ≤ n) (hn : n ≤ 1048576) :
    Calls Try.prog 4 #[.agg #[.string s0, .string s1], .slice A N.length c, .agg #[.string t, .slice B sl.length cb]] W fun e w' => e = .returned (.bool true) ∧ Below W.heap.size W w' := by
  rw [bs_of s0, bs_of s1]
  exact joins_walk s0.toList s1.toList A c N t B cb sl W h1.1 h1.2 h2.1 h2.2.1 (by omega) (by omega)
end Go.Proofs.Ytgjjkpnfnjpfgaa
