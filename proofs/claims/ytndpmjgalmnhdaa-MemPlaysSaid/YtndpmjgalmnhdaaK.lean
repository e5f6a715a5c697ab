/- Package mem: the law's example (works); what New's pieces are (Good). -/
import Derived.Test.YtndpmjgalmnhdaaJ
namespace Go.Proofs.Ytndpmjgalmnhdaa
open Go.RowKit PMemPlays Go.Proofs.YtndpmjgalmnhdaaW.PrintWords Go.Proofs.YtndpmjgalmnhdaaW.PrintLast Go.Proofs.YtndpmjgalmnhdaaW.PrintMore
open Go.Sort Go.Shelf
set_option linter.unusedVariables false
set_option linter.unusedSimpArgs false

theorem okR_mem : ∀ (l : List S39) (e : Int), okR e l → ∀ r ∈ l, ¬ badR r ∧ e ≤ r.f0
  | r :: l, e, h, q, hq => by
    obtain ⟨h1, h2, h3⟩ := h
    rcases List.mem_cons.1 hq with rfl | hq
    · exact ⟨h1, h2⟩
    · have := okR_mem l _ h3 q hq
      exact ⟨this.1, by omega⟩
  | [], _, _, q, hq => absurd hq (by simp)
theorem okR_drop : ∀ (l : List S39) (e : Int) (i : Nat) (hi : i < l.length), okR e l → okR (l[i].f0 + l[i].f1.size) (l.drop (i + 1))
  | r :: l, e, 0, _, h => h.2.2
  | r :: l, e, i + 1, hi, h => okR_drop l _ i (by simpa using hi) h.2.2
theorem okR_lt {l : List S39} {e : Int} (h : okR e l) {i j : Nat} (hi : i < l.length) (hj : j < l.length) (hij : i < j) : l[i].f0 + l[i].f1.size ≤ l[j].f0 := by
  have h1 := okR_drop l e i hi h
  refine (okR_mem _ _ h1 l[j] ?_).2
  have : l[j] = (l.drop (i + 1))[j - (i + 1)]'(by rw [List.length_drop]; omega) := by
    rw [List.getElem_drop]
    congr 1
    omega
  rw [this]
  exact List.getElem_mem _
theorem bytesB_isB (s : ByteArray) : IsB (bytesB s) := by
  intro x hx
  unfold bytesB at hx
  obtain ⟨b, _, rfl⟩ := List.mem_map.1 hx
  have := b.toNat_lt
  omega
theorem good_new {l : List S39} (h : chk 0 l = 0) (hl : l.length ≤ 10) (hs : ∀ r ∈ l, r.f1.size ≤ 200) : Good (l.map pieceOf) := by
  have hok := (chk_ok l 0).2 h
  refine ⟨fun i j hi hj hij => ?_, ⟨by simpa using hl, fun p hp => ?_⟩, fun p hp => ?_⟩
  · simp only [List.getElem_map]
    have hi' : i < l.length := by simpa using hi
    have hj' : j < l.length := by simpa using hj
    show l[i].f0 ≤ l[j].f0
    rcases Nat.lt_or_ge i j with h1 | h1
    · have := okR_lt hok hi' hj' h1
      omega
    · have : i = j := by omega
      subst this
      omega
  · obtain ⟨r, hr, rfl⟩ := List.mem_map.1 hp
    obtain ⟨h1, h2⟩ := okR_mem l 0 hok r hr
    unfold badR at h1
    refine ⟨h2, ?_, by show (bytesB r.f1).length ≤ 200; rw [bytesB_len]; exact hs r hr⟩
    show r.f0 ≤ lastP
    omega
  · obtain ⟨r, hr, rfl⟩ := List.mem_map.1 hp
    exact bytesB_isB _
theorem at_one {p : S59} {a : Int} {k : Nat} (h : AtK [p] a k) : k = 0 := by
  obtain ⟨hk, _⟩ := h
  simpa using hk
theorem finds_one {p : S59} {a n rt : Int} (h : p.f0 ≤ a) (hl : ¬ Lacks p a n rt) : ¬ NotFound [p] a n rt := by
  rintro (h1 | ⟨k, q, hk, hq, h2⟩)
  · have := h1 0 (by simp)
    simp at this
    omega
  · have := at_one hk
    subst this
    simp at hq
    subst hq
    exact hl h2
theorem nofind_one {p : S59} {a n rt : Int} (hl : Lacks p a n rt) {k : Nat} (h : Finds [p] a n rt k) : False := by
  have := at_one h.1
  subst this
  exact h.2 p rfl hl
theorem good_patch {ps : List S59} (hg : Good ps) {k : Nat} {p : S59} (hp : ps[k]? = some p) {l : List Int} (hl : l.length = p.f1.length) (hb : IsB l) : Good (ps.set k ⟨p.f0, l, p.f2⟩) := by
  obtain ⟨hk, e⟩ := List.getElem?_eq_some_iff.1 hp
  have hpm := List.mem_of_getElem? hp
  have f0 : ∀ i (hi : i < ps.length) (hi' : i < (ps.set k ⟨p.f0, l, p.f2⟩).length), (ps.set k ⟨p.f0, l, p.f2⟩)[i].f0 = ps[i].f0 := by
    intro i hi hi'
    rw [List.getElem_set]
    split
    · next h => subst h; rw [e]
    · rfl
  refine ⟨fun i j hi hj hij => ?_, ⟨by simpa using hg.small.1, fun q hq => ?_⟩, fun q hq => ?_⟩
  · have hi' : i < ps.length := by simpa using hi
    have hj' : j < ps.length := by simpa using hj
    rw [f0 i hi' hi, f0 j hj' hj]
    exact hg.mono i j hi' hj' hij
  · rcases List.mem_or_eq_of_mem_set hq with hq | rfl
    · exact hg.small.2 q hq
    · have := hg.small.2 p hpm
      exact ⟨this.1, this.2.1, by show l.length ≤ 200; omega⟩
  · rcases List.mem_or_eq_of_mem_set hq with hq | rfl
    · exact hg.bytes q hq
    · exact hb

def P0 : S59 := ⟨16, [0, 0], 3⟩
def P1 : S59 := ⟨16, [0, 3], 3⟩
def exR : List S39 := [⟨16, ⟨#[0, 0]⟩, 3⟩]
set_option maxRecDepth 100000 in
theorem works_any (w : World) : Calls Try.prog 6 #[] w fun e w' => e = .returned (.bool true) ∧ Kp [] w w' := by
  have hR : IsRegs (w.alloc (.cells #[.int .u64 16, .string ⟨#[0, 0]⟩, .int .i64 3] 39)) (some ⟨w.heap.size, 0, none⟩) 1 exR := by
    refine ⟨⟨rfl, by decide, fun _ => ⟨_, rfl, fun j p hj => ?_⟩⟩, by decide, by decide, by decide⟩
    have h0 : j = 0 := by
      have := (List.getElem?_eq_some_iff.1 hj).1
      simp [exR] at this
      exact this
    subst h0
    simp [exR] at hj
    subst hj
    refine ⟨_, rfl, k39_mk _ _, fun i u hu => ?_⟩
    have hc := cellB (heap_alloc_new w (.cells #[.int .u64 16, .string ⟨#[0, 0]⟩, .int .i64 3] 39)) i
    have e : (⟨w.heap.size, 0, none⟩ : Addr).add (0 * k39.sz + i) = ⟨w.heap.size, i, none⟩ := by
      simp [Addr.add]
      intro h; exact h.symm
    rw [e, hc]
    simpa using hu
  have HN := Lib.hid (new_any _ (some ⟨w.heap.size, 0, none⟩) 1 exR hR (by decide) (by decide))
  go_enter Try.func6, Try.ntmps6
  go_wp2_with fail
  refine HN.out.mono ?_
  rintro e w1 ⟨k1, ⟨hc, m, bs, rfl, hm⟩ | ⟨hc, _⟩⟩
  case inr => exact absurd (by decide : chk 0 exR = 0) hc
  have hg := good_new hc (by decide) (by decide)
  rw [show exR.map pieceOf = [P0] from rfl] at hm hg
  clear hc HN hR
  have hl0 : ¬ Lacks P0 17 1 2 := by unfold Lacks; decide
  have HS := Lib.hid (store_any w1 _ m 0 bs [P0] hm hg 17 1 259 (by decide) (by decide) (by decide) (by decide) (by decide) (by decide))
  go_wp2_with fail
  refine HS.out.mono ?_
  rintro e w2 (⟨hs, _, _⟩ | ⟨_, hf, _, _⟩ | ⟨_, rfl, k, p, b, hf, hp, hb, k2, hm2⟩)
  · exact absurd (.inl rfl) hs
  · exact absurd hf (finds_one (by decide) hl0)
  have hk0 := at_one hf.1
  subst hk0
  simp at hp
  subst hp
  have hbB := (hm.bytes (k := 0) (p := P0) rfl hb).1
  have hmB := hm.mB
  have hg2 : Good [P1] := good_patch hg (k := 0) (p := P0) rfl (l := [0, 3]) rfl (by unfold IsB; decide)
  have hm3 : IsMem w2 (w.alloc (.cells #[.int .u64 16, .string ⟨#[0, 0]⟩, .int .i64 3] 39)).heap.size m 1 bs [P1] := hm2
  have hl1 : ¬ Lacks P1 16 2 1 := by unfold Lacks; decide
  have hl2 : Lacks P1 17 2 1 := by unfold Lacks; decide
  have kk : Kp [] w w2 := ((Kp.refl [] w).alloc _).into (k1.into k2 (by simp at hmB hbB ⊢; omega)) (by simp)
  have HL1 := Lib.hid (load_any w2 _ m 1 bs [P1] hm3 hg2 16 2 (by decide) (by decide))
  have HL2 := fun w3 (k3 : Kp [] w2 w3) => Lib.hid (load_any w3 _ m 1 bs [P1] (hm3.kept k3 (by simp)) hg2 17 2 (by decide) (by decide))
  have HWR := fun w3 (k3 : Kp [] w2 w3) => Lib.hid (written_any w3 _ m 1 bs [P1] (hm3.kept k3 (by simp)))
  clear HS hm hm2 hm3 hb k2 k1 hf hg hg2 hbB hmB hl0
  go_wp2_with fail
  refine HL1.out.mono ?_
  rintro e w3 ⟨x, c, rfl, hls, k3⟩
  obtain ⟨rfl, rfl⟩ : x = 768 ∧ c = 0 := by
    rcases hls with ⟨hs, _, _⟩ | ⟨_, hf, _, _⟩ | ⟨_, rfl, k, p, hf, hp, rfl⟩
    · exact absurd (.inr (.inl rfl)) hs
    · exact absurd hf (finds_one (by decide) hl1)
    · have hk0 := at_one hf.1
      subst hk0
      simp at hp
      subst hp
      exact ⟨by decide, rfl⟩
  clear HL1 hls hl1
  have HL3 := HL2 w3 k3
  clear HL2
  go_wp2_with fail
  refine HL3.out.mono ?_
  rintro e w4 ⟨x, c, rfl, hls, k4⟩
  obtain ⟨rfl, rfl⟩ : x = 0 ∧ c = 270 := by
    rcases hls with ⟨hs, _, _⟩ | ⟨_, hf, h1, h2⟩ | ⟨_, rfl, k, p, hf, hp, rfl⟩
    · exact absurd (.inr (.inl rfl)) hs
    · exact ⟨h1, h2⟩
    · exact (nofind_one hl2 hf).elim
  clear HL3 hls hl2
  have HW2 := HWR w4 (k3.trans k4)
  clear HWR
  go_wp2_with fail
  refine HW2.out.mono ?_
  rintro e w5 ⟨rfl, rfl⟩
  go_wp2
  go_ret
  exact ⟨rfl, kk.trans (k3.trans k4)⟩
end Go.Proofs.Ytndpmjgalmnhdaa
