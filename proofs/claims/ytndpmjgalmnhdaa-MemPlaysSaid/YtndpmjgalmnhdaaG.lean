/- Package mem: Load, Store, Fetch, Region, Written: what they answer, and what a store leaves. -/
import Derived.Test.YtndpmjgalmnhdaaE
import Derived.Test.YtndpmjgalmnhdaaF
import Derived.Lib.SliceRun
namespace Go.Proofs.Ytndpmjgalmnhdaa
open Go.RowKit PMemPlays Go.Proofs.YtndpmjgalmnhdaaW.PrintWords Go.Proofs.YtndpmjgalmnhdaaW.PrintLast Go.Proofs.YtndpmjgalmnhdaaW.PrintMore
open Go.Sort Go.Shelf
set_option linter.unusedVariables false
set_option linter.unusedSimpArgs false

theorem eq57 : ∀ (w : World) (a : Option Addr) (n c n' c' : Nat), (binOp .eql 57 (.slice a n c) (.slice none n' c')).run Try.prog w = .ok (.bool a.isNone) w := fun w a n c n' c' => Lib.run_eql_slice_nil w 57 5 a n c n' c' Try.underlying57
def SizeOk (n : Int) : Prop := n = 1 ∨ n = 2 ∨ n = 4 ∨ n = 8
theorem size_yes (n : Int) (h : SizeOk n) (w : World) : Calls Try.prog 20 #[.int .i64 n] w fun e w' => e = .returned (.bool true) ∧ w = w' := by
  rcases h with rfl | rfl | rfl | rfl
  all_goals
    go_enter Try.func20, Try.ntmps20
    go_wp2
    go_ret
    exact ⟨rfl, rfl⟩
theorem size_no (n : Int) (h : ¬ SizeOk n) (w : World) : Calls Try.prog 20 #[.int .i64 n] w fun e w' => e = .returned (.bool false) ∧ w = w' := by
  unfold SizeOk at h
  have h1 : (n == 1) = false := by simp; omega
  have h2 : (n == 2) = false := by simp; omega
  have h4 : (n == 4) = false := by simp; omega
  have h8 : (n == 8) = false := by simp; omega
  clear h
  go_enter Try.func20, Try.ntmps20
  go_wp2
  go_ret
  exact ⟨rfl, rfl⟩

/-- All that is asked of the pieces of a memory. -/
structure Good (ps : List S59) : Prop where
  mono : Mono ps
  small : Small ps
  bytes : ∀ p ∈ ps, IsB p.f1
/-- Where find finds: the piece and how far in. -/
def Finds (ps : List S59) (a n rt : Int) (k : Nat) : Prop := AtK ps a k ∧ ∀ p, ps[k]? = some p → ¬ Lacks p a n rt
def NotFound (ps : List S59) (a n rt : Int) : Prop := (∀ i (hi : i < ps.length), a < ps[i].f0) ∨ ∃ k p, AtK ps a k ∧ ps[k]? = some p ∧ Lacks p a n rt
theorem AtK.some {ps : List S59} {a : Int} {k : Nat} (h : AtK ps a k) : ∃ p, ps[k]? = some p ∧ p.f0 ≤ a := by
  obtain ⟨hk, h1, _⟩ := h
  exact ⟨ps[k], by simp [hk], h1⟩
theorem at_cases : ∀ (n : Nat) (ps : List S59) (a : Int), n = ps.length → (∀ i (hi : i < ps.length), a < ps[i].f0) ∨ ∃ k, AtK ps a k := by
  intro n ps a _
  by_cases h : ∃ k, ∃ hk : k < ps.length, ps[k].f0 ≤ a
  · right
    obtain ⟨k, hk, h1⟩ := h
    suffices ∀ (j k : Nat) (hk : k < ps.length), ps[k].f0 ≤ a → ps.length - k ≤ j → ∃ k, AtK ps a k from this (ps.length - k) k hk h1 (Nat.le_refl _)
    intro j
    induction j with
    | zero => intro k hk; omega
    | succ j ih =>
      intro k hk h1 hj
      by_cases h2 : ∃ i, ∃ hi : i < ps.length, k < i ∧ ps[i].f0 ≤ a
      · obtain ⟨i, hi, hki, h3⟩ := h2
        exact ih i hi h3 (by omega)
      · exact ⟨k, hk, h1, fun i hi hki => by
          rcases Int.lt_or_le a ps[i].f0 with h4 | h4
          · exact h4
          · exact absurd ⟨i, hi, hki, h4⟩ h2⟩
  · left
    intro i hi
    rcases Int.lt_or_le a ps[i].f0 with h4 | h4
    · exact h4
    · exact absurd ⟨i, hi, h4⟩ h
theorem find_cases (ps : List S59) (a n rt : Int) : NotFound ps a n rt ∨ ∃ k, Finds ps a n rt k := by
  rcases at_cases _ ps a rfl with h | ⟨k, h⟩
  · exact .inl (.inl h)
  · obtain ⟨p, hp, _⟩ := h.some
    by_cases hl : Lacks p a n rt
    · exact .inl (.inr ⟨k, p, h, hp, hl⟩)
    · exact .inr ⟨k, h, fun q hq => by rw [hp] at hq; injection hq with hq; exact hq ▸ hl⟩
theorem find_none (w : World) (B m wr bs ps) (h : IsMem w B m wr bs ps) (hg : Good ps) (a n rt : Int) (ha : a < 18446744073709551616) (hn : 1 ≤ n) (hn8 : n ≤ 8) (hno : NotFound ps a n rt) :
    Calls Try.prog 21 #[.pointer (some ⟨m, 0, none⟩), .int .u64 a, .int .i64 n, .int .i64 rt] w fun e w' => e = .returned (.slice none 0 0) ∧ Kp [] w w' := by
  rcases hno with h0 | ⟨k, p, hat, hp, hl⟩
  · exact find_out w B m wr bs ps h hg.mono hg.small a n rt h0
  · have hk : k < bs.length := by have := (List.getElem?_eq_some_iff.1 hp).1; have := h.len; omega
    exact find_no w B m wr bs ps h hg.mono hg.small a n rt k bs[k] p hp (by simp [hk]) hat ha hn hn8 hl

theorem sizeOk_bd {n : Int} (h : SizeOk n) : 1 ≤ n ∧ n ≤ 8 := by unfold SizeOk at h; omega

/-- What Load answers. -/
def LoadSays (ps : List S59) (a n : Int) (x c : Int) : Prop :=
  (¬ SizeOk n ∧ x = 0 ∧ c = 1) ∨ (SizeOk n ∧ NotFound ps a n 1 ∧ x = 0 ∧ c = 270) ∨ (SizeOk n ∧ c = 0 ∧ ∃ k p, Finds ps a n 1 k ∧ ps[k]? = some p ∧ x = numB (cutB p.f1 (a - p.f0).toNat n.toNat))
theorem not_lacks {p : S59} {a n rt : Int} (h : ¬ Lacks p a n rt) (hle : p.f0 ≤ a) (hn : 1 ≤ n) : (a - p.f0).toNat + n.toNat ≤ p.f1.length := by
  unfold Lacks at h
  omega
theorem IsMem.bytes {w : World} {B m wr bs ps} (h : IsMem w B m wr bs ps) {k b : Nat} {p : S59} (hp : ps[k]? = some p) (hb : bs[k]? = some b) : B ≤ b ∧ w.heap[b]? = some (.cells (p.f1.map (Value.int .u8)).toArray 5 (0, 0)) := by
  obtain ⟨hk, rfl⟩ := List.getElem?_eq_some_iff.1 hp
  obtain ⟨hk', rfl⟩ := List.getElem?_eq_some_iff.1 hb
  exact h.by_ k hk hk'
/-- The bytes that a part of a piece reads as. -/
theorem reads_cut {w : World} {b : Nat} {l : List Int} (h : w.heap[b]? = some (.cells (l.map (Value.int .u8)).toArray 5 (0, 0))) (f n : Nat) (hfn : f + n ≤ l.length) (hl : l.length ≤ 200) :
    Kd.C (Kd.int .u8) w (some ⟨b, f, none⟩) (cutB l f n).length (cutB l f n) := by
  refine ⟨rfl, ?_, fun _ => ⟨_, rfl, fun j x hj => ⟨[.int .u8 x], rfl, rfl, fun i u hu => ?_⟩⟩⟩
  · unfold cutB; rw [List.length_take, List.length_drop]; omega
  · have hi : i = 0 := by
      have := (List.getElem?_eq_some_iff.1 hu).1
      simp at this
      exact this
    subst hi
    simp at hu
    subst hu
    unfold cutB at hj
    rw [List.getElem?_take] at hj
    split at hj
    · rw [List.getElem?_drop] at hj
      have e : (⟨b, f, none⟩ : Addr).add (j * (Kd.int IntKind.u8).sz + 0) = ⟨b, f + j, none⟩ := by
        have : (Kd.int IntKind.u8).sz = 1 := rfl
        rw [this]
        simp [Addr.add]
      rw [e, cellB h]
      simp [hj]
    · simp at hj
theorem cutB_len {l : List Int} {f n : Nat} (h : f + n ≤ l.length) : (cutB l f n).length = n := by unfold cutB; rw [List.length_take, List.length_drop]; omega
theorem cutB_isB {l : List Int} (h : IsB l) (f n : Nat) : IsB (cutB l f n) := fun x hx => h x (List.mem_of_mem_drop (List.mem_of_mem_take hx))
/-- number, called on what find found. -/
theorem number_at {w : World} {b : Nat} {l : List Int} (h : w.heap[b]? = some (.cells (l.map (Value.int .u8)).toArray 5 (0, 0))) (hB : IsB l) (f n c : Nat) (hfn : f + n ≤ l.length) (hl : l.length ≤ 200) (hn : n ≤ 8) (hc : n ≤ c) :
    Calls Try.prog 22 #[.slice (some ⟨b, f, none⟩) n c] w fun e w' => e = .returned (.int .u64 (numB (cutB l f n))) ∧ Kp [] w w' := by
  have hlen := cutB_len hfn
  have := mem_number.calls 10 (some ⟨b, f, none⟩) c (cutB l f n) (numB (cutB l f n)) w (reads_cut h f n hfn hl) (by omega) (number_f _ (by omega) (cutB_isB hB f n))
  rw [hlen] at this
  refine this.mono ?_
  rintro e w' ⟨rfl, ⟨q, rfl⟩⟩
  exact ⟨rfl, kp_drewN w q⟩
def LoadPost (ps : List S59) (a n : Int) (w : World) (e : Ending) (w' : World) : Prop := ∃ x c, e = .returned (.tuple #[.int .u64 x, .int .i64 c]) ∧ LoadSays ps a n x c ∧ Kp [] w w'
set_option maxRecDepth 100000 in
theorem load_any (w : World) (B m wr bs ps) (h : IsMem w B m wr bs ps) (hg : Good ps) (a n : Int) (h0 : 0 ≤ a) (ha : a < 18446744073709551616) :
    Calls Try.prog 12 #[.pointer (some ⟨m, 0, none⟩), .int .u64 a, .int .i64 n] w (LoadPost ps a n w) := by
  by_cases hs : SizeOk n
  · have HS := Lib.hid (fun w => size_yes n hs w)
    obtain ⟨n1, n8⟩ := sizeOk_bd hs
    rcases find_cases ps a n 1 with hf | ⟨k, hf⟩
    · have HF := Lib.hid (find_none w B m wr bs ps h hg a n 1 ha n1 n8 hf)
      have q57 := eq57
      go_enter Try.func12, Try.ntmps12
      go_wp2_with fail
      refine (HS.out _).mono ?_
      rintro e w' ⟨rfl, rfl⟩
      go_wp2_with fail
      refine HF.out.mono ?_
      rintro e w' ⟨rfl, k1⟩
      go_wp2
      go_ret2
      exact ⟨0, 270, rfl, .inr (.inl ⟨hs, hf, rfl, rfl⟩), k1⟩
    · obtain ⟨p, hp, hle⟩ := hf.1.some
      have hk : k < bs.length := by have := (List.getElem?_eq_some_iff.1 hp).1; have := h.len; omega
      obtain ⟨b, hb⟩ : ∃ b, bs[k]? = some b := ⟨bs[k], by simp [hk]⟩
      have hnl := hf.2 p hp
      have hfit := not_lacks hnl hle n1
      have HF := Lib.hid (find_yes w B m wr bs ps h hg.mono hg.small a n 1 k b p hp hb hf.1 ha n1 n8 hnl)
      have hpm := List.mem_of_getElem? hp
      have HN := fun (w' : World) (k1 : Kp [] w w') => Lib.hid (number_at ((h.kept k1 (by simp)).bytes hp hb).2 (hg.bytes p hpm) (a - p.f0).toNat n.toNat (p.f1.length - (a - p.f0).toNat) hfit (hg.small.2 p hpm).2.2 (by omega) (by omega))
      have HP := Lib.hid hp
      clear hp hb
      have hnx : (a - p.f0).toNat < p.f1.length := by omega
      generalize hff : (a - p.f0).toNat = f at *
      have HFF := Lib.hid hff
      clear hff
      have q57 := eq57
      go_enter Try.func12, Try.ntmps12
      go_wp2_with fail
      refine (HS.out _).mono ?_
      rintro e w' ⟨rfl, rfl⟩
      go_wp2_with fail
      refine HF.out.mono ?_
      rintro e w' ⟨rfl, k1⟩
      have HN1 := HN _ k1
      clear HN
      go_wp2_with fail
      refine HN1.out.mono ?_
      rintro e w2 ⟨rfl, k2⟩
      go_wp2
      go_ret2
      exact ⟨_, 0, rfl, .inr (.inr ⟨hs, rfl, k, p, hf, HP.out, by rw [HFF.out]⟩), k1.trans k2⟩
  · have HS := Lib.hid (fun w => size_no n hs w)
    go_enter Try.func12, Try.ntmps12
    go_wp2_with fail
    refine (HS.out _).mono ?_
    rintro e w' ⟨rfl, rfl⟩
    go_wp2
    go_ret2
    exact ⟨0, 1, rfl, .inl ⟨hs, rfl, rfl⟩, Kp.refl _ _⟩
end Go.Proofs.Ytndpmjgalmnhdaa
