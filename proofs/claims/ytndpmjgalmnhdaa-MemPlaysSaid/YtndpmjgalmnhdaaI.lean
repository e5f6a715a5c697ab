/- Package mem: Fetch, Region, Written. -/
import Derived.Test.YtndpmjgalmnhdaaH
namespace Go.Proofs.Ytndpmjgalmnhdaa
open Go.RowKit PMemPlays Go.Proofs.YtndpmjgalmnhdaaW.PrintWords Go.Proofs.YtndpmjgalmnhdaaW.PrintLast Go.Proofs.YtndpmjgalmnhdaaW.PrintMore
open Go.Sort Go.Shelf
set_option linter.unusedVariables false
set_option linter.unusedSimpArgs false

theorem written_any (w : World) (B m wn bs ps) (h : IsMem w B m wn bs ps) : Calls Try.prog 11 #[.pointer (some ⟨m, 0, none⟩)] w fun e w' => e = .returned (.int .u64 wn) ∧ w = w' := by
  obtain ⟨A, c, h1, h2⟩ := h.st
  have m1 := cellB h1 1
  simp at m1
  go_enter Try.func11, Try.ntmps11
  go_wp2
  go_ret
  exact ⟨rfl, rfl⟩

def FetchSays (ps : List S59) (a : Int) (x c : Int) : Prop :=
  ((a % 4 ≠ 0 ∨ NotFound ps a 4 4) ∧ x = 0 ∧ c = 270) ∨ (a % 4 = 0 ∧ c = 0 ∧ ∃ k p, Finds ps a 4 4 k ∧ ps[k]? = some p ∧ x = numB (cutB p.f1 (a - p.f0).toNat 4))
def FetchPost (ps : List S59) (a : Int) (w : World) (e : Ending) (w' : World) : Prop := ∃ x c, e = .returned (.tuple #[.int .u32 x, .int .i64 c]) ∧ FetchSays ps a x c ∧ Kp [] w w'
set_option maxRecDepth 100000 in
theorem fetch_any (w : World) (B m wr bs ps) (h : IsMem w B m wr bs ps) (hg : Good ps) (a : Int) (h0 : 0 ≤ a) (ha : a < 18446744073709551616) :
    Calls Try.prog 17 #[.pointer (some ⟨m, 0, none⟩), .int .u64 a] w (FetchPost ps a w) := by
  by_cases hs : a % 4 = 0
  · have hse : (a % 4 == 0) = true := by simp [hs]
    rcases find_cases ps a 4 4 with hf | ⟨k, hf⟩
    · have HF := Lib.hid (find_none w B m wr bs ps h hg a 4 4 ha (by omega) (by omega) hf)
      have HSS := Lib.hid hs
      clear hs
      have q57 := eq57
      go_enter Try.func17, Try.ntmps17
      go_wp2_with fail
      refine HF.out.mono ?_
      rintro e w' ⟨rfl, k1⟩
      go_wp2
      go_ret2
      exact ⟨0, 270, rfl, .inl ⟨.inr hf, rfl, rfl⟩, k1⟩
    · obtain ⟨p, hp, hle⟩ := hf.1.some
      have hk : k < bs.length := by have := (List.getElem?_eq_some_iff.1 hp).1; have := h.len; omega
      obtain ⟨b, hb⟩ : ∃ b, bs[k]? = some b := ⟨bs[k], by simp [hk]⟩
      have hnl := hf.2 p hp
      have hfit := not_lacks hnl hle (by omega)
      have HF := Lib.hid (find_yes w B m wr bs ps h hg.mono hg.small a 4 4 k b p hp hb hf.1 ha (by omega) (by omega) hnl)
      have hpm := List.mem_of_getElem? hp
      have HN := fun (w' : World) (k1 : Kp [] w w') => Lib.hid (number_at ((h.kept k1 (by simp)).bytes hp hb).2 (hg.bytes p hpm) (a - p.f0).toNat 4 (p.f1.length - (a - p.f0).toNat) hfit (hg.small.2 p hpm).2.2 (by omega) (by omega))
      have hnb := numB_bounds _ (cutB_isB (hg.bytes p hpm) (a - p.f0).toNat 4)
      rw [cutB_len (n := 4) hfit] at hnb
      have HP := Lib.hid hp
      have HSS := Lib.hid hs
      clear hp hb hs
      generalize hff : (a - p.f0).toNat = f at *
      have HFF := Lib.hid hff
      clear hff
      generalize hnn : numB (cutB p.f1 f 4) = x at *
      have HNN := Lib.hid hnn
      clear hnn
      have hx1 : x < 4294967296 := hnb.2
      have hx0 := hnb.1
      clear hnb
      have q57 := eq57
      go_enter Try.func17, Try.ntmps17
      go_wp2_with fail
      refine HF.out.mono ?_
      rintro e w' ⟨rfl, k1⟩
      have HN1 := HN _ k1
      clear HN
      go_wp2_with fail
      refine HN1.out.mono ?_
      rintro e w2 ⟨rfl, k2⟩
      go_wp2
      go_ret2
      exact ⟨_, 0, rfl, .inr ⟨HSS.out, rfl, k, p, hf, HP.out, by rw [HFF.out, HNN.out]⟩, k1.trans k2⟩
  · have hse : (a % 4 == 0) = false := by simpa using hs
    go_enter Try.func17, Try.ntmps17
    go_wp2
    go_ret2
    exact ⟨0, 270, rfl, .inl ⟨.inl hs, rfl, rfl⟩, Kp.refl _ _⟩

theorem bytes_string (w : World) (A : Option Addr) (n c : Nat) (xs : List Int) (h : (Kd.int .u8).C w A n xs) : (convert 57 9 (.slice A n c)).run Try.prog w = .ok (.string (strOfNums xs)) w :=
  Kd.C_string Try.underlying57 Try.underlying5 Try.underlying9 h
set_option maxRecDepth 100000 in
theorem region_yes (w : World) (B m wr bs ps) (h : IsMem w B m wr bs ps) (hg : Good ps) (k : Nat) (p : S59) (hp : ps[k]? = some p) :
    Calls Try.prog 13 #[.pointer (some ⟨m, 0, none⟩), .int .i64 k] w fun e w' => e = .returned (.tuple #[.agg #[.int .u64 p.f0, .string (strOfNums p.f1), .int .i64 p.f2], .int .i64 0]) ∧ Kp [] w w' := by
  have hkl := (List.getElem?_eq_some_iff.1 hp).1
  have hk : k < bs.length := by have := h.len; omega
  obtain ⟨b, hb⟩ : ∃ b, bs[k]? = some b := ⟨bs[k], by simp [hk]⟩
  obtain ⟨pb, c, h1, hpB, hpb, hc⟩ := h.at_ (by omega)
  obtain ⟨_, e1⟩ := List.getElem?_eq_some_iff.1 hp
  obtain ⟨_, e2⟩ := List.getElem?_eq_some_iff.1 hb
  have hcc := hc k hkl hk
  rw [e1, e2] at hcc
  obtain ⟨c0, c1, c2⟩ := hcc
  have m0 := cellB h1 0
  simp at m0
  have hml := hg.small.1
  have hpl := (hg.small.2 p (List.mem_of_getElem? hp)).2.2
  have hbt := (h.bytes hp hb).2
  have hread : (Kd.int .u8).C w (some ⟨b, 0, none⟩) p.f1.length p.f1 := by
    have := reads_cut hbt 0 p.f1.length (by omega) hpl
    rw [show cutB p.f1 0 p.f1.length = p.f1 by simp [cutB]] at this
    exact this
  have HC := fun (o1 o2 : Obj) => Lib.hid (bytes_string ((w.alloc o1).alloc o2) (some ⟨b, 0, none⟩) p.f1.length p.f1.length p.f1 (Kd.C_below hread ((((Kp.refl [] w).alloc o1).alloc o2).below (Nat.le_refl _) (by simp))))
  have HW := Lib.hid (fun w => within_any k 0 ((ps.length : Int) - 1) w true (decide_eq_true (by omega)).symm)
  have hmlt := ltB h1
  clear hc e1 e2 hp hb hbt
  go_enter Try.func13, Try.ntmps13
  go_wp2_with fail
  refine (HW.out _).mono ?_
  rintro e w' ⟨rfl, rfl⟩
  have hc2 := HC (.cells #[.int .u64 0, .string ⟨#[]⟩, .int .i64 0] 39) (.cells #[.int .u64 p.f0, .slice (some ⟨b, 0, none⟩) p.f1.length p.f1.length, .int .i64 p.f2] 59)
  have hc3 := hc2.out
  clear HC hc2
  go_wp2
  exact bodyPost_ret (v := .tuple #[.agg #[.int .u64 p.f0, .string (strOfNums p.f1), .int .i64 p.f2], .int .i64 0]) (by simp [results, Try.f13, go_sem]) rfl ⟨rfl, ((Kp.refl _ _).alloc _).alloc _⟩
set_option maxRecDepth 100000 in
theorem region_no (w : World) (B m wr bs ps) (h : IsMem w B m wr bs ps) (hg : Good ps) (k : Int) (hk : k < 0 ∨ (ps.length : Int) ≤ k) :
    Calls Try.prog 13 #[.pointer (some ⟨m, 0, none⟩), .int .i64 k] w fun e w' => e = .returned (.tuple #[.agg #[.int .u64 0, .string ⟨#[]⟩, .int .i64 0], .int .i64 1]) ∧ Kp [] w w' := by
  obtain ⟨A, c, h1, h2⟩ := h.st
  have m0 := cellB h1 0
  simp at m0
  have hml := hg.small.1
  have HW := Lib.hid (fun w => within_any k 0 ((ps.length : Int) - 1) w false (decide_eq_false (by omega)).symm)
  have hmlt := ltB h1
  clear hk
  go_enter Try.func13, Try.ntmps13
  go_wp2_with fail
  refine (HW.out _).mono ?_
  rintro e w' ⟨rfl, rfl⟩
  go_wp2
  exact bodyPost_ret (v := .tuple #[.agg #[.int .u64 0, .string ⟨#[]⟩, .int .i64 0], .int .i64 1]) (by simp [results, Try.f13, go_sem]) rfl ⟨rfl, (Kp.refl _ _).alloc _⟩
end Go.Proofs.Ytndpmjgalmnhdaa
