/- Package mem: the law's 'same': a memory has these regions. -/
import Derived.Test.YtndpmjgalmnhdaaI
import Derived.Test.YtndpmjgalmnhdaaWEqStruct
import Derived.Lib.LazyBuf
namespace Go.Proofs.Ytndpmjgalmnhdaa
open Go.RowKit PMemPlays Go.Proofs.YtndpmjgalmnhdaaW.PrintWords Go.Proofs.YtndpmjgalmnhdaaW.PrintLast Go.Proofs.YtndpmjgalmnhdaaW.PrintMore
open Go.Sort Go.Shelf
set_option linter.unusedVariables false
set_option linter.unusedSimpArgs false

theorem eqA39 (d : Nat) (w : World) (x0 y0 : Int) (x1 y1 : ByteArray) (x2 y2 : Int) :
    (Op.equalIn (d + 2) 39 (.agg #[.int .u64 x0, .string x1, .int .i64 x2]) (.agg #[.int .u64 y0, .string y1, .int .i64 y2])).run Try.prog w = .ok (x0 == y0 && (x1.toList == y1.toList && (x2 == y2))) w := by
  refine eqA_of Try.underlying39 (by kernel_rfl) ?_
  refine eqf_cons (by rfl) (by go_simp; rfl) (by go_simp; rfl) (by go_simp) ?_
  refine eqf_cons (by rfl) (by go_simp; rfl) (by go_simp; rfl) (by go_simp) ?_
  exact eqf_last (by rfl) (by go_simp; rfl) (by go_simp; rfl) (by go_simp)

def Match (ps : List S59) (l : List S39) : Prop := ps.length = l.length ∧ ∀ (k : Nat) (p : S59) (r : S39), ps[k]? = some p → l[k]? = some r → p.f0 = r.f0 ∧ strOfNums p.f1 = r.f1 ∧ p.f2 = r.f2
theorem strOfNums_bytesB (s : ByteArray) : strOfNums (bytesB s) = s := by
  unfold strOfNums bytesB
  simp [List.map_map, Function.comp_def]
theorem match_new (l : List S39) : Match (l.map pieceOf) l := by
  refine ⟨by simp, fun k p r hp hr => ?_⟩
  rw [List.getElem?_map, hr] at hp
  simp at hp
  subst hp
  exact ⟨rfl, strOfNums_bytesB _, rfl⟩
attribute [local go_sem high] eqA39
set_option maxRecDepth 100000 in
set_option maxHeartbeats 1000000 in
theorem same_any (w : World) (B m wn bs ps) (h : IsMem w B m wn bs ps) (hg : Good ps) (A : Option Addr) (cap : Nat) (l : List S39) (hA : IsRegs w A cap l) (hM : Match ps l) :
    Calls Try.prog 10 #[.pointer (some ⟨m, 0, none⟩), .slice A l.length cap] w fun e w' => e = .returned (.bool true) ∧ Kp [] w w' := by
  have hll : l.length ≤ 10 := by rw [← hM.1]; exact hg.small.1
  go_enter Try.func10, Try.ntmps10
  go_wp2_with fail
  go_loopw [5] (fun i wr => ∃ (k : Nat), k ≤ l.length ∧ i = .int .i64 k ∧ Kp [] w wr) (fun i _ => l.length - (intOf i).toNat)
  case atStart => exact ⟨0, by omega, rfl, Kp.refl _ _⟩
  case round =>
    obtain ⟨k, hk, rfl, kk⟩ := hrel
    by_cases hlt : k < l.length
    · obtain ⟨b, off, rfl, hb, c0, c1, c2⟩ := (hA.kept kk).at_ k hlt
      have hlp : k < ps.length := by rw [hM.1]; exact hlt
      obtain ⟨p, hp⟩ : ∃ p, ps[k]? = some p := ⟨ps[k], by simp [hlp]⟩
      obtain ⟨m0, m1, m2⟩ := hM.2 k p l[k] hp (by simp [hlt])
      have HR := Lib.hid (region_yes wr B m wn bs ps (h.kept kk (by simp)) hg k p hp)
      rw [m0, m1, m2] at HR
      generalize l[k] = r at c0 c1 c2 HR
      clear m0 m1 m2 hp
      go_wp2_with fail
      refine HR.out.mono ?_
      rintro e w1 ⟨rfl, k1⟩
      have bk := Nat.lt_of_lt_of_le hb k1.size
      have d0 := (World.cell?_of_block (a := ⟨b, off + k * 3, none⟩) (k1.block b hb (by simp))).trans c0
      have d1 := (World.cell?_of_block (a := ⟨b, off + k * 3 + 1, none⟩) (k1.block b hb (by simp))).trans c1
      have d2 := (World.cell?_of_block (a := ⟨b, off + k * 3 + 2, none⟩) (k1.block b hb (by simp))).trans c2
      clear c0 c1 c2
      go_wp2_with fail
      go_quiet (fail)
      go_wp2
      go_roundw
      case rel => exact ⟨k + 1, by omega, by go_num, ((kk.trans k1).alloc _).trans (kp_drewN _ _)⟩
      case measure => simp [intOf]; omega
    · have e : k = l.length := by omega
      subst e
      have hd : decide ((l.length : Int) < l.length) = false := by simp
      have hpl := hM.1
      have R1 := fun w' (k1 : Kp [] w w') => Lib.hid (region_no w' B m wn bs ps (h.kept k1 (by simp)) hg l.length (.inr (by omega)))
      have R2 := fun w' (k1 : Kp [] w w') => Lib.hid (region_no w' B m wn bs ps (h.kept k1 (by simp)) hg (-1) (.inl (by omega)))
      have HPL := Lib.hid hpl
      clear hpl
      go_wp2_with fail
      refine (R1 _ kk).out.mono ?_
      rintro e w1 ⟨rfl, k1⟩
      go_wp2_with fail
      refine (R2 _ ((kk.trans k1).alloc _)).out.mono ?_
      rintro e w2 ⟨rfl, k2⟩
      go_wp2
      go_ret
      exact ⟨rfl, (((kk.trans k1).alloc _).trans k2).alloc _⟩
end Go.Proofs.Ytndpmjgalmnhdaa
