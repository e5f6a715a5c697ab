/- Package mem, the law MemPlays: it returns true, for every list of regions and every list of acts. -/
import Derived.Test.YtndpmjgalmnhdaaT
namespace Go.Proofs.Ytndpmjgalmnhdaa
open Go.RowKit PMemPlays Go.Proofs.YtndpmjgalmnhdaaW.PrintWords Go.Proofs.YtndpmjgalmnhdaaW.PrintLast Go.Proofs.YtndpmjgalmnhdaaW.PrintMore
open Go.Sort Go.Shelf
set_option linter.unusedVariables false
set_option linter.unusedSimpArgs false

theorem IsRegs.keptS {w w' : World} {A cap l} {S : List Nat} (h : IsRegs w A cap l) (k : Kp S w w') (hS : 0 < l.length → ∀ x, A = some x → x.block ∉ S) : IsRegs w' A cap l := by
  obtain ⟨⟨h1, h2, h3⟩, h4⟩ := h
  refine ⟨⟨h1, h2, fun hn => ?_⟩, h4⟩
  obtain ⟨ad, rfl, hc⟩ := h3 hn
  refine ⟨ad, rfl, fun j p hj => ?_⟩
  obtain ⟨c, hc1, hc2, hc3⟩ := hc j p hj
  refine ⟨c, hc1, ?_, fun i u hu => ?_⟩
  · have := k39_open hc2
    subst this
    exact k39_mk _ _
  · have h5 := hc3 i u hu
    have hb : (ad.add (j * k39.sz + i)).block = ad.block := by unfold Addr.add; split <;> rfl
    have hlt := World.block_lt_of_cell? w _ h5
    exact (World.cell?_of_block (k.block _ hlt (by rw [hb]; exact hS hn ad rfl))).trans h5
theorem rcheck_any (w : World) (A : Option Addr) (cap : Nat) (l : List S39) (hA : IsRegs w A cap l) (hs : Sz l) : Calls Try.prog 14 #[.slice A l.length cap] w fun e w' => e = .returned (.int .i64 (chk 0 l)) ∧ Kp [] w w' :=
  (burinref27_Check.calls 30 A cap l _ w hA.1 hA.2.1 (check_f l hs)).mono fun _ _ ⟨h, ⟨⟨q, hq⟩⟩⟩ => ⟨h, hq ▸ kp_drewN w q⟩
theorem rload_any (w : World) (A : Option Addr) (cap : Nat) (l : List S39) (hA : IsRegs w A cap l) (hs : Sz l) (hok : okR 0 l) {a n x c : Int} (ha : 0 ≤ a) (ha1 : a < 18446744073709551616) (h : LoadSays (l.map pieceOf) a n x c) :
    Calls Try.prog 15 #[.slice A l.length cap, .int .u64 a, .int .i64 n] w fun e w' => e = .returned (.tuple #[.int .u64 x, .int .i64 c]) ∧ Kp [] w w' :=
  (burinref27_Load.calls 12 A cap l a n x c w hA.1 hA.2.1 (load_ref hs hok ha ha1 h)).mono fun _ _ ⟨h, ⟨⟨q, hq⟩⟩⟩ => ⟨h, hq ▸ kp_drewN w q⟩
theorem rfetch_any (w : World) (A : Option Addr) (cap : Nat) (l : List S39) (hA : IsRegs w A cap l) (hs : Sz l) (hok : okR 0 l) {a x c : Int} (ha : 0 ≤ a) (ha1 : a < 18446744073709551616) (h : FetchSays (l.map pieceOf) a x c) :
    Calls Try.prog 18 #[.slice A l.length cap, .int .u64 a] w fun e w' => e = .returned (.tuple #[.int .u32 x, .int .i64 c]) ∧ Kp [] w w' :=
  (burinref27_Fetch.calls 12 A cap l a x c w hA.1 hA.2.1 (fetch_ref hs hok ha ha1 h)).mono fun _ _ ⟨h, ⟨⟨q, hq⟩⟩⟩ => ⟨h, hq ▸ kp_drewN w q⟩
/-- What the loop over the acts keeps: memory and regions, each telling the other. -/
structure Play (W : World) (N m : Nat) (wn : Int) (bs : List Nat) (A : Option Addr) (cap : Nat) (l : List S39) (wr : World) : Prop where
  k : Kp [] W wr
  mm : IsMem wr W.heap.size m wn bs (l.map pieceOf)
  ok : okR 0 l
  sz : Sz l
  len : l.length = N
  r : IsRegs wr A cap l
  ap : 0 < N → ∀ x, A = some x → x.block ≠ m ∧ x.block ∉ bs
theorem Sz.new {l : List S39} (h : Sz l) (hok : okR 0 l) : Good (l.map pieceOf) := good_new ((chk_ok l 0).1 hok) h.1 (fun r hr => (h.2 r hr).1)
theorem Play.kept {W N m wn bs A cap l wr} (h : Play W N m wn bs A cap l wr) {w' : World} (k : Kp [] wr w') : Play W N m wn bs A cap l w' :=
  ⟨h.k.trans k, h.mm.kept k (by simp), h.ok, h.sz, h.len, h.r.kept k, h.ap⟩
/-- Both stores. -/
theorem both_store {W : World} {N m : Nat} {wn : Int} {bs : List Nat} {A : Option Addr} {cap : Nat} {l : List S39} {wr w1 w2 : World} (h : Play W N m wn bs A cap l wr) {a n x : Int} (ha : 0 ≤ a) (ha1 : a < 18446744073709551616) {e1 e2 : Ending}
    (h1 : RStorePost A cap l a n x wr e1 w1) (h2 : IsMem w1 W.heap.size m wn bs (l.map pieceOf) → StorePost W.heap.size m wn bs (l.map pieceOf) a n x w1 e2 w2) :
    ∃ (A' : Option Addr) (cap' : Nat) (l' : List S39) (c wn' : Int), e1 = .returned (.tuple #[.slice A' N cap', .int .i64 c]) ∧ e2 = .returned (.int .i64 c) ∧ Play W N m wn' bs A' cap' l' w2 ∧ ((c ≠ 0 ∧ wn' = wn) ∨ (c = 0 ∧ wn' = wn + n ∧ 1 ≤ n ∧ n ≤ 8)) := by
  have hlen := h.len
  subst hlen
  have cont : ∀ k, SizeOk n → NotFound (l.map pieceOf) a n 2 → Finds (l.map pieceOf) a n 2 k → False := by
    intro k hz hn hf
    obtain ⟨n1, n8⟩ := sizeOk_bd hz
    have q1 := where_no h.sz h.ok ha ha1 n1 n8 hn
    rw [where_yes h.sz h.ok ha ha1 n1 n8 hf] at q1
    injection q1 with q1
    omega
  rcases h1 with ⟨hz, rfl, k1⟩ | ⟨hz, hn, rfl, k1⟩ | ⟨hz, k, g, c', hk, hf, rfl, hr, hg, k1⟩
  · have hp := h.kept k1
    rcases h2 hp.mm with ⟨_, rfl, k2⟩ | ⟨hz2, _⟩ | ⟨hz2, _⟩
    · exact ⟨A, cap, l, 1, wn, rfl, rfl, hp.kept k2, .inl ⟨by decide, rfl⟩⟩
    · exact absurd hz2 hz
    · exact absurd hz2 hz
  · have hp := h.kept k1
    rcases h2 hp.mm with ⟨hz2, _⟩ | ⟨_, _, rfl, k2⟩ | ⟨_, _, k, p, b, hf, _⟩
    · exact absurd hz hz2
    · exact ⟨A, cap, l, 270, wn, rfl, rfl, hp.kept k2, .inl ⟨by decide, rfl⟩⟩
    · exact (cont k hz hn hf).elim
  · have hp := h.kept k1
    rcases h2 hp.mm with ⟨hz2, _⟩ | ⟨_, hn, _⟩ | ⟨_, rfl, j, p, b, hf2, hpj, hb, k2, hm2⟩
    · exact absurd hz hz2
    · exact (cont k hz hn hf).elim
    · obtain ⟨n1, n8⟩ := sizeOk_bd hz
      have hjk := atK_uniq rfl (fun _ _ _ => rfl) hf.1 hf2.1
      subst hjk
      obtain ⟨_, _, hfit⟩ := finds_at n1 hf
      have ep : p = pieceOf l[k] := by
        rw [List.getElem?_map, List.getElem?_eq_getElem hk] at hpj
        simp at hpj
        exact hpj.symm
      subst ep
      rw [← putR_map hk] at hm2
      obtain ⟨q1, q2, q3⟩ := putR_ok (x := x) hk hfit h.ok h.sz
      have hbB := hp.mm.bytes hpj hb
      have hbb := h.mm.bytes hpj hb
      obtain ⟨A0, c0, hm0, _⟩ := h.mm.st
      have hmlt := ltB hm0
      have hball : ∀ y ∈ bs, y < wr.heap.size := by
        intro y hy
        obtain ⟨i, hi, rfl⟩ := List.getElem_of_mem hy
        exact ltB (h.mm.by_ i (by have := h.mm.len; omega) hi).2
      have hmB := h.mm.mB
      refine ⟨_, c', putR l k l[k] a n x, 0, wn + n, rfl, rfl, ⟨hp.k.into k2 (by simp; omega), hm2, q1, q2, q3, hr.keptS k2 ?_, ?_⟩, .inr ⟨rfl, rfl, n1, n8⟩⟩
      · rintro _ y e
        injection e with e
        subst e
        have := ltB hbb.2
        simp
        omega
      · rintro _ y e
        injection e with e
        subst e
        refine ⟨by show g ≠ m; omega, fun hmem => ?_⟩
        have := hball g hmem
        omega
end Go.Proofs.Ytndpmjgalmnhdaa
