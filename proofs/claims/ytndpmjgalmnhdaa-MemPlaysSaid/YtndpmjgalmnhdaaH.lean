/- Package mem: Store: what it answers, and what it leaves. -/
import Derived.Test.YtndpmjgalmnhdaaG
namespace Go.Proofs.Ytndpmjgalmnhdaa
open Go.RowKit PMemPlays Go.Proofs.YtndpmjgalmnhdaaW.PrintWords Go.Proofs.YtndpmjgalmnhdaaW.PrintLast Go.Proofs.YtndpmjgalmnhdaaW.PrintMore
open Go.Sort Go.Shelf
set_option linter.unusedVariables false
set_option linter.unusedSimpArgs false

/-- The lowest n bytes of a number. -/
def leB (x : Int) : Nat → List Int
  | 0 => []
  | n + 1 => leB x n ++ [x / 256 ^ n % 256]
theorem leB_len (x : Int) : ∀ n, (leB x n).length = n
  | 0 => rfl
  | n + 1 => by simp [leB, leB_len x n]
theorem leB_isB (x : Int) : ∀ n, IsB (leB x n)
  | 0 => fun x hx => absurd hx (by simp [leB])
  | n + 1 => fun y hy => by
    rcases List.mem_append.1 hy with h | h
    · exact leB_isB x n y h
    · simp at h
      omega
def patch (l : List Int) (f : Nat) (bs : List Int) : List Int := l.take f ++ bs ++ l.drop (f + bs.length)
theorem patch_len {l : List Int} {f : Nat} {bs : List Int} (h : f + bs.length ≤ l.length) : (patch l f bs).length = l.length := by
  unfold patch
  simp
  omega
theorem patch_isB {l : List Int} {f : Nat} {bs : List Int} (h : IsB l) (h2 : IsB bs) : IsB (patch l f bs) := by
  intro x hx
  unfold patch at hx
  rcases List.mem_append.1 hx with hx | hx
  · rcases List.mem_append.1 hx with hx | hx
    · exact h x (List.mem_of_mem_take hx)
    · exact h2 x hx
  · exact h x (List.mem_of_mem_drop hx)
theorem patch_nil (l : List Int) (f : Nat) : patch l f [] = l := by unfold patch; simp
theorem patch_get {l : List Int} {f : Nat} {bs : List Int} (h : f + bs.length ≤ l.length) (i : Nat) : (patch l f bs)[i]? = if i < f then l[i]? else if i < f + bs.length then bs[i - f]? else l[i]? := by
  unfold patch
  by_cases h1 : i < f
  · rw [if_pos h1, List.append_assoc, List.getElem?_append_left (by simp; omega), List.getElem?_take, if_pos h1]
  · rw [if_neg h1]
    by_cases h2 : i < f + bs.length
    · rw [if_pos h2, List.getElem?_append_left (by simp; omega), List.getElem?_append_right (by simp; omega)]
      simp
      congr 1
      omega
    · rw [if_neg h2, List.getElem?_append_right (by simp; omega), List.getElem?_drop]
      congr 1
      simp
      omega
theorem patch_snoc {l : List Int} {f : Nat} {bs : List Int} (x : Int) (h : f + bs.length < l.length) : (patch l f bs).set (f + bs.length) x = patch l f (bs ++ [x]) := by
  apply List.ext_getElem?
  intro i
  rw [List.getElem?_set, patch_get (by omega), patch_get (by simp; omega)]
  simp only [patch_len (show f + bs.length ≤ l.length by omega), List.length_append, List.length_singleton]
  by_cases h1 : i < f
  · rw [if_neg (by omega), if_pos h1, if_pos h1]
  · rw [if_neg h1, if_neg h1]
    by_cases h2 : i < f + bs.length
    · rw [if_neg (by omega), if_pos h2, if_pos (by omega), List.getElem?_append_left (by omega)]
    · by_cases h3 : f + bs.length = i
      · subst h3
        rw [if_pos rfl, if_pos h, if_pos (by omega), List.getElem?_append_right (by omega)]
        simp
      · rw [if_neg h3, if_neg h2, if_neg (by omega)]
theorem pcells_set : ∀ (bs : List Nat) (ps : List S59) (k : Nat) (p : S59) (l : List Int), ps[k]? = some p → l.length = p.f1.length → pcells bs (ps.set k ⟨p.f0, l, p.f2⟩) = pcells bs ps
  | [], ps, k, p, l, _, _ => by cases h : ps.set k ⟨p.f0, l, p.f2⟩ <;> cases ps <;> simp_all [pcells]
  | b :: bs, [], k, p, l, h, _ => by simp at h
  | b :: bs, q :: ps, 0, p, l, h, hl => by
    simp at h
    subst h
    simp [pcells, pcell, hl]
  | b :: bs, q :: ps, k + 1, p, l, h, hl => by
    simp only [List.set_cons_succ, pcells]
    rw [pcells_set bs ps k p l (by simpa using h) hl]
theorem IsMem.stored {w w' : World} {B m wr wr' bs ps} (h : IsMem w B m wr bs ps) {k b : Nat} {p : S59} {l : List Int} (hp : ps[k]? = some p) (hb : bs[k]? = some b) (k' : Kp [m, b] w w')
    (hm' : ∀ A c, w.heap[m]? = some (.cells #[.slice A ps.length c, .int .u64 wr] 55 (0, 0)) → w'.heap[m]? = some (.cells #[.slice A ps.length c, .int .u64 wr'] 55 (0, 0)))
    (hb' : w'.heap[b]? = some (.cells (l.map (Value.int .u8)).toArray 5 (0, 0))) (hl : l.length = p.f1.length) : IsMem w' B m wr' bs (ps.set k ⟨p.f0, l, p.f2⟩) := by
  obtain ⟨A, c, h1, h2⟩ := h.st
  have hbb := h.bytes hp hb
  refine ⟨⟨A, c, by rw [List.length_set]; exact hm' A c h1, ?_⟩, h.mB, by rw [List.length_set]; exact h.len, h.nd, ?_⟩
  · rw [pcells_set bs ps k p l hp hl, List.length_set]
    refine own_move h2 (fun j hj => k'.block j (own_lt h2 j hj) ?_)
    obtain ⟨cells, hc⟩ := own_typed h2 j hj
    intro hmem
    simp at hmem
    rcases hmem with rfl | rfl
    · rw [h1] at hc
      injection hc with hc
      injection hc with _ hc
      exact absurd hc (by decide)
    · rw [hbb.2] at hc
      injection hc with hc
      injection hc with _ hc
      exact absurd hc (by decide)
  · intro i hi hi'
    have hi2 : i < ps.length := by simpa using hi
    obtain ⟨h3, h4⟩ := h.by_ i hi2 hi'
    refine ⟨h3, ?_⟩
    by_cases hik : i = k
    · subst hik
      have e : bs[i] = b := by
        obtain ⟨_, e⟩ := List.getElem?_eq_some_iff.1 hb
        exact e
      rw [e, List.getElem_set_self]
      exact hb'
    · rw [List.getElem_set_ne (by omega)]
      refine (k'.block _ (ltB h4) ?_).trans h4
      intro hmem
      simp at hmem
      rcases hmem with e | e
      · rw [e, h1] at h4
        injection h4 with h4
        injection h4 with _ h4
        exact absurd h4 (by decide)
      · obtain ⟨hk, e2⟩ := List.getElem?_eq_some_iff.1 hb
        exact hik ((List.getElem_inj h.nd).1 (e.trans e2.symm))
/-- What Store answers and leaves. -/
def StorePost (B m : Nat) (wr : Int) (bs : List Nat) (ps : List S59) (a n x : Int) (w : World) (e : Ending) (w' : World) : Prop :=
  (¬ SizeOk n ∧ e = .returned (.int .i64 1) ∧ Kp [] w w') ∨ (SizeOk n ∧ NotFound ps a n 2 ∧ e = .returned (.int .i64 270) ∧ Kp [] w w') ∨
  (SizeOk n ∧ e = .returned (.int .i64 0) ∧ ∃ k p b, Finds ps a n 2 k ∧ ps[k]? = some p ∧ bs[k]? = some b ∧ Kp [m, b] w w' ∧ IsMem w' B m (wr + n) bs (ps.set k ⟨p.f0, patch p.f1 (a - p.f0).toNat (leB x n.toNat), p.f2⟩))
set_option maxRecDepth 100000 in
set_option maxHeartbeats 1000000 in
theorem store_any (w : World) (B m wn bs ps) (h : IsMem w B m wn bs ps) (hg : Good ps) (a n x : Int) (h0 : 0 ≤ a) (ha : a < 18446744073709551616) (hx0 : 0 ≤ x) (hx : x < 18446744073709551616) (hw0 : 0 ≤ wn) (hw1 : wn ≤ 100000) :
    Calls Try.prog 9 #[.pointer (some ⟨m, 0, none⟩), .int .u64 a, .int .i64 n, .int .u64 x] w (StorePost B m wn bs ps a n x w) := by
  by_cases hs : SizeOk n
  · have HS := Lib.hid (fun w => size_yes n hs w)
    obtain ⟨n1, n8⟩ := sizeOk_bd hs
    rcases find_cases ps a n 2 with hf | ⟨k, hf⟩
    · have HF := Lib.hid (find_none w B m wn bs ps h hg a n 2 ha n1 n8 hf)
      have q57 := eq57
      go_enter Try.func9, Try.ntmps9
      go_wp2_with fail
      refine (HS.out _).mono ?_
      rintro e w' ⟨rfl, rfl⟩
      go_wp2_with fail
      refine HF.out.mono ?_
      rintro e w' ⟨rfl, k1⟩
      go_wp2
      go_ret
      exact .inr (.inl ⟨hs, hf, rfl, k1⟩)
    · obtain ⟨p, hp, hle⟩ := hf.1.some
      have hk : k < bs.length := by have := (List.getElem?_eq_some_iff.1 hp).1; have := h.len; omega
      obtain ⟨b, hb⟩ : ∃ b, bs[k]? = some b := ⟨bs[k], by simp [hk]⟩
      have hnl := hf.2 p hp
      have hfit := not_lacks hnl hle n1
      have HF := Lib.hid (find_yes w B m wn bs ps h hg.mono hg.small a n 2 k b p hp hb hf.1 ha n1 n8 hnl)
      have hpm := List.mem_of_getElem? hp
      have hpl := (hg.small.2 p hpm).2.2
      have HP := Lib.hid hp
      have HB := Lib.hid hb
      clear hp hb
      generalize hff : (a - p.f0).toNat = f at *
      have HFF := Lib.hid hff
      clear hff
      obtain ⟨n', rfl⟩ := Int.eq_ofNat_of_zero_le (show 0 ≤ n by omega)
      rw [Int.toNat_natCast] at *
      have q57 := eq57
      go_enter Try.func9, Try.ntmps9
      go_wp2_with fail
      refine (HS.out _).mono ?_
      rintro e w' ⟨rfl, rfl⟩
      go_wp2_with fail
      refine HF.out.mono ?_
      rintro e w1 ⟨rfl, k1⟩
      go_wp2_with fail
      go_loopw [3, 22] (fun xx i wr => ∃ (j : Nat), j ≤ n' ∧ xx = .int .u64 (x / 256 ^ j) ∧ i = .int .i64 j ∧ Kp [m, b] w wr ∧ wr.heap[b]? = some (.cells ((patch p.f1 f (leB x j)).map (Value.int .u8)).toArray 5 (0, 0)) ∧ wr.heap[m]? = w.heap[m]?) (fun _ i _ => n' - (intOf i).toNat)
      case atStart => exact ⟨0, by omega, by simp, rfl, k1.mono (by simp), by rw [show leB x 0 = [] from rfl, patch_nil]; exact (h.kept k1 (by simp)).bytes HP.out HB.out |>.2, k1.block m (by obtain ⟨_, _, h1, _⟩ := h.st; exact ltB h1) (by simp)⟩
      case round =>
        obtain ⟨j, hj, rfl, rfl, kj, hbj, hmj⟩ := hrel
        have hy0 : 0 ≤ x / 256 ^ j := Int.ediv_nonneg hx0 (Int.le_of_lt (Int.pow_pos (by decide)))
        have hy1 : x / 256 ^ j < 18446744073709551616 := Int.lt_of_le_of_lt (Int.ediv_le_self _ hx0) hx
        by_cases hlt : j < n'
        · have hb1 := ltB hbj
          have hmlt : m < w.heap.size := by obtain ⟨_, _, h1, _⟩ := h.st; exact ltB h1
          have hlt2 : f + j < (patch p.f1 f (leB x j)).length := by rw [patch_len (by rw [leB_len]; omega)]; omega
          obtain ⟨v, b0⟩ : ∃ v, wr.cell? ⟨b, f + j, none⟩ = some (.int .u8 v) := ⟨(patch p.f1 f (leB x j))[f + j], by rw [cellB hbj]; simp [hlt2]⟩
          have b1 := frozB hbj (f + j)
          have hs1 := setB hbj (f + j) (.int .u8 (x / 256 ^ j % 256))
          have e1 : ((List.map (Value.int .u8) (patch p.f1 f (leB x j))).toArray.setIfInBounds (f + j) (.int .u8 (x / 256 ^ j % 256))) = ((patch p.f1 f (leB x (j + 1))).map (Value.int .u8)).toArray := by
            have := patch_snoc (l := p.f1) (f := f) (bs := leB x j) (x / 256 ^ j % 256) (by rw [leB_len]; omega)
            rw [leB_len] at this
            rw [show leB x (j + 1) = leB x j ++ [x / 256 ^ j % 256] from rfl, ← this]
            simp
          rw [e1] at hs1
          have hk2 : Kp [m, b] w (wr.setCell ⟨b, f + j, none⟩ (.int .u8 (x / 256 ^ j % 256))) := kj.setCell (by simp) _
          have hne : m ≠ b := by
            rintro rfl
            obtain ⟨A, c, h1, _⟩ := h.st
            have := (h.bytes HP.out HB.out).2
            rw [h1] at this
            injection this with this
            injection this with _ this
            exact absurd this (by decide)
          have hm2 : (wr.setCell ⟨b, f + j, none⟩ (.int .u8 (x / 256 ^ j % 256))).heap[m]? = w.heap[m]? := (Below.heap_setCell _ _ _ _ hne).trans hmj
          have hdiv : x / 256 ^ j / 256 = x / 256 ^ (j + 1) := by rw [Int.ediv_ediv_of_nonneg (Int.le_of_lt (Int.pow_pos (by decide))), Int.pow_succ]
          have HD := Lib.hid hdiv
          have HS1 := Lib.hid hs1
          have HM2 := Lib.hid hm2
          clear hs1 hm2 hdiv e1 hbj hmj
          generalize hy : x / 256 ^ j = y at *
          have HY := Lib.hid hy
          clear hy
          go_wp2
          go_roundw
          case rel => exact ⟨j + 1, by omega, by rw [HD.out], by go_num, hk2, HS1.out, HM2.out⟩
          case measure => simp [intOf]; omega
        · have e : j = n' := by omega
          subst e
          obtain ⟨A, c, h1, h2⟩ := h.st
          have hmm := hmj.trans h1
          have m1 := cellB hmm 1
          have f1 := frozB hmm 1
          simp at m1
          have hs1 := setB hmm 1 (.int .u64 (wn + j))
          simp at hs1
          have hw2 : IntKind.u64.wrap (wn + j) = wn + j := by rw [IntKind.wrap_u64]; omega
          have hne : m ≠ b := by
            rintro rfl
            have := (h.bytes HP.out HB.out).2
            rw [h1] at this
            injection this with this
            injection this with _ this
            exact absurd this (by decide)
          have hb2 := (Below.heap_setCell wr ⟨m, 1, none⟩ (.int .u64 (wn + j)) b (fun e => hne e.symm)).trans hbj
          have kf : Kp [m, b] w (wr.setCell ⟨m, 1, none⟩ (.int .u64 (wn + j))) := kj.setCell (by simp) _
          have IM : IsMem (wr.setCell ⟨m, 1, none⟩ (.int .u64 (wn + j))) B m (wn + j) bs (ps.set k ⟨p.f0, patch p.f1 f (leB x j), p.f2⟩) :=
            h.stored HP.out HB.out kf (fun A' c' h' => by
              have e := h'.symm.trans h1
              simp at e
              obtain ⟨rfl, rfl⟩ := e
              exact hs1) hb2 (patch_len (by rw [leB_len]; omega))
          have HI := Lib.hid IM
          have hd : decide ((j : Int) < j) = false := by simp
          clear IM hs1 hmm hmj h1 h2 hbj hb2
          go_wp2
          go_ret
          exact .inr (.inr ⟨hs, rfl, k, p, b, hf, HP.out, HB.out, kf, by rw [HFF.out]; exact HI.out⟩)
  · have HS := Lib.hid (fun w => size_no n hs w)
    go_enter Try.func9, Try.ntmps9
    go_wp2_with fail
    refine (HS.out _).mono ?_
    rintro e w' ⟨rfl, rfl⟩
    go_wp2
    go_ret
    exact .inl ⟨hs, rfl, Kp.refl _ _⟩
end Go.Proofs.Ytndpmjgalmnhdaa
