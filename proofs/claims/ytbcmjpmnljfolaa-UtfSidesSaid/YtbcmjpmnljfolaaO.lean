/- The laws UtfPieces and UtfSides: the walks. -/
import Derived.Test.YtbcmjpmnljfolaaN
namespace Go.Proofs.Ytbcmjpmnljfolaa
open Go.RowKit PUtfPieces Go.Proofs.YtbcmjpmnljfolaaW.PrintWords Go.Proofs.YtbcmjpmnljfolaaW.PrintLast Go.Proofs.YtbcmjpmnljfolaaW.PrintMore
set_option linter.unusedVariables false
attribute [local go_sem] max2_int min2_int max_two min_two

theorem encs_ints (l : List Int) : encs (Value.int .i64) l = ints l := rfl
theorem pieces_c (s : ByteArray) (most : Int) (hsz : s.size ≤ 1000000) (w : World) (p q : List Int) (hp : p = (((pcs s).take (max most 0).toNat).map Prod.fst)) (hq : q = (((pcs s).take (max most 0).toNat).map Prod.snd)) :
    Calls Try.prog 18 #[.string s, .int .i64 most] w fun e W' => ∃ A c B d, e = .returned (.tuple #[.slice A p.length c, .slice B q.length d]) ∧ p.length ≤ c ∧ q.length ≤ d ∧ (Kd.int .i64).C W' A p.length p ∧ (Kd.int .i64).C W' B q.length q ∧ Below w.heap.size w W' := by
  refine (pieces_any s most hsz w).mono ?_
  rintro e W' ⟨v, u, rfl, h1, h2, h3⟩
  have l1 : p.length = ((pcs s).take (max most 0).toNat).length := by rw [hp, List.length_map]
  have l2 : q.length = ((pcs s).take (max most 0).toNat).length := by rw [hq, List.length_map]
  rw [← hp, ← l1] at h1
  rw [← hq, ← l2] at h2
  have r1 : (Kd.int .i64).R 3 W' w.heap.size (fun _ => True) v p := Kd.R_of_own h1 (fun _ _ => trivial)
  have r2 : (Kd.int .i64).R 3 W' w.heap.size (fun _ => True) u q := Kd.R_of_own h2 (fun _ _ => trivial)
  obtain ⟨A, c, rfl, k1, c1⟩ := Kd.R_reads r1
  obtain ⟨B, d, rfl, k2, c2⟩ := Kd.R_reads r2
  exact ⟨A, c, B, d, rfl, k1, k2, c1, c2, h3⟩
theorem refPieces_c (s : ByteArray) (hsz : s.size ≤ 300) (w : World) (p q : List Int) (hp : p = (pcs s).map Prod.fst) (hq : q = (pcs s).map Prod.snd) :
    Calls Try.prog 19 #[.string s] w fun e W' => ∃ A c B d, e = .returned (.tuple #[.slice A p.length c, .slice B q.length d]) ∧ p.length ≤ c ∧ q.length ≤ d ∧ (Kd.int .i64).C W' A p.length p ∧ (Kd.int .i64).C W' B q.length q ∧ Below w.heap.size w W' := by
  refine (burinref01_Pieces.calls 400 s p q w (by rw [hp, hq]; exact refPieces s hsz)).mono ?_
  rintro e W' ⟨v, u, rfl, r1, r2, h3⟩
  obtain ⟨A, c, rfl, k1, c1⟩ := Kd.R_reads r1
  obtain ⟨B, d, rfl, k2, c2⟩ := Kd.R_reads r2
  exact ⟨A, c, B, d, rfl, k1, k2, c1, c2, h3⟩

set_option maxHeartbeats 2000000 in
theorem pieces_walk (W : World) (s : ByteArray) (most at_ : Int) (ws : s.size ≤ 140737488351232) :
    Calls Try.prog 7 #[.string s, .int .i64 most, .int .i64 at_] W fun e w' => e = .returned (.bool true) ∧ Below W.heap.size W w' := by
  by_cases h1 : (300 : Int) < s.size
  · have d1 : decide ((300 : Int) < s.size) = true := decide_eq_true h1
    go_enter Try.func7, Try.ntmps7
    go_wp2_with fail
    refine (works_any _).mono ?_
    rintro e w1 ⟨rfl, k1⟩
    go_wp2_with fail
    go_ret
    exact ⟨rfl, k1.below (Nat.le_refl _) (by simp)⟩
  have d1 : decide ((300 : Int) < s.size) = false := decide_eq_false h1
  have hs3 : s.size ≤ 300 := by omega
  have hl := pcs_len s
  obtain ⟨m, hm⟩ : ∃ m : Int, m = (if most < 0 then 0 else most) := ⟨_, rfl⟩
  have hmx : max most 0 = m := by rw [hm]; split <;> omega
  have hm0 : 0 ≤ m := by rw [hm]; split <;> omega
  have hmax : ∀ (ats : Array TypeId) (ty : TypeId), Builtin.max_ ats ty #[Value.int .i64 most, Value.int .i64 0] = pure (Value.int .i64 m) := by
    intro ats ty
    rw [max_two, max2_int, ← hm]
    rfl
  have HP := Lib.hid (fun w => pieces_c s most (by omega) w _ _ rfl rfl)
  have HR := Lib.hid (fun w => refPieces_c s hs3 w _ _ rfl rfl)
  rw [hmx, List.map_take, List.map_take] at HP
  have s1 := Lib.hid (same_take ((pcs s).map Prod.fst) m hm0 (by simp; omega))
  have s2 := Lib.hid (same_take ((pcs s).map Prod.snd) m hm0 (by simp; omega))
  have hlen : (pcs s).length = ((pcs s).map Prod.fst).length := by simp
  have HC := Lib.hid (fun w => count_any s (by omega) w)
  rw [hlen] at HC
  have HV := Lib.hid (fun w => valid_any s (by omega) w)
  have HV' := Lib.hid (fun w => burinref01_Valid.calls 400 s _ w (refValid s hs3))
  have HB := Lib.hid (fun w => before_any s at_ w ws)
  have HB' := Lib.hid (fun w => burinref01_Before.calls 30 s at_ _ w (refBefore s at_ ws))
  obtain ⟨vl, hvl⟩ : ∃ vl, vl = validL (pcs s) := ⟨_, rfl⟩
  rw [← hvl] at HV HV'
  obtain ⟨bf, hbf⟩ : ∃ bf, bf = bef s at_ := ⟨_, rfl⟩
  rw [← hbf] at HB HB'
  obtain ⟨L, hL⟩ : ∃ L, L = (pcs s).map Prod.fst := ⟨_, rfl⟩
  obtain ⟨K, hK⟩ : ∃ K, K = (pcs s).map Prod.snd := ⟨_, rfl⟩
  rw [← hL, ← hK] at HP HR
  rw [← hL] at s1 HC hlen
  rw [← hK] at s2
  obtain ⟨P, hP⟩ : ∃ P, P = L.take m.toNat := ⟨_, rfl⟩
  obtain ⟨Q, hQ⟩ : ∃ Q, Q = K.take m.toNat := ⟨_, rfl⟩
  rw [← hP, ← hQ] at HP
  rw [← hP] at s1
  rw [← hQ] at s2
  clear hvl hbf hL hK hP hQ hmx hmax hm0
  rcases Int.lt_or_le most 0 with c | c
  · rw [if_pos c] at hm
    subst hm
    go_enter Try.func7, Try.ntmps7
    go_wp2_with fail
    refine (HP.out _).mono ?_
    rintro e w1 ⟨pA, pc, qA, qc, rfl, lp, lq, cp, cq, b1⟩
    go_wp2_with fail
    refine (HR.out _).mono ?_
    rintro e w2 ⟨uA, uc, tA, tc, rfl, lu, lt, cu, ct, b2⟩
    replace cp := Kd.C_below cp b2
    replace cq := Kd.C_below cq b2
    have B2 := b1.trans (b2.mono b1.size)
    go_wp2_with fail
    refine (burinlaw01_same.calls 700 pA pc P uA uc L 0 true _ cp lp cu lu s1.out).mono ?_
    rintro e w3 ⟨rfl, b3⟩
    replace cq := Kd.C_below cq b3
    replace ct := Kd.C_below ct b3
    have B3 := B2.trans (b3.mono B2.size)
    go_wp2_with fail
    refine (burinlaw01_same.calls 700 qA qc Q tA tc K 0 true _ cq lq ct lt s2.out).mono ?_
    rintro e w4 ⟨rfl, b4⟩
    have B4 := B3.trans (b4.mono B3.size)
    go_wp2_with fail
    refine (HC.out _).mono ?_
    rintro e w5 ⟨rfl, b5⟩
    have B5 := B4.trans (b5.mono B4.size)
    go_wp2_with fail
    refine (HV.out _).mono ?_
    rintro e w6 ⟨rfl, b6⟩
    have B6 := B5.trans (b6.mono B5.size)
    go_wp2_with fail
    refine (HV'.out _).mono ?_
    rintro e w7 ⟨rfl, b7⟩
    have B7 := B6.trans (b7.mono B6.size)
    go_wp2_with fail
    refine (HB.out _).mono ?_
    rintro e w8 ⟨rfl, b8⟩
    have B8 := B7.trans (b8.below B7.size (by simp))
    go_wp2_with fail
    refine (HB'.out _).mono ?_
    rintro e w9 ⟨rfl, b9⟩
    have B9 := B8.trans (b9.mono B8.size)
    go_wp2_with fail
    refine (works_any _).mono ?_
    rintro e w10 ⟨rfl, b10⟩
    have B10 := B9.trans (b10.below B9.size (by simp))
    go_wp2_with fail
    go_ret
    exact ⟨rfl, B10⟩
  · rw [if_neg (by omega)] at hm
    subst hm
    have c' : ¬ m < 0 := by omega
    go_enter Try.func7, Try.ntmps7
    go_wp2_with fail
    refine (HP.out _).mono ?_
    rintro e w1 ⟨pA, pc, qA, qc, rfl, lp, lq, cp, cq, b1⟩
    go_wp2_with fail
    refine (HR.out _).mono ?_
    rintro e w2 ⟨uA, uc, tA, tc, rfl, lu, lt, cu, ct, b2⟩
    replace cp := Kd.C_below cp b2
    replace cq := Kd.C_below cq b2
    have B2 := b1.trans (b2.mono b1.size)
    go_wp2_with fail
    refine (burinlaw01_same.calls 700 pA pc P uA uc L m true _ cp lp cu lu s1.out).mono ?_
    rintro e w3 ⟨rfl, b3⟩
    replace cq := Kd.C_below cq b3
    replace ct := Kd.C_below ct b3
    have B3 := B2.trans (b3.mono B2.size)
    go_wp2_with fail
    refine (burinlaw01_same.calls 700 qA qc Q tA tc K m true _ cq lq ct lt s2.out).mono ?_
    rintro e w4 ⟨rfl, b4⟩
    have B4 := B3.trans (b4.mono B3.size)
    go_wp2_with fail
    refine (HC.out _).mono ?_
    rintro e w5 ⟨rfl, b5⟩
    have B5 := B4.trans (b5.mono B4.size)
    go_wp2_with fail
    refine (HV.out _).mono ?_
    rintro e w6 ⟨rfl, b6⟩
    have B6 := B5.trans (b6.mono B5.size)
    go_wp2_with fail
    refine (HV'.out _).mono ?_
    rintro e w7 ⟨rfl, b7⟩
    have B7 := B6.trans (b7.mono B6.size)
    go_wp2_with fail
    refine (HB.out _).mono ?_
    rintro e w8 ⟨rfl, b8⟩
    have B8 := B7.trans (b8.below B7.size (by simp))
    go_wp2_with fail
    refine (HB'.out _).mono ?_
    rintro e w9 ⟨rfl, b9⟩
    have B9 := B8.trans (b9.mono B8.size)
    go_wp2_with fail
    refine (works_any _).mono ?_
    rintro e w10 ⟨rfl, b10⟩
    have B10 := B9.trans (b10.below B9.size (by simp))
    go_wp2_with fail
    go_ret
    exact ⟨rfl, B10⟩

theorem mono_b (f : Nat → Int) (n : Nat) (h : ∀ i, i < n → 1 ≤ f (i + 1) - f i) : ∀ i, i ≤ n → f 0 ≤ f i ∧ f i ≤ f n := by
  have up : ∀ i, i ≤ n → f 0 ≤ f i := by
    intro i
    induction i with
    | zero => intro _; exact Int.le_refl _
    | succ i ih => intro hi; have := ih (by omega); have := h i (by omega); omega
  have down : ∀ d i, i + d = n → f i ≤ f n := by
    intro d
    induction d with
    | zero => intro i hi; rw [show i = n from by omega]; exact Int.le_refl _
    | succ d ih => intro i hi; have := ih (i + 1) (by omega); have := h i (by omega); omega
  exact fun i hi => ⟨up i hi, down (n - i) i (by omega)⟩
set_option maxHeartbeats 2000000 in
theorem sides_walk (W : World) (s : ByteArray) (ws : s.size ≤ 140737488351232) :
    Calls Try.prog 8 #[.string s] W fun e w' => e = .returned (.bool true) ∧ Below W.heap.size W w' := by
  by_cases h1 : (300 : Int) < s.size
  · have d1 : decide ((300 : Int) < s.size) = true := decide_eq_true h1
    go_enter Try.func8, Try.ntmps8
    go_wp2_with fail
    refine (works_any _).mono ?_
    rintro e w1 ⟨rfl, k1⟩
    go_wp2_with fail
    go_ret
    exact ⟨rfl, k1.below (Nat.le_refl _) (by simp)⟩
  have d1 : decide ((300 : Int) < s.size) = false := decide_eq_false h1
  have hs3 : s.size ≤ 300 := by omega
  have hl := pcs_len s
  have HP := Lib.hid (fun w => pieces_c s 301 (by omega) w _ _ rfl rfl)
  rw [show (max (301 : Int) 0).toNat = 301 from rfl, List.take_of_length_le (by omega)] at HP
  have HC := Lib.hid (fun w => count_any s (by omega) w)
  obtain ⟨L, hL⟩ : ∃ L, L = (pcs s).map Prod.fst := ⟨_, rfl⟩
  obtain ⟨R, hR⟩ : ∃ R, R = (pcs s).map Prod.snd := ⟨_, rfl⟩
  have hLl : (pcs s).length = L.length := by rw [hL]; simp
  rw [hLl] at HC hl
  obtain ⟨f, hf⟩ : ∃ f : Nat → Int, f = fun i => plc s (pcs s) i := ⟨_, rfl⟩
  have f0 : f 0 = 0 := by rw [hf]; exact plc_zero s
  have fn : f L.length = s.size := by rw [hf]; exact plc_end s _ (by omega)
  have fs : ∀ i, i < L.length → bef s (f (i + 1)) = f (i + 1) - f i ∧ 1 ≤ f (i + 1) - f i := fun i hi => by rw [hf]; exact plc_back s s.size 0 (by omega) .zero i (by unfold pcs at hLl; omega)
  have fm := mono_b f L.length (fun i hi => (fs i hi).2)
  rw [f0, fn] at fm
  have fr : ∀ i, i < L.length → rd L (i : Nat) = f i := fun i hi => by
    rw [rd_get L i hi, hf]
    show _ = plc s (pcs s) i
    rw [plc_at s i (by omega)]
    simp only [hL]
  rw [← hL, ← hR] at HP
  clear hL hR hLl hf
  obtain ⟨n, hn⟩ : ∃ n, n = L.length := ⟨_, rfl⟩
  rw [← hn] at HC HP hl fn fs fm fr
  clear hn
  replace fs := Lib.hid fs
  replace fm := Lib.hid fm
  replace fr := Lib.hid fr
  replace f0 := Lib.hid f0
  replace fn := Lib.hid fn.symm
  go_enter Try.func8, Try.ntmps8
  go_wp2_with fail
  refine (works_any _).mono ?_
  rintro e w1 ⟨rfl, k1⟩
  have B1 := k1.below (Nat.le_refl _) (by simp)
  go_wp2_with fail
  refine (HP.out _).mono ?_
  rintro e w2 ⟨A, c, B, d, rfl, lA, lB, cA, -, b2⟩
  have B2 := B1.trans (b2.mono B1.size)
  go_wp2_with fail
  go_loopg [5, 6, 7] n (fun g a i v wr => a = .int .i64 (f g) ∧ i = .int .i64 ((g : Int) - 1) ∧ g ≤ n ∧ (Kd.int .i64).C wr A n L ∧ Below W.heap.size W wr)
  case atStart => exact ⟨by rw [fn.out], rfl, Nat.le_refl _, cA, B2⟩
  case round =>
    obtain ⟨rfl, rfl, hg, cA, BB⟩ := hrel
    cases gk with
    | zero =>
      have hd : decide ((0 : Int) ≤ ((0 : Nat) : Int) - 1) = false := by decide
      have h0 := f0.out
      rw [h0]
      clear h0
      go_wp2_with fail
      refine (HC.out _).mono ?_
      rintro e w5 ⟨rfl, b5⟩
      have B5 := BB.trans (b5.mono BB.size)
      go_wp2_with fail
      go_ret
      exact ⟨rfl, B5⟩
    | succ k =>
      have hd : decide ((0 : Int) ≤ ((k + 1 : Nat) : Int) - 1) = true := decide_eq_true (by omega)
      have hb := fm.out (k + 1) (by omega)
      have hb0 := fm.out k (by omega)
      have hs := fs.out k (by omega)
      have hr := fr.out k (by omega)
      have HB := Lib.hid (fun w => before_any s (f (k + 1)) w ws)
      rw [hs.1] at HB
      have hs1 := hs.2
      clear hs
      have hkk : ((k + 1 : Nat) : Int) - 1 = (k : Int) := by omega
      rw [hkk] at hd ⊢
      clear hkk
      have hk0 : (0 : Int) ≤ k := by omega
      have hkn : (k : Int) < n := by omega
      obtain ⟨x, hx⟩ : ∃ x, x = f (k + 1) := ⟨_, rfl⟩
      obtain ⟨y, hy⟩ : ∃ y, y = f k := ⟨_, rfl⟩
      rw [← hx, ← hy] at HB hs1
      rw [← hx] at hb ⊢
      rw [← hy] at hb0 hr
      replace hy := Lib.hid hy
      clear hx
      have e1 : decide (x - y < 1) = false := decide_eq_false (by omega)
      have e2 : x - (x - y) = y := by omega
      go_wp2_with fail
      refine (HB.out _).mono ?_
      rintro e w5 ⟨rfl, k5⟩
      have b5 := k5.below (Nat.le_refl _) (by simp)
      replace cA := Kd.C_below cA b5
      have B5 := BB.trans (b5.mono BB.size)
      obtain ⟨ad, rfl, had⟩ := Kd.at_int cA (k : Int) hk0 hkn
      rw [hr] at had
      clear hr
      have e3 : (k : Int).toNat = k := by omega
      rw [e3] at had
      clear e3
      go_wp2_with fail
      go_roundg k
      case measure => omega
      case rel => exact ⟨by rw [hy.out], rfl, by omega, cA, B5⟩
end Go.Proofs.Ytbcmjpmnljfolaa
