/- Package utf: Before, for every text and place; it is the document's. -/
import Derived.Test.YtbcmjpmnljfolaaI
namespace Go.Proofs.Ytbcmjpmnljfolaa
open Go.RowKit PUtfPieces Go.Proofs.YtbcmjpmnljfolaaW.PrintWords Go.Proofs.YtbcmjpmnljfolaaW.PrintLast Go.Proofs.YtbcmjpmnljfolaaW.PrintMore
set_option linter.unusedVariables false

/-- What stands n bytes ahead of a place, and is read there. -/
def cut (s : ByteArray) (b n : Nat) : ByteArray := s.extract (b - n) b
def hit (s : ByteArray) (b n : Nat) : Prop := n ≤ b ∧ (dec (cut s b n)).2 = n
instance (s b n) : Decidable (hit s b n) := by unfold hit; exact inferInstance
def bef (s : ByteArray) (at_ : Int) : Int :=
  if at_ < 1 ∨ (s.size : Int) < at_ then 0 else if hit s at_.toNat 2 then 2 else if hit s at_.toNat 3 then 3 else if hit s at_.toNat 4 then 4 else 1

theorem bef_end (s : ByteArray) (b n : Nat) (h1 : 1 ≤ b) (h2 : b ≤ s.size) (hn : 4 < n ∨ b < n) (hno : ∀ j, 2 ≤ j → j < n → ¬ hit s b j) : bef s b = 1 := by
  have hx : ∀ j, 2 ≤ j → j ≤ 4 → ¬ hit s b j := by
    intro j h3 h4 hh
    by_cases hj : j < n
    · exact hno j h3 hj hh
    · have := hh.1
      omega
  unfold bef
  rw [if_neg (by omega), Int.toNat_natCast, if_neg (hx 2 (by omega) (by omega)), if_neg (hx 3 (by omega) (by omega)), if_neg (hx 4 (by omega) (by omega))]
theorem bef_hit (s : ByteArray) (b n : Nat) (h1 : 1 ≤ b) (h2 : b ≤ s.size) (hn : 2 ≤ n) (h4 : n ≤ 4) (hh : hit s b n) (hno : ∀ j, 2 ≤ j → j < n → ¬ hit s b j) : bef s b = n := by
  unfold bef
  rw [if_neg (by omega), Int.toNat_natCast]
  rcases (show n = 2 ∨ n = 3 ∨ n = 4 by omega) with e | e | e
  · rw [e] at hh ⊢
    rw [if_pos hh]
    decide
  · rw [e] at hh hno ⊢
    rw [if_neg (hno 2 (by omega) (by omega)), if_pos hh]
    decide
  · rw [e] at hh hno ⊢
    rw [if_neg (hno 2 (by omega) (by omega)), if_neg (hno 3 (by omega) (by omega)), if_pos hh]
    decide

theorem before_in (s : ByteArray) (b : Nat) (h1 : 1 ≤ b) (h2 : b ≤ s.size) (w : World) (hsz : s.size ≤ 140737488351232) :
    Calls Try.prog 22 #[.string s, .int .i64 b] w fun e w' => e = .returned (.int .i64 (bef s b)) ∧ Kp [] w w' := by
  have d0 : ¬ (b : Int) < 1 := by omega
  have d1 : ¬ (s.size : Int) < b := by omega
  go_enter Try.func22, Try.ntmps22
  go_wp2_with fail
  go_loopg [5] 4 (fun g i wr => ∃ n : Nat, g + n = 5 ∧ 1 ≤ n ∧ i = .int .i64 n ∧ Hid (∀ j, 2 ≤ j → j < n → ¬ hit s b j) ∧ Kp [] w wr)
  case atStart => exact ⟨1, by omega, by omega, rfl, fun j h3 h4 => by omega, Kp.refl _ _⟩
  case round =>
    obtain ⟨n, hg, hn1, rfl, hno, hk⟩ := hrel
    by_cases hend : 4 < n ∨ b < n
    · have hr := Lib.hid (bef_end s b n h1 h2 hend hno.out)
      by_cases hb4 : (b : Int) < 4
      · have hx : ¬ (n : Int) ≤ b := by omega
        have hd : decide ((n : Int) ≤ b) = false := decide_eq_false hx
        clear hend
        go_wp2_with fail
        go_ret
        exact ⟨by rw [hr.out]; rfl, hk⟩
      · have hd : decide ((n : Int) ≤ 4) = false := decide_eq_false (by omega)
        clear hend
        go_wp2_with fail
        go_ret
        exact ⟨by rw [hr.out]; rfl, hk⟩
    · have HD := Lib.hid (fun w => decode_any (s.extract (b - n) b) w)
      obtain ⟨dr, hdr⟩ : ∃ x, x = (dec (s.extract (b - n) b)).1 := ⟨_, rfl⟩
      obtain ⟨dn, hdn⟩ : ∃ x, x = (dec (s.extract (b - n) b)).2 := ⟨_, rfl⟩
      rw [← hdr, ← hdn] at HD
      have hd : decide ((n : Int) ≤ (if (b : Int) < 4 then (b : Int) else 4)) = true := decide_eq_true (by split <;> omega)
      have hle : n ≤ b := by omega
      have hle2 : (n : Int) ≤ b := by omega
      have h4 : n ≤ 4 := by omega
      have h4' : (n : Int) ≤ 4 := by omega
      clear hend
      by_cases hh : dn = n
      · by_cases hn2 : 2 ≤ n
        · have hr := Lib.hid (bef_hit s b n h1 h2 hn2 h4 ⟨hle, by rw [← hh, hdn]; rfl⟩ hno.out)
          subst hh
          have hgt : decide ((1 : Int) < (n : Int)) = true := decide_eq_true (by omega)
          clear hdn hdr
          go_wp2_with fail
          all_goals
            refine (HD.out _).mono ?_
            rintro e w1 ⟨rfl, k1⟩
            go_wp2_with fail
            go_ret
            exact ⟨by rw [hr.out]; rfl, hk.trans k1⟩
        · have : n = 1 := by omega
          subst this
          subst hh
          clear hdn hdr
          go_wp2_with fail
          all_goals
            refine (HD.out _).mono ?_
            rintro e w1 ⟨rfl, k1⟩
            go_wp2_with fail
            go_roundg 3
            case measure => omega
            case rel => exact ⟨2, by omega, by omega, rfl, fun j h3 h4 => by omega, hk.trans k1⟩
      · have hq : (dn == (n : Int)) = false := by rw [beq_eq_false_iff_ne]; exact hh
        have hno2 : Hid (∀ j, 2 ≤ j → j < n + 1 → ¬ hit s b j) := by
          intro j h3 h5 hj
          by_cases hjn : j < n
          · exact hno.out j h3 hjn hj
          · have : j = n := by omega
            subst this
            exact hh (by rw [hdn]; exact hj.2)
        clear hdn hdr hh
        go_wp2_with fail
        all_goals
          refine (HD.out _).mono ?_
          rintro e w1 ⟨rfl, k1⟩
          go_wp2_with fail
          go_roundg (4 - n)
          case measure => omega
          case rel => exact ⟨n + 1, by omega, by omega, by go_num, hno2, hk.trans k1⟩
theorem before_any (s : ByteArray) (at_ : Int) (w : World) (hsz : s.size ≤ 140737488351232) :
    Calls Try.prog 22 #[.string s, .int .i64 at_] w fun e w' => e = .returned (.int .i64 (bef s at_)) ∧ Kp [] w w' := by
  by_cases h1 : at_ < 1
  · have hb : bef s at_ = 0 := by unfold bef; rw [if_pos (.inl h1)]
    rw [hb]
    have d0 : decide (at_ < 1) = true := decide_eq_true h1
    go_enter Try.func22, Try.ntmps22
    go_wp2_with fail
    go_ret
    exact ⟨rfl, Kp.refl _ _⟩
  · by_cases h2 : (s.size : Int) < at_
    · have hb : bef s at_ = 0 := by unfold bef; rw [if_pos (.inr h2)]
      rw [hb]
      have d0 : decide (at_ < 1) = false := decide_eq_false h1
      have d1 : decide ((s.size : Int) < at_) = true := decide_eq_true h2
      go_enter Try.func22, Try.ntmps22
      go_wp2_with fail
      go_ret
      exact ⟨rfl, Kp.refl _ _⟩
    · obtain ⟨b, rfl⟩ : ∃ b : Nat, at_ = b := ⟨at_.toNat, by omega⟩
      exact before_in s b (by omega) (by omega) w hsz

theorem cut_size (s : ByteArray) (b n : Nat) (h : n ≤ b) (hb : b ≤ s.size) : (cut s b n).size = n := by
  unfold cut
  rw [ByteArray.size_extract]
  omega
theorem bt_cut (s : ByteArray) (b n i : Nat) (h : n ≤ b) (hb : b ≤ s.size) (hi : i < n) : bt (cut s b n) (i : Nat) = bt s ((b - n + i : Nat) : Int) := by
  unfold cut
  exact bt_ext s (b - n) b i hb (by omega)
/-- A whole text of two bytes or more that is one piece: a rune's, its other bytes are none that begin. -/
theorem dec_whole (t : ByteArray) (h : (dec t).2 = t.size) (h2 : 2 ≤ t.size) : 0 ≤ (dec t).1 ∧ 194 ≤ bt t 0 ∧ ∀ i : Nat, 1 ≤ i → i < t.size → isC (bt t (i : Nat)) := by
  have b0 := bt_range t 0
  unfold dec at h ⊢
  rw [if_neg (by omega)] at h ⊢
  by_cases h1 : bt t 0 < 128
  · rw [if_pos h1] at h
    have h : (1 : Int) = t.size := h
    omega
  rw [if_neg h1] at h ⊢
  by_cases g : g2 t
  · rw [if_pos g] at h ⊢
    have h : (2 : Int) = t.size := h
    obtain ⟨z, r, c⟩ := g
    refine ⟨by show 0 ≤ r2 t; unfold r2; omega, r.1, fun i hi1 hi2 => ?_⟩
    have : i = 1 := by omega
    subst this
    exact c
  rw [if_neg g] at h ⊢
  by_cases g : g3 t
  · rw [if_pos g] at h ⊢
    have h : (3 : Int) = t.size := h
    obtain ⟨z, r, c, d, _⟩ := g
    refine ⟨by show 0 ≤ r3 t; unfold r3; omega, by omega, fun i hi1 hi2 => ?_⟩
    rcases (show i = 1 ∨ i = 2 by omega) with e | e <;> subst e
    · exact c
    · exact d
  rw [if_neg g] at h ⊢
  by_cases g : g4 t
  · rw [if_pos g] at h ⊢
    have h : (4 : Int) = t.size := h
    obtain ⟨z, r, c, d, e4, _⟩ := g
    refine ⟨by show 0 ≤ r4 t; unfold r4; omega, by omega, fun i hi1 hi2 => ?_⟩
    rcases (show i = 1 ∨ i = 2 ∨ i = 3 by omega) with e | e | e <;> subst e
    · exact c
    · exact d
    · exact e4
  · rw [if_neg g] at h
    have h : (1 : Int) = t.size := h
    omega
theorem dec_one (t : ByteArray) (h1 : t.size = 1) (h : 0 ≤ (dec t).1) : bt t 0 < 128 := by
  unfold dec at h
  rw [if_neg (by omega)] at h
  by_cases c : bt t 0 < 128
  · exact c
  · rw [if_neg c, if_neg (fun g : g2 t => by have := g.1; omega), if_neg (fun g : g3 t => by have := g.1; omega), if_neg (fun g : g4 t => by have := g.1; omega)] at h
    exact absurd h (by decide)

theorem befStep (k : Nat) (s : ByteArray) (b n : Nat) (hb : b ≤ s.size) (hsz : s.size ≤ 140737488351232) (hn : 1 ≤ n) (hn5 : n ≤ 5) : burinref01_Before.l0 (k + 14) s (b : Int) (n : Int) =
    if n ≤ 4 ∧ n ≤ b then (if 0 ≤ (dec (cut s b n)).1 ∧ (dec (cut s b n)).2 = n then some (n : Int) else burinref01_Before.l0 (k + 12) s (b : Int) ((n + 1 : Nat) : Int)) else some 1 := by
  have hw : wrap64 ((n : Int) + 1) = ((n + 1 : Nat) : Int) := by unfold wrap64; omega
  rw [burinref01_Before.l0]
  by_cases h4 : n ≤ 4
  · rw [if_pos (by omega), burinref01_Before.j2]
    by_cases hnb : n ≤ b
    · have hs : wrap64 ((b : Int) - (n : Int)) = ((b - n : Nat) : Int) := by unfold wrap64; omega
      rw [if_pos (show n ≤ 4 ∧ n ≤ b from ⟨h4, hnb⟩), if_pos (by simpa using hnb), hs, if_pos (by omega), if_pos (by omega), if_pos (by omega), Int.toNat_natCast, Int.toNat_natCast, refDecode k, Option.bind_some, hw]
      show (if (dec (cut s b n)).1 ≥ 0 then _ else _) = _
      by_cases c1 : 0 ≤ (dec (cut s b n)).1
      · rw [if_pos c1]
        by_cases c2 : (dec (cut s b n)).2 = n
        · rw [if_pos (show 0 ≤ (dec (cut s b n)).1 ∧ (dec (cut s b n)).2 = n from ⟨c1, c2⟩)]
          exact if_pos c2
        · rw [if_neg (show ¬ (0 ≤ (dec (cut s b n)).1 ∧ (dec (cut s b n)).2 = n) from fun h => c2 h.2)]
          exact if_neg c2
      · rw [if_neg (show ¬ (0 ≤ (dec (cut s b n)).1 ∧ (dec (cut s b n)).2 = n) from fun h => c1 h.1)]
        exact if_neg c1
    · rw [if_neg (show ¬ (n ≤ 4 ∧ n ≤ b) from fun h => hnb h.2), if_neg (by simpa using hnb)]
  · rw [if_neg (show ¬ (n ≤ 4 ∧ n ≤ b) from fun h => h4 h.1), if_neg (by omega), burinref01_Before.j2, if_neg (by decide)]
theorem refBefore (s : ByteArray) (at_ : Int) (hsz : s.size ≤ 140737488351232) : burinref01_Before.f 30 s at_ = some (bef s at_) := by
  unfold burinref01_Before.f
  by_cases h1 : at_ < 1
  · rw [if_pos h1, burinref01_Before.j0, if_pos rfl]
    unfold bef
    rw [if_pos (.inl h1)]
  · rw [if_neg h1, burinref01_Before.j0]
    by_cases h2 : (s.size : Int) < at_
    · rw [if_pos (by simpa using h2)]
      unfold bef
      rw [if_pos (.inr h2)]
    · rw [if_neg (by simpa using h2)]
      obtain ⟨b, rfl⟩ : ∃ b : Nat, at_ = b := ⟨at_.toNat, by omega⟩
      have hb : b ≤ s.size := by omega
      have hb1 : 1 ≤ b := by omega
      have s1 := befStep 15 s b 1 hb hsz (by omega) (by omega)
      have s2 := befStep 13 s b 2 hb hsz (by omega) (by omega)
      have s3 := befStep 11 s b 3 hb hsz (by omega) (by omega)
      have s4 := befStep 9 s b 4 hb hsz (by omega) (by omega)
      have s5 := befStep 7 s b 5 hb hsz (by omega) (by omega)
      rw [if_neg (by omega)] at s5
      have key : ∀ n, 2 ≤ n → n ≤ 4 → n ≤ b → ((0 ≤ (dec (cut s b n)).1 ∧ (dec (cut s b n)).2 = n) ↔ hit s b n) := by
        intro n h3 h4 h5
        have hz := cut_size s b n h5 hb
        constructor
        · exact fun h => ⟨h5, h.2⟩
        · intro h
          exact ⟨(dec_whole _ (by rw [hz]; exact h.2) (by omega)).1, h.2⟩
      have hbf : bef s (b : Int) = if hit s b 2 then 2 else if hit s b 3 then 3 else if hit s b 4 then 4 else 1 := by
        unfold bef
        rw [if_neg (by omega), Int.toNat_natCast]
      refine s1.trans ?_
      rw [if_pos ⟨by omega, hb1⟩]
      by_cases c1 : 0 ≤ (dec (cut s b 1)).1 ∧ (dec (cut s b 1)).2 = (1 : Nat)
      · rw [if_pos c1]
        have hlow := dec_one _ (cut_size s b 1 hb1 hb) c1.1
        have hl : bt (cut s b 1) ((0 : Nat) : Int) = bt s ((b - 1 + 0 : Nat) : Int) := bt_cut s b 1 0 hb1 hb (by omega)
        have nohit : ∀ n, 2 ≤ n → n ≤ 4 → ¬ hit s b n := by
          rintro n h3 h4 ⟨h5, h6⟩
          have hz := cut_size s b n h5 hb
          have hc := (dec_whole (cut s b n) (by rw [hz]; exact h6) (by omega)).2.2 (n - 1) (by omega) (by omega)
          rw [bt_cut s b n (n - 1) h5 hb (by omega), show b - n + (n - 1) = b - 1 + 0 from by omega, ← hl] at hc
          have h0 : bt (cut s b 1) ((0 : Nat) : Int) < 128 := hlow
          unfold isC at hc
          omega
        rw [hbf, if_neg (nohit 2 (by omega) (by omega)), if_neg (nohit 3 (by omega) (by omega)), if_neg (nohit 4 (by omega) (by omega))]
        rfl
      · rw [if_neg c1]
        refine s2.trans ?_
        rw [hbf]
        by_cases z2 : 2 ≤ b
        · rw [if_pos ⟨by omega, z2⟩]
          by_cases c2 : hit s b 2
          · rw [if_pos ((key 2 (by omega) (by omega) z2).2 c2), if_pos c2]
            rfl
          · rw [if_neg (fun h => c2 ((key 2 (by omega) (by omega) z2).1 h)), if_neg c2]
            refine s3.trans ?_
            by_cases z3 : 3 ≤ b
            · rw [if_pos ⟨by omega, z3⟩]
              by_cases c3 : hit s b 3
              · rw [if_pos ((key 3 (by omega) (by omega) z3).2 c3), if_pos c3]
                rfl
              · rw [if_neg (fun h => c3 ((key 3 (by omega) (by omega) z3).1 h)), if_neg c3]
                refine s4.trans ?_
                by_cases z4 : 4 ≤ b
                · rw [if_pos ⟨by omega, z4⟩]
                  by_cases c4 : hit s b 4
                  · rw [if_pos ((key 4 (by omega) (by omega) z4).2 c4), if_pos c4]
                    rfl
                  · rw [if_neg (fun h => c4 ((key 4 (by omega) (by omega) z4).1 h)), if_neg c4]
                    exact s5
                · rw [if_neg (fun h => z4 h.2), if_neg (fun h : hit s b 4 => z4 h.1)]
            · rw [if_neg (fun h => z3 h.2), if_neg (fun h : hit s b 3 => z3 h.1), if_neg (fun h : hit s b 4 => z3 (by have := h.1; omega))]
        · rw [if_neg (fun h => z2 h.2), if_neg (fun h : hit s b 2 => z2 h.1), if_neg (fun h : hit s b 3 => z2 (by have := h.1; omega)), if_neg (fun h : hit s b 4 => z2 (by have := h.1; omega))]
end Go.Proofs.Ytbcmjpmnljfolaa
