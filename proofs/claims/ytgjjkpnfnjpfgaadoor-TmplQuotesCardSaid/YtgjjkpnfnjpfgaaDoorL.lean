/- number: the group of a name. -/
import Derived.Test.YtgjjkpnfnjpfgaaDoorK
import Derived.Test.YtgjjkpnfnjpfgaaDoorShelfQ
import Derived.Shelf.SlicesE.IndexFunc
import Derived.Lib.ConvBytes
import Derived.Laws.IdiomStrings
namespace Go.Proofs.YtgjjkpnfnjpfgaaDoor
open Go.Shelf Go.RowKit PAll Go.Proofs.YtgjjkpnfnjpfgaaDoorW.PrintWords Go.Proofs.YtgjjkpnfnjpfgaaDoorW.PrintLast Go.Proofs.YtgjjkpnfnjpfgaaDoorW.PrintMore
set_option linter.unusedVariables false
set_option linter.unusedSimpArgs false
theorem dig_gives (c : UInt8) (w : World) : Calls Tryd.prog 22 #[.int .u8 (c.toNat : Int)] w fun e w' => e = .returned (.bool (!digL c)) ∧ Drawn0 w w' := by
  have D := Lib.hid (fun W => tmpl_digit.calls (c.toNat : Int) (digL c) W (digit_f c))
  generalize digL c = b at *
  go_enter Tryd.func22, Tryd.ntmps22
  go_wp2_with (go_at_call 23; refine (D.out w).mono ?_; rintro e w1 ⟨rfl, k1⟩)
  go_ret
  exact ⟨rfl, k1⟩
theorem dig_pred (w : World) : PredAt Tryd.prog 22 #[] (fun c : UInt8 => .int .u8 (c.toNat : Int)) (fun c => !digL c) w := by
  intro W x hW
  refine (dig_gives x W).mono ?_
  rintro e w' ⟨rfl, n, rfl⟩
  first
    | exact ⟨rfl, n, rfl⟩
    | exact ⟨n, rfl, rfl⟩
theorem bytesWorld_kp (w : World) (s : ByteArray) : Kp [] w (Lib.bytesWorld w 5 s) :=
  ⟨rfl, rfl, rfl, by rw [Lib.bytesWorld_size]; omega, fun k hk _ => Lib.bytesWorld_at_old w 5 s k hk⟩
theorem all_not (l : List UInt8) : (l.any fun c => !digL c) = !(l.all digL) := by
  induction l with
  | nil => rfl
  | cons c l ih => rw [List.any_cons, List.all_cons, ih]; cases digL c <;> simp
theorem bs_eq (l : List UInt8) : bs l = ⟨l.toArray⟩ := by unfold bs; rfl
def decL (l : List UInt8) : Int := l.foldl (fun n c => 10 * n + ((c.toNat : Int) - 48)) 0
def idxL : List ByteArray → List UInt8 → Nat → Int
  | [], _, _ => -1
  | s :: t, nm, i => if nm = s.data.toList then i else idxL t nm (i + 1)
def numI (N : List ByteArray) (nm : List UInt8) : Int := if nm.all digL then (if 4 < nm.length then -1 else decL nm) else (if 0 ≤ idxL N nm 0 then idxL N nm 0 + 1 else -1)
theorem idxL_lt (nm : List UInt8) : ∀ (N : List ByteArray) i, -1 ≤ idxL N nm i ∧ idxL N nm i ≤ i + N.length
  | [], i => by simp [idxL] <;> omega
  | s :: t, i => by
    have := idxL_lt nm t (i + 1)
    unfold idxL
    split <;> simp only [List.length_cons] <;> omega
theorem idx_l (N : List ByteArray) (nm : List UInt8) (hN : N.length ≤ 1000000) : ∀ k i, i ≤ N.length → N.length - i < k → slices_Index_string_string.l0 k N (bs nm) (N.length : Int) (i : Nat) = some (idxL (N.drop i) nm i)
  | 0, i, _, h => by omega
  | k + 1, i, hi, hk => by
    unfold slices_Index_string_string.l0
    by_cases h : i < N.length
    · have hd : N.drop i = N[i] :: N.drop (i + 1) := List.drop_eq_getElem_cons h
      have hr : rdOf ByteArray.empty N (i : Nat) = N[i] := by
        unfold rdOf
        simp [List.getD_eq_getElem?_getD, h]
      rw [if_pos (by omega), if_pos (by omega), if_pos (by omega), hr, hd, bs_list, idxL, ByteArray.toList_eq]
      by_cases e : nm = N[i].data.toList
      · rw [if_pos e, if_pos e]
      · rw [if_neg e, if_neg e, w64 _ (by omega) (by omega), show ((i : Nat) : Int) + 1 = ((i + 1 : Nat) : Int) by omega]
        exact idx_l N nm hN k (i + 1) h (by omega)
    · have : i = N.length := by omega
      subst this
      rw [if_neg (by omega), List.drop_length]
      rfl
theorem idx_calls (A : Option Addr) (c : Nat) (N : List ByteArray) (nm : List UInt8) (w : World) (hr : Kd.C Kd.string w A N.length N) (hc : N.length ≤ c) (hN : N.length ≤ 1000000) :
    Calls Tryd.prog 24 #[.slice A N.length c, .string (bs nm)] w fun e w' => e = .returned (.int .i64 (idxL N nm 0)) ∧ Drawn0 w w' := by
  have := idx_l N nm hN (N.length + 1) 0 (by omega) (by omega)
  exact slices_Index_string_string.calls (N.length + 1) A c N (bs nm) _ w hr hc this
theorem decL_snoc (l : List UInt8) (c : UInt8) : decL (l ++ [c]) = 10 * decL l + ((c.toNat : Int) - 48) := by unfold decL; rw [List.foldl_append]; rfl
theorem decL_bound (nm : List UInt8) (h : nm.all digL = true) : ∀ q, q ≤ nm.length → 0 ≤ decL (nm.take q) ∧ decL (nm.take q) < 10 ^ q
  | 0, _ => by simp [decL]
  | q + 1, hq => by
    obtain ⟨h1, h2⟩ := decL_bound nm h q (by omega)
    have hc := List.all_eq_true.1 h nm[q] (List.getElem_mem _)
    simp only [digL, Bool.and_eq_true, decide_eq_true_eq] at hc
    rw [← List.take_append_getElem (show q < nm.length by omega), decL_snoc, Int.pow_succ]
    omega
def DecI (w1 : World) (nm : List UInt8) (n i : Value) (w : World) : Prop := w = w1 ∧ ∃ q : Nat, i = .int .i64 q ∧ q ≤ nm.length ∧ Aside0 (n = .int .i64 (decL (nm.take q)))
set_option maxRecDepth 100000 in
set_option maxHeartbeats 2000000 in
theorem number_calls (A : Option Addr) (c : Nat) (N : List ByteArray) (nm : List UInt8) (w : World) (hr : Kd.C Kd.string w A N.length N) (hc : N.length ≤ c) (hN : N.length ≤ 1000000) (hnm : nm.length ≤ 1000000) (hK : ∀ w', Kp [] w w' → Kd.C Kd.string w' A N.length N) :
    Calls Tryd.prog 12 #[.string (bs nm), .slice A N.length c] w fun e w' => e = .returned (.int .i64 (numI N nm)) ∧ Kp [] w w' := by
  have hsz : (bs nm).size = nm.length := bs_size nm
  have CF := Lib.hid (show ∀ W : World, Calls Tryd.prog 21 #[.slice (some ⟨w.heap.size, 0, none⟩) nm.length (grownCap w nm.length 0 5), .func (.func 22) #[] #[]] (Lib.bytesWorld w 5 (bs nm)) fun e w' => e = .returned (.bool (!(nm.all digL))) ∧ Kp [] w w' from by
        intro _
        have := AnyE.slices_ContainsFunc Tryd.cfByte (fun c : UInt8 => .int .u8 (c.toNat : Int)) (fun c => !digL c) 22 #[] (fun args w => by go_simp) w.heap.size 0 nm.length (grownCap w nm.length 0 5) nm (Lib.bytesWorld w 5 (bs nm)) (dig_pred _) (Nat.le_refl _) (by omega) (fun j hj => by
          rw [Nat.zero_add, bs_eq, Lib.bytesWorld_cell w 5 ⟨nm.toArray⟩ j (by rw [← bs_eq, hsz]; exact hj)]
          simp [List.getD, hj])
        refine this.mono ?_
        rintro e w' ⟨rfl, q, rfl⟩
        rw [List.take_length, all_not]
        exact ⟨rfl, (bytesWorld_kp w _).drewN q⟩)
  have HCV := Lib.run_convert_string_bytes (P := Tryd.prog) w 9 48 5 (bs nm) Tryd.underlying9 Tryd.underlying48 Tryd.underlying5
  by_cases hall : nm.all digL = true
  · rw [hall] at CF
    by_cases h4 : 4 < nm.length
    · have hv : numI N nm = -1 := by unfold numI; rw [if_pos hall, if_pos h4]
      have d1 : decide ((4 : Int) < (nm.length : Int)) = true := decide_eq_true (by omega)
      rw [hv]
      clear hv h4 hall hK
      go_enter Tryd.func12, Tryd.ntmps12
      go_wp2_with (go_at_call 21; refine (CF.out w).mono ?_; rintro e w1 ⟨rfl, k1⟩)
      go_ret
      exact ⟨rfl, k1⟩
    · have hv : numI N nm = decL nm := by unfold numI; rw [if_pos hall, if_neg h4]
      have d1 : decide ((4 : Int) < (nm.length : Int)) = false := decide_eq_false (by omega)
      have HB := Lib.hid (decL_bound nm hall)
      have HA := Lib.hid hall
      have H4 := Lib.hid h4
      rw [hv]
      clear hv h4 hall hK hr
      go_enter Tryd.func12, Tryd.ntmps12
      go_wp2_with (go_at_call 21; refine (CF.out w).mono ?_; rintro e w1 ⟨rfl, k1⟩)
      go_loopw [5, 17] (fun nv iv wr => DecI w1 nm nv iv wr) (fun _ iv _ => nm.length - (intOf iv).toNat)
      case atStart => exact ⟨rfl, 0, rfl, by omega, ⟨rfl⟩⟩
      case round =>
        obtain ⟨rfl, q, rfl, hq, hn⟩ := hrel
        obtain ⟨rfl⟩ := hn
        have hb := HB.out q hq
        have hp : (10 : Int) ^ q ≤ 10000 := by
          have : q ≤ 4 := by have := H4.out; omega
          have h3 : q = 0 ∨ q = 1 ∨ q = 2 ∨ q = 3 ∨ q = 4 := by omega
          rcases h3 with rfl | rfl | rfl | rfl | rfl <;> decide
        by_cases hlt : q < nm.length
        · have dq : decide ((q : Int) < (nm.length : Int)) = true := decide_eq_true (by omega)
          have hcc := List.all_eq_true.1 HA.out nm[q] (List.getElem_mem _)
          simp only [digL, Bool.and_eq_true, decide_eq_true_eq] at hcc
          have hsn := decL_snoc (nm.take q) nm[q]
          rw [List.take_append_getElem hlt] at hsn
          have hix : ∀ h : q < (bs nm).size, ((bs nm)[q]'h).toNat = nm[q].toNat := by
            intro h
            have := bt_bs nm q hlt
            unfold bt at this
            rw [dif_pos (by simpa using h)] at this
            exact Int.ofNat.inj this
          generalize nm[q].toNat = x at *
          generalize decL (nm.take q) = d at *
          have hu : ((x : Int) - 48) % 256 = (x : Int) - 48 := by omega
          have hm : IntKind.i64.wrap (10 * d) = 10 * d := IntWalk.i64_in _ (by omega)
          have ha : IntKind.i64.wrap (10 * d + ((x : Int) - 48)) = 10 * d + ((x : Int) - 48) := IntWalk.i64_in _ (by omega)
          have hi1 : IntKind.i64.wrap ((q : Int) + 1) = (q : Int) + 1 := IntWalk.i64_in _ (by omega)
          replace hsn := Lib.hid hsn
          go_wp2_with fail
          go_round
          case rel => exact ⟨rfl, q + 1, rfl, by omega, ⟨by rw [hsn.out]⟩⟩
          case measure => simp [intOf]; omega
        · have : q = nm.length := by omega
          subst this
          have dq : decide ((nm.length : Int) < (nm.length : Int)) = false := decide_eq_false (by omega)
          rw [List.take_length]
          go_wp2_with fail
          go_ret
          exact ⟨rfl, k1⟩
  · have hall' : nm.all digL = false := by simpa using hall
    rw [hall'] at CF
    have hb := idxL_lt nm N 0
    have IX := Lib.hid (fun w' k => idx_calls A c N nm w' (hK w' k) hc hN)
    by_cases hi : 0 ≤ idxL N nm 0
    · have hv : numI N nm = idxL N nm 0 + 1 := by unfold numI; rw [if_neg hall, if_pos hi]
      have d1 : decide (0 ≤ idxL N nm 0) = true := decide_eq_true hi
      have hw : IntKind.i64.wrap (idxL N nm 0 + 1) = idxL N nm 0 + 1 := IntWalk.i64_in _ (by omega)
      rw [hv]
      generalize idxL N nm 0 = r at *
      clear hv hall hall' hK hr hi hb
      go_enter Tryd.func12, Tryd.ntmps12
      go_wp2_with (first | (go_at_call 21; refine (CF.out w).mono ?_; rintro e w1 ⟨rfl, k1⟩) | (go_at_call 24; refine (IX.out _ k1).mono ?_; rintro e w2 ⟨rfl, ⟨n2, rfl⟩⟩))
      go_ret
      exact ⟨rfl, k1.drewN n2⟩
    · have hv : numI N nm = -1 := by unfold numI; rw [if_neg hall, if_neg hi]
      have d1 : decide (0 ≤ idxL N nm 0) = false := decide_eq_false hi
      rw [hv]
      generalize idxL N nm 0 = r at *
      clear hv hall hall' hK hr hi hb
      go_enter Tryd.func12, Tryd.ntmps12
      go_wp2_with (first | (go_at_call 21; refine (CF.out w).mono ?_; rintro e w1 ⟨rfl, k1⟩) | (go_at_call 24; refine (IX.out _ k1).mono ?_; rintro e w2 ⟨rfl, ⟨n2, rfl⟩⟩))
      go_ret
      exact ⟨rfl, k1.drewN n2⟩
end Go.Proofs.YtgjjkpnfnjpfgaaDoor
