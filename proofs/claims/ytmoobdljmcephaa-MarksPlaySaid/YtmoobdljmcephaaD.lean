/- Package marks: New, Clear, Count and First: what they do to a table, in every world (the walks). -/
import Derived.Test.YtmoobdljmcephaaC
namespace Go.Proofs.Ytmoobdljmcephaa
open Go.RowKit
set_option linter.unusedVariables false
set_option linter.unusedSimpArgs false

theorem Try.info51 : (Try.prog.info? 51).map (fun i => (i.zero, i.size, i.bytes)) = some (some (.int .u64 0), 1, 8) := by kernel_rfl

theorem new_range (w : World) (a b : Int) (h : a < 1 ∨ b < 1) :
    Calls Try.prog 8 #[.int .i64 a, .int .i64 b] w fun e w' => e = .returned (.tuple #[.pointer none, .int .i64 1]) ∧ w = w' := by
  by_cases h1 : a < 1
  · clear h
    go_enter Try.func8, Try.ntmps8
    go_wp2
    go_ret2
    exact ⟨rfl, rfl⟩
  · have h2 : b < 1 := by omega
    clear h
    go_enter Try.func8, Try.ntmps8
    go_wp2
    go_ret2
    exact ⟨rfl, rfl⟩

theorem over_iff (a b : Int) (h1 : 1 ≤ a) (h2 : 1 ≤ b) : 262144 / b < a ↔ 262144 < a * b := by
  rw [Int.ediv_lt_iff_lt_mul (by omega)]

theorem new_long (w : World) (a b : Int) (h1 : 1 ≤ a) (h2 : 1 ≤ b) (h : 262144 < a * b) :
    Calls Try.prog 8 #[.int .i64 a, .int .i64 b] w fun e w' => e = .returned (.tuple #[.pointer none, .int .i64 2]) ∧ w = w' := by
  have h3 := (over_iff a b h1 h2).2 h
  obtain ⟨q, hq⟩ : ∃ q, q = 262144 / b := ⟨_, rfl⟩
  have hq' : 262144 / b = q := hq.symm
  rw [← hq] at h3
  clear hq h
  go_enter Try.func8, Try.ntmps8
  go_wp2
  go_ret2
  exact ⟨rfl, rfl⟩

theorem madeOne51 (n i : Nat) (h : i < n) : (madeCells #[Value.int .u64 0] n)[i]? = some (.int .u64 ((0 : Nat) : Int)) := by
  rw [madeOne]; simp [h]
theorem sumPop_zero : ∀ n, sumPop (fun _ => 0) n = 0
  | 0 => rfl
  | n + 1 => by show sumPop _ n + pop 0 = 0; rw [sumPop_zero n]; exact popN_zero 64
theorem isM_new (w : World) (R C : Nat) (h1 : 1 ≤ R) (h2 : 1 ≤ C) (h : R * C ≤ 262144) {m wb : Nat} (hw : w.heap[wb]? = some (.cells (madeCells #[.int .u64 0] ((R * C + 63) / 64)) 51 (0, 0)))
    (hm : w.heap[m]? = some (.cells #[.int .i64 (R : Nat), .int .i64 (C : Nat), .slice (some ⟨wb, 0, none⟩) ((R * C + 63) / 64) ((R * C + 63) / 64)] 50 (0, 0))) (d : m ≠ wb) : IsM w m wb R C [] := by
  refine ⟨hm, ⟨_, fun _ => 0, hw, by simp [madeOne], fun i hi => ⟨madeOne51 _ _ hi, by simp, by simp⟩, sumPop_zero _⟩, by simp, by simp, d, h1, h2, h⟩

/-- What New leaves: a table without marks in new memory. -/
def NewPost (w : World) (R C : Nat) (e : Ending) (w' : World) : Prop := ∃ m wb, e = .returned (.tuple #[.pointer (some ⟨m, 0, none⟩), .int .i64 0]) ∧ IsM w' m wb R C [] ∧ w.heap.size ≤ m ∧ w.heap.size ≤ wb ∧ Kp [] w w'

theorem heap2 (w : World) (a b : Obj) : ((w.alloc a).alloc b).heap[w.heap.size]? = some a ∧ ((w.alloc a).alloc b).heap[w.heap.size + 1]? = some b := by
  show ((w.heap.push a).push b)[_]? = _ ∧ ((w.heap.push a).push b)[_]? = _
  simp only [Array.getElem?_push, Array.size_push]
  refine ⟨?_, ?_⟩
  · rw [if_neg (by omega), if_pos trivial]
  · rw [if_pos trivial]

theorem new_yes (w : World) (R C : Nat) (h1 : 1 ≤ R) (h2 : 1 ≤ C) (h : R * C ≤ 262144) :
    Calls Try.prog 8 #[.int .i64 R, .int .i64 C] w (NewPost w R C) := by
  have h3 : ¬ 262144 / (C : Int) < R := by
    rw [over_iff _ _ (by omega) (by omega)]
    have : (R : Int) * C = ((R * C : Nat) : Int) := by simp
    omega
  obtain ⟨q, hq⟩ : ∃ q, q = 262144 / (C : Int) := ⟨_, rfl⟩
  have hq' : 262144 / (C : Int) = q := hq.symm
  rw [← hq] at h3
  clear hq
  have hC : C ≤ 262144 := by have := Nat.mul_le_mul_right C h1; omega
  have hR : R ≤ 262144 := by have := Nat.mul_le_mul_left R h2; omega
  have e1 : (R : Int) * (C : Int) = ((R * C : Nat) : Int) := by simp
  obtain ⟨p, hp⟩ : ∃ p, p = R * C := ⟨_, rfl⟩
  rw [← hp] at e1 h
  have HP := Lib.hid hp
  clear hp
  obtain ⟨len, hlen⟩ : ∃ len, len = (p + 63) / 64 := ⟨_, rfl⟩
  have e2 : ((p : Int) + 64 - 1) / 64 = (len : Int) := by omega
  have hl : len ≤ 4096 := by omega
  have HL := Lib.hid hlen
  clear hlen
  have hm1 : ∀ w : World, (Instr.makeSlice 48 (.int .i64 (len : Int)) (.int .i64 (len : Int))).run Try.prog w = _ := run_make_row' (P := Try.prog) 48 51 (.int .u64 0) 8 Try.underlying48 Try.info51 rfl .i64 .i64 len (by omega) (by omega)
  go_enter Try.func8, Try.ntmps8
  go_wp2
  go_ret2
  have hR' := heap2 w (.cells (madeCells #[.int .u64 0] len) 51) (.cells #[.int .i64 (R : Nat), .int .i64 (C : Nat), .slice (some ⟨w.heap.size, 0, none⟩) len len] 50)
  have hl2 := HL.out
  rw [HP.out] at hl2
  refine ⟨w.heap.size + 1, w.heap.size, rfl, isM_new _ R C h1 h2 (HP.out ▸ h) ?_ ?_ (by omega), by omega, by omega, ((Kp.refl _ _).alloc _).alloc _⟩
  · rw [← hl2]; exact hR'.1
  · rw [← hl2]; exact hR'.2

theorem zero_cells (n : Nat) : (Builtin.zeroCells #[Value.int .u64 0] n).toList = List.replicate n (Value.int .u64 0) := by
  simp [Builtin.zeroCells, List.eq_replicate_iff]
  intro b x
  have : b % 1 = 0 := Nat.mod_one b
  simp [this]

theorem run_clear (w : World) (wb len : Nat) (cs : Array Value) (hwb : w.heap[wb]? = some (.cells cs 51 (0, 0))) (hcs : cs.size = len) (hl : 0 < len) :
    (Builtin.clear_ #[48] 0 #[.slice (some ⟨wb, 0, none⟩) len len]).run Try.prog w = .ok (.tuple #[]) (w.setRow wb (List.replicate len (Value.int .u64 0)).toArray) := by
  obtain ⟨n, rfl⟩ : ∃ n, len = n + 1 := ⟨len - 1, by omega⟩
  have hst := run_storeCells_at (P := Try.prog) wb 0 51 (List.replicate (n + 1) (Value.int .u64 0)) 0 cs w hwb (by simp; omega) (by intro v hv; rw [List.eq_of_mem_replicate hv]; rfl)
  rw [show cs.toList.drop (0 + 0 + (List.replicate (n + 1) (Value.int .u64 0)).length) = [] from by simp; omega] at hst
  simp only [Nat.add_zero, List.take_zero, List.nil_append, List.append_nil] at hst
  simp [Builtin.clear_, run_underlying Try.underlying48, Try.zeroValue51, zero_cells, hst, Value.cells]
theorem clear_done {w : World} {m wb R C : Nat} {L : List Nat} (h : IsM w m wb R C L) {cs : Array Value} (hwb : w.heap[wb]? = some (.cells cs 51 (0, 0))) :
    IsM (w.setRow wb (List.replicate ((R * C + 63) / 64) (Value.int .u64 0)).toArray) m wb R C [] ∧ Kp [wb] w (w.setRow wb (List.replicate ((R * C + 63) / 64) (Value.int .u64 0)).toArray) := by
  refine ⟨⟨?_, ⟨_, fun _ => 0, setRow_heap w wb cs _ 51 _ hwb, by simp, fun i hi => ⟨by simp [hi], by simp, by simp⟩, sumPop_zero _⟩, by simp, by simp, h.d, h.r, h.c, h.small⟩, ⟨rfl, rfl, rfl, by simp, fun k _ hk => setRow_other w wb k _ (by simpa using hk)⟩⟩
  rw [setRow_other w wb m _ h.d]; exact h.hm

theorem clear_any (w : World) (m wb R C L) (h : IsM w m wb R C L) :
    Calls Try.prog 14 #[.pointer (some ⟨m, 0, none⟩)] w fun e w' => e = .returned (.tuple #[]) ∧ IsM w' m wb R C [] ∧ Kp [wb] w w' := by
  have c2 := cellB h.hm 2
  simp at c2
  obtain ⟨cs, W, hwb, hcs, hW, hsum⟩ := h.hw
  have hpos : 1 ≤ R * C := Nat.mul_pos h.r h.c
  have hrun := run_clear w wb ((R * C + 63) / 64) cs hwb hcs (by omega)
  have HF := Lib.hid (clear_done h hwb)
  obtain ⟨len, hlen⟩ : ∃ len, len = (R * C + 63) / 64 := ⟨_, rfl⟩
  rw [← hlen] at c2 hrun HF
  clear hwb hcs hW hsum h hpos hlen
  go_enter Try.func14, Try.ntmps14
  go_wp2
  go_end0
  exact ⟨rfl, HF.out⟩

theorem count_any (w : World) (m wb R C L) (h : IsM w m wb R C L) :
    Calls Try.prog 12 #[.pointer (some ⟨m, 0, none⟩)] w fun e w' => e = .returned (.int .i64 L.length) ∧ w = w' := by
  have c2 := cellB h.hm 2
  simp at c2
  obtain ⟨cs, W, hwb, hcs, hW, hsum⟩ := h.hw
  have hs := h.small
  obtain ⟨len, hlen⟩ : ∃ len, len = (R * C + 63) / 64 := ⟨_, rfl⟩
  rw [← hlen] at c2 hW hsum
  have hl : len ≤ 4096 := by omega
  have HW := Lib.hid hW
  have HS := Lib.hid hsum
  have HB := Lib.hid hwb
  clear hW hsum hcs hlen h hwb hs
  go_enter Try.func12, Try.ntmps12
  go_wp2_with fail
  go_loop [3, 10] (fun s i => ∃ k : Nat, k ≤ len ∧ i = .int .i64 k ∧ s = .int .i64 (sumPop W k : Nat) ∧ Hid (sumPop W k ≤ 64 * k)) (fun _ i => len - (intOf i).toNat)
  case atStart => exact ⟨0, by omega, rfl, rfl, Nat.le_refl _⟩
  case round =>
    obtain ⟨k, hk, rfl, rfl, HK⟩ := hrel
    by_cases hkl : k < len
    · obtain ⟨hc1, hx, _⟩ := HW.out k hkl
      have c3 := cellB HB.out k
      rw [hc1] at c3
      obtain ⟨x, hxx⟩ : ∃ x, x = W k := ⟨_, rfl⟩
      rw [← hxx] at c3 hx
      have H1 := Lib.hid (ones_any x hx w)
      have hp : pop x ≤ 64 := popN_le x 64
      have hK := HK.out
      have hn : sumPop W (k + 1) = sumPop W k + pop x := by rw [hxx]; rfl
      obtain ⟨y, hy⟩ : ∃ y, y = sumPop W k := ⟨_, rfl⟩
      rw [← hy] at hK hn ⊢
      have HN := Lib.hid hn
      clear hxx hx hc1 hn hy
      go_wp2_with fail
      refine H1.out.mono ?_
      rintro e w1 ⟨rfl, rfl⟩
      go_wp2_with fail
      go_round
      case rel => exact ⟨k + 1, by omega, by go_num, by rw [HN.out]; go_num, by show _ ≤ _; rw [HN.out]; omega⟩
      case measure => simp [intOf]; omega
    · obtain rfl : k = len := by omega
      go_wp2_with fail
      go_ret
      exact ⟨by rw [← HS.out]; rfl, rfl⟩

/-- Is c the first marked column of a row (as far as k)? -/
def noneB (L : List Nat) (C row k : Nat) : Prop := ∀ c, c < k → row * C + c ∉ L

theorem first_yes (w : World) (m wb R C L) (h : IsM w m wb R C L) (row c : Nat) (hr : row < R) (hc : c < C) (hm : row * C + c ∈ L) (hn : noneB L C row c) :
    Calls Try.prog 17 #[.pointer (some ⟨m, 0, none⟩), .int .i64 row] w fun e w' => e = .returned (.int .i64 c) ∧ w = w' := by
  have c1 := cellB h.hm 1
  simp at c1
  have hs := h.small
  have hC : C ≤ 262144 := by have := Nat.mul_le_mul_right C h.r; omega
  go_enter Try.func17, Try.ntmps17
  go_wp2_with fail
  go_loop [10] (fun i => ∃ k : Nat, k ≤ c ∧ i = .int .i64 k) (fun i => C - (intOf i).toNat)
  case atStart => exact ⟨0, by omega, rfl⟩
  case round =>
    obtain ⟨k, hk, rfl⟩ := hrel
    have H := has_in w m wb R C L h row k hr (by omega)
    by_cases hkc : k < c
    · rw [show decide (row * C + k ∈ L) = false from by simpa using hn k hkc] at H
      go_wp2_with fail
      refine H.mono ?_
      rintro e w1 ⟨rfl, rfl⟩
      go_wp2_with fail
      go_round
      case rel => exact ⟨k + 1, by omega, by go_num⟩
      case measure => simp [intOf]; omega
    · obtain rfl : k = c := by omega
      rw [show decide (row * C + k ∈ L) = true from by simpa using hm] at H
      go_wp2_with fail
      refine H.mono ?_
      rintro e w1 ⟨rfl, rfl⟩
      go_wp2_with fail
      go_ret
      exact ⟨rfl, rfl⟩

theorem first_no (w : World) (m wb R C L) (h : IsM w m wb R C L) (row : Int) (hn : 0 ≤ row → row < R → noneB L C row.toNat C) :
    Calls Try.prog 17 #[.pointer (some ⟨m, 0, none⟩), .int .i64 row] w fun e w' => e = .returned (.int .i64 (-1)) ∧ w = w' := by
  have c1 := cellB h.hm 1
  simp at c1
  have hs := h.small
  have hC : C ≤ 262144 := by have := Nat.mul_le_mul_right C h.r; omega
  have H : ∀ k : Nat, k < C → Calls Try.prog 11 #[.pointer (some ⟨m, 0, none⟩), .int .i64 row, .int .i64 k] w fun e w' => e = .returned (.bool false) ∧ w = w' := by
    intro k hk
    by_cases hh : 0 ≤ row ∧ row < R
    · obtain ⟨r, rfl⟩ : ∃ r : Nat, row = r := ⟨row.toNat, by omega⟩
      have := has_in w m wb R C L h r k (by omega) hk
      rw [show decide (r * C + k ∈ L) = false from by simpa using hn (by omega) (by omega) k hk] at this
      exact this
    · exact has_no w m wb R C L h row k (by omega)
  have HH := Lib.hid H
  clear H hn
  go_enter Try.func17, Try.ntmps17
  go_wp2_with fail
  go_loop [10] (fun i => ∃ k : Nat, k ≤ C ∧ i = .int .i64 k) (fun i => C - (intOf i).toNat)
  case atStart => exact ⟨0, by omega, rfl⟩
  case round =>
    obtain ⟨k, hk, rfl⟩ := hrel
    by_cases hkc : k < C
    · go_wp2_with fail
      refine (HH.out k hkc).mono ?_
      rintro e w1 ⟨rfl, rfl⟩
      go_wp2_with fail
      go_round
      case rel => exact ⟨k + 1, by omega, by go_num⟩
      case measure => simp [intOf]; omega
    · go_wp2_with fail
      go_ret
      exact ⟨rfl, rfl⟩
end Go.Proofs.Ytmoobdljmcephaa
