/- Package mem: numbers of bytes, plain: what 'number' and the document's 'Number' compute. -/
import Derived.Test.YtndpmjgalmnhdaaC
import Derived.Test.YtndpmjgalmnhdaaPMemPlaysx3
import Derived.Test.YtndpmjgalmnhdaaPMemPlaysx9
import Derived.Laws.BitsAllLaws
namespace Go.Proofs.Ytndpmjgalmnhdaa
open Go.RowKit PMemPlays Go.Proofs.YtndpmjgalmnhdaaW.PrintWords Go.Proofs.YtndpmjgalmnhdaaW.PrintLast Go.Proofs.YtndpmjgalmnhdaaW.PrintMore
set_option linter.unusedVariables false
set_option linter.unusedSimpArgs false

def numB : List Int → Int
  | [] => 0
  | b :: l => b + 256 * numB l
def IsB (l : List Int) : Prop := ∀ x ∈ l, 0 ≤ x ∧ x < 256
theorem numB_bounds : ∀ (l : List Int), IsB l → 0 ≤ numB l ∧ numB l < 256 ^ l.length
  | [], _ => by simp [numB]
  | b :: l, h => by
    have h1 := h b (by simp)
    have h2 := numB_bounds l (fun x hx => h x (by simp [hx]))
    simp only [numB, List.length_cons, Int.pow_succ]
    omega
theorem or256 (x b : Int) (hx : 0 ≤ x) (hx1 : x < 72057594037927936) (hb : 0 ≤ b) (hb1 : b < 256) : Go.bits .or .u64 (IntKind.u64.wrap (x * 256)) (IntKind.u64.wrap b) = b + 256 * x := by
  obtain ⟨x, rfl⟩ := Int.eq_ofNat_of_zero_le hx
  obtain ⟨b, rfl⟩ := Int.eq_ofNat_of_zero_le hb
  have e1 : IntKind.u64.wrap ((x : Int) * 256) = ((2 ^ 8 * x : Nat) : Int) := by rw [IntKind.wrap_u64]; omega
  have e2 : IntKind.u64.wrap (b : Int) = (b : Int) := by rw [IntKind.wrap_u64]; omega
  rw [e1, e2, u64_or_nat _ _ (by omega) (by omega), ← Nat.two_pow_add_eq_or_of_lt (by omega : b < 2 ^ 8)]
  omega
theorem pow8 (n : Nat) (h : n ≤ 7) : (256 : Int) ^ n ≤ 72057594037927936 := by
  match n, h with
  | 0, _ | 1, _ | 2, _ | 3, _ | 4, _ | 5, _ | 6, _ | 7, _ => decide
  | n + 8, h => omega
theorem number_l (l : List Int) (hl : l.length ≤ 8) (hb : IsB l) : ∀ (j k : Nat), j ≤ l.length → j + 1 ≤ k → mem_number.l0 k l (numB (l.drop j)) ((j : Int) - 1) = some (numB l) := by
  intro j
  induction j with
  | zero =>
    intro k _ hk
    obtain ⟨k, rfl⟩ : ∃ m, k = m + 1 := ⟨k - 1, by omega⟩
    simp [mem_number.l0]
  | succ j ih =>
    intro k hj hk
    obtain ⟨k, rfl⟩ : ∃ m, k = m + 1 := ⟨k - 1, by omega⟩
    have hjl : j < l.length := by omega
    have hd : numB (l.drop j) = l[j] + 256 * numB (l.drop (j + 1)) := by rw [List.drop_eq_getElem_cons hjl]; rfl
    have hB : IsB (l.drop (j + 1)) := fun x hx => hb x (List.mem_of_mem_drop hx)
    have hn := numB_bounds _ hB
    have hp := pow8 (l.drop (j + 1)).length (by rw [List.length_drop]; omega)
    have hr : rd l (((j + 1 : Nat) : Int) - 1) = l[j] := by
      unfold rd
      rw [show (((j + 1 : Nat) : Int) - 1).toNat = j by omega]
      simp [List.getD, hjl]
    have hbj := hb l[j] (List.getElem_mem _)
    unfold mem_number.l0
    rw [if_pos (by omega), if_pos (by omega), if_pos (by omega), hr, or256 _ _ hn.1 (by omega) hbj.1 hbj.2, ← hd]
    rw [show wrap64 (((j + 1 : Nat) : Int) - 1 - 1) = (j : Int) - 1 from by unfold wrap64; omega]
    exact ih k (by omega) (by omega)
theorem number_f (l : List Int) (hl : l.length ≤ 8) (hb : IsB l) : mem_number.f 10 l = some (numB l) := by
  have h := number_l l hl hb l.length 10 (Nat.le_refl _) (by omega)
  unfold mem_number.f
  rw [show wrap64 ((l.length : Int) - 1) = (l.length : Int) - 1 from by unfold wrap64; omega]
  rwa [List.drop_length] at h

/-- Bytes, from a place on, so many. -/
def cutB (l : List Int) (a n : Nat) : List Int := (l.drop a).take n
theorem cutB_snoc (l : List Int) (a n : Nat) (h : a + n < l.length) : cutB l a (n + 1) = cutB l a n ++ [l[a + n]] := by
  unfold cutB
  rw [List.take_succ_eq_append_getElem (by rw [List.length_drop]; omega)]
  simp
theorem numB_snoc : ∀ (l : List Int) (b : Int), numB (l ++ [b]) = numB l + 256 ^ l.length * b
  | [], b => by simp [numB]
  | c :: l, b => by
    simp only [List.cons_append, numB, numB_snoc l b, List.length_cons, Int.pow_succ]
    rw [Int.mul_add, ← Int.mul_assoc, Int.mul_comm 256 (256 ^ l.length), Int.add_assoc]
end Go.Proofs.Ytndpmjgalmnhdaa
