/- Package tree: the printed functions, plainly: depth, the document's depth and nullable, the weight. -/
import Derived.Test.YtojlhlepneefoaaPAllx3
import Derived.Test.YtojlhlepneefoaaPAllx7
import Derived.Test.YtojlhlepneefoaaPAllx8
import Derived.Test.YtojlhlepneefoaaPAllx17
import Derived.Test.YtojlhlepneefoaaF
import Derived.Test.YtojlhlepneefoaaG
namespace Go.Proofs.Ytojlhlepneefoaa
open Go.RowKit PAll Go.Proofs.YtojlhlepneefoaaW.PrintWords Go.Proofs.YtojlhlepneefoaaW.PrintLast Go.Proofs.YtojlhlepneefoaaW.PrintMore
open Go.Shelf
set_option linter.unusedVariables false
set_option linter.unusedSimpArgs false

theorem w64 {n : Int} (h : -9223372036854775808 ≤ n) (h2 : n ≤ 9223372036854775807) : wrap64 n = n := by unfold wrap64; omega
theorem rd_at (l : List S25) (i : Nat) (h : i < l.length) : rd_T25 l (i : Int) = l[i] := by simp [rd_T25, List.getD, List.getElem?_eq_getElem h]
/-- A tree no higher than d, each node with at most 200 parts. -/
def Thin : Nat → S25 → Prop
  | 0, _ => False
  | d + 1, n => n.f7.length ≤ 200 ∧ (∀ x ∈ n.f7, Thin d x) ∧ n.f1.length ≤ 200 ∧ n.f3.size ≤ 100
theorem Thin.mono {d e : Nat} (h : d ≤ e) : ∀ {n : S25}, Thin d n → Thin e n := by
  induction d generalizing e with
  | zero => intro n hn; exact hn.elim
  | succ d ih =>
    intro n hn
    obtain ⟨e', rfl⟩ : ∃ e', e = e' + 1 := ⟨e - 1, by omega⟩
    exact ⟨hn.1, fun x hx => ih (by omega) (hn.2.1 x hx), hn.2.2⟩
def depthP : Nat → S25 → Int
  | 0, _ => 0
  | m + 1, n => if m = 0 then 1 else (n.f7.map (depthP m)).foldl mx 0 + 1
theorem mx_le {a b c : Int} (h : a ≤ c) (k : b ≤ c) : mx a b ≤ c := by unfold mx; split <;> omega
theorem le_mx (a b : Int) : a ≤ mx a b ∧ b ≤ mx a b := by unfold mx; split <;> omega
theorem foldmx_le {c : Int} : ∀ (l : List Int) (a : Int), a ≤ c → (∀ x ∈ l, x ≤ c) → l.foldl mx a ≤ c
  | [], a, h, _ => h
  | x :: l, a, h, k => foldmx_le l _ (mx_le h (k x (by simp))) (fun y hy => k y (by simp [hy]))
theorem le_foldmx : ∀ (l : List Int) (a : Int), a ≤ l.foldl mx a
  | [], a => Int.le_refl _
  | x :: l, a => Int.le_trans (le_mx a x).1 (le_foldmx l _)
theorem depthP_le : ∀ (m : Nat) (n : S25), 0 ≤ depthP m n ∧ depthP m n ≤ m
  | 0, n => by simp [depthP]
  | m + 1, n => by
    unfold depthP
    split
    · omega
    · have h1 : (n.f7.map (depthP m)).foldl mx 0 ≤ m := foldmx_le _ _ (by omega) (fun x hx => by
        obtain ⟨y, _, rfl⟩ := List.mem_map.1 hx
        exact (depthP_le m y).2)
      have h2 := le_foldmx (n.f7.map (depthP m)) 0
      omega
theorem depth_l (m : Nat) (hm : m < 1000000) (hm1 : 1 ≤ m) (l : List S25) (hl : l.length ≤ 200) (K : Nat) (hK : ∀ x ∈ l, ∀ k, K ≤ k → tree_depth.f k x.f0 x.f1 x.f2 x.f3 x.f4 x.f5 x.f6 x.f7 (m : Int) = some (depthP m x)) :
    ∀ (r i : Nat) (acc : Int), l.length - i ≤ r → i ≤ l.length → 0 ≤ acc → acc ≤ m → ∀ k, K + r + 1 ≤ k → tree_depth.l0 k ((m + 1 : Nat) : Int) acc l (l.length : Int) (i : Int) = some (((l.drop i).map (depthP m)).foldl mx acc + 1) := by
  intro r
  induction r with
  | zero =>
    intro i acc h1 h2 h3 h4 k hk
    obtain rfl : i = l.length := by omega
    obtain ⟨k, rfl⟩ : ∃ k', k = k' + 1 := ⟨k - 1, by omega⟩
    unfold tree_depth.l0
    rw [if_neg (by omega), List.drop_length, w64 (by omega) (by omega)]
    rfl
  | succ r ih =>
    intro i acc h1 h2 h3 h4 k hk
    obtain ⟨k, rfl⟩ : ∃ k', k = k' + 1 := ⟨k - 1, by omega⟩
    by_cases hi : i < l.length
    · unfold tree_depth.l0
      rw [if_pos (by omega), if_pos (by omega), if_pos (by omega), rd_at l i hi, w64 (n := ((m + 1 : Nat) : Int) - 1) (by omega) (by omega), show ((m + 1 : Nat) : Int) - 1 = (m : Int) by omega, hK _ (List.getElem_mem hi) k (by omega)]
      have hd := depthP_le m l[i]
      have hx := le_mx acc (depthP m l[i])
      rw [w64 (n := (i : Int) + 1) (by omega) (by omega), show (i : Int) + 1 = ((i + 1 : Nat) : Int) by omega]
      refine (ih (i + 1) (mx acc (depthP m l[i])) (by omega) (by omega) (by omega) (mx_le h4 hd.2) k (by omega)).trans ?_
      rw [List.drop_eq_getElem_cons hi]
      rfl
    · obtain rfl : i = l.length := by omega
      unfold tree_depth.l0
      rw [if_neg (by omega), List.drop_length, w64 (by omega) (by omega)]
      rfl
theorem kmax (l : List S25) (P : S25 → Nat → Prop) (h : ∀ x ∈ l, ∃ K, ∀ k, K ≤ k → P x k) : ∃ K, ∀ x ∈ l, ∀ k, K ≤ k → P x k := by
  induction l with
  | nil => exact ⟨0, fun x hx => by cases hx⟩
  | cons a l ih =>
    obtain ⟨K1, h1⟩ := h a (by simp)
    obtain ⟨K2, h2⟩ := ih (fun x hx => h x (by simp [hx]))
    refine ⟨K1 + K2, fun x hx k hk => ?_⟩
    rcases List.mem_cons.1 hx with rfl | hx
    · exact h1 k (by omega)
    · exact h2 x hx k (by omega)
theorem depth_f : ∀ (d : Nat) (n : S25), Thin d n → ∀ (m : Nat), m < 1000000 → ∃ K, ∀ k, K ≤ k → tree_depth.f k n.f0 n.f1 n.f2 n.f3 n.f4 n.f5 n.f6 n.f7 (m : Int) = some (depthP m n) := by
  intro d
  induction d with
  | zero => intro n h; exact h.elim
  | succ d ih =>
    intro n h m hm
    rcases m with _ | _ | m
    · exact ⟨1, fun k hk => by obtain ⟨k, rfl⟩ : ∃ k', k = k' + 1 := ⟨k - 1, by omega⟩; simp [tree_depth.f, depthP]⟩
    · exact ⟨1, fun k hk => by obtain ⟨k, rfl⟩ : ∃ k', k = k' + 1 := ⟨k - 1, by omega⟩; simp [tree_depth.f, depthP]⟩
    · obtain ⟨K, hK⟩ := kmax n.f7 _ (fun x hx => ih x (h.2.1 x hx) (m + 1) (by omega))
      refine ⟨K + n.f7.length + 2, fun k hk => ?_⟩
      obtain ⟨k, rfl⟩ : ∃ k', k = k' + 1 := ⟨k - 1, by omega⟩
      unfold tree_depth.f
      rw [if_neg (by omega)]
      have := depth_l (m + 1) (by omega) (by omega) n.f7 h.1 K hK n.f7.length 0 0 (by omega) (by omega) (by omega) (by omega) k (by omega)
      refine this.trans ?_
      simp [depthP]
theorem Depth_f {d : Nat} {n : S25} (h : Thin d n) : ∃ K, ∀ k, K ≤ k → tree_Depth.f k n.f0 n.f1 n.f2 n.f3 n.f4 n.f5 n.f6 n.f7 = some (depthP 1001 n) := by
  obtain ⟨K, hK⟩ := depth_f d n h 1001 (by omega)
  refine ⟨K, fun k hk => ?_⟩
  unfold tree_Depth.f
  rw [show (1001 : Int) = ((1001 : Nat) : Int) from rfl, hK k hk]
  rfl
theorem rdepth_l (m : Nat) (hm : m < 1000000) (hm1 : 1 ≤ m) (a0 : Int) (a1 : List S103) (a2 : Int) (a3 : ByteArray) (a4 a5 : Int) (a6 : Bool) (l : List S25) (hl : l.length ≤ 200) (K : Nat) (hK : ∀ x ∈ l, ∀ k, K ≤ k → burinref06_Depth.f k x.f0 x.f1 x.f2 x.f3 x.f4 x.f5 x.f6 x.f7 (m : Int) = some (depthP m x)) :
    ∀ (r i : Nat) (acc : Int), l.length - i ≤ r → i ≤ l.length → 0 ≤ acc → acc ≤ m → ∀ k, K + r + 1 ≤ k → burinref06_Depth.l0 k ((m + 1 : Nat) : Int) acc (i : Int) a0 a1 a2 a3 a4 a5 a6 l = some (((l.drop i).map (depthP m)).foldl mx acc + 1) := by
  intro r
  induction r with
  | zero =>
    intro i acc h1 h2 h3 h4 k hk
    obtain rfl : i = l.length := by omega
    obtain ⟨k, rfl⟩ : ∃ k', k = k' + 1 := ⟨k - 1, by omega⟩
    unfold burinref06_Depth.l0
    rw [if_neg (by omega), List.drop_length, w64 (by omega) (by omega)]
    rfl
  | succ r ih =>
    intro i acc h1 h2 h3 h4 k hk
    obtain ⟨k, rfl⟩ : ∃ k', k = k' + 1 := ⟨k - 1, by omega⟩
    by_cases hi : i < l.length
    · unfold burinref06_Depth.l0
      rw [if_pos (by omega), if_pos (by omega), rd_at l i hi, w64 (n := ((m + 1 : Nat) : Int) - 1) (by omega) (by omega), show ((m + 1 : Nat) : Int) - 1 = (m : Int) by omega, hK _ (List.getElem_mem hi) k (by omega)]
      have hd := depthP_le m l[i]
      rw [w64 (n := (i : Int) + 1) (by omega) (by omega), show (i : Int) + 1 = ((i + 1 : Nat) : Int) by omega]
      show (if depthP m l[i] > acc then _ else _) = _
      have hx := le_mx acc (depthP m l[i])
      have e : (if depthP m l[i] > acc then burinref06_Depth.l0 k ((m + 1 : Nat) : Int) (depthP m l[i]) ((i + 1 : Nat) : Int) a0 a1 a2 a3 a4 a5 a6 l else burinref06_Depth.l0 k ((m + 1 : Nat) : Int) acc ((i + 1 : Nat) : Int) a0 a1 a2 a3 a4 a5 a6 l) = burinref06_Depth.l0 k ((m + 1 : Nat) : Int) (mx acc (depthP m l[i])) ((i + 1 : Nat) : Int) a0 a1 a2 a3 a4 a5 a6 l := by
        unfold mx; split <;> rfl
      refine e.trans ((ih (i + 1) (mx acc (depthP m l[i])) (by omega) (by omega) (by omega) (mx_le h4 hd.2) k (by omega)).trans ?_)
      rw [List.drop_eq_getElem_cons hi]
      rfl
    · obtain rfl : i = l.length := by omega
      unfold burinref06_Depth.l0
      rw [if_neg (by omega), List.drop_length, w64 (by omega) (by omega)]
      rfl
theorem rdepth_f : ∀ (d : Nat) (n : S25), Thin d n → ∀ (m : Nat), m < 1000000 → ∃ K, ∀ k, K ≤ k → burinref06_Depth.f k n.f0 n.f1 n.f2 n.f3 n.f4 n.f5 n.f6 n.f7 (m : Int) = some (depthP m n) := by
  intro d
  induction d with
  | zero => intro n h; exact h.elim
  | succ d ih =>
    intro n h m hm
    rcases m with _ | _ | m
    · exact ⟨1, fun k hk => by obtain ⟨k, rfl⟩ : ∃ k', k = k' + 1 := ⟨k - 1, by omega⟩; simp [burinref06_Depth.f, depthP]⟩
    · exact ⟨1, fun k hk => by obtain ⟨k, rfl⟩ : ∃ k', k = k' + 1 := ⟨k - 1, by omega⟩; simp [burinref06_Depth.f, depthP]⟩
    · obtain ⟨K, hK⟩ := kmax n.f7 _ (fun x hx => ih x (h.2.1 x hx) (m + 1) (by omega))
      refine ⟨K + n.f7.length + 2, fun k hk => ?_⟩
      obtain ⟨k, rfl⟩ : ∃ k', k = k' + 1 := ⟨k - 1, by omega⟩
      unfold burinref06_Depth.f
      rw [if_neg (by omega)]
      have := rdepth_l (m + 1) (by omega) (by omega) n.f0 n.f1 n.f2 n.f3 n.f4 n.f5 n.f6 n.f7 h.1 K hK n.f7.length 0 0 (by omega) (by omega) (by omega) (by omega) k (by omega)
      refine this.trans ?_
      simp [depthP]
theorem rnull_l (m : Nat) (hm : m < 1000000) (n : S25) (hl : n.f7.length ≤ 200) (K : Nat) (hK : ∀ x ∈ n.f7, ∀ k, K ≤ k → burinref06_Nullable.f k x.f0 x.f1 x.f2 x.f3 x.f4 x.f5 x.f6 x.f7 (m : Int) = some (nullP m x)) :
    ∀ (r i : Nat) (a o : Bool), n.f7.length - i ≤ r → i ≤ n.f7.length → a = (n.f7.take i).all (nullP m) → o = (n.f7.take i).any (nullP m) → ∀ k, K + r + 4 ≤ k → burinref06_Nullable.l0 k ((m + 1 : Nat) : Int) a o (i : Int) n.f0 n.f1 n.f2 n.f3 n.f4 n.f5 n.f6 n.f7 = some (nullP (m + 1) n) := by
  intro r
  have fin : ∀ (i : Nat) (a o : Bool), i = n.f7.length → a = (n.f7.take i).all (nullP m) → o = (n.f7.take i).any (nullP m) → ∀ k, K + 4 ≤ k → burinref06_Nullable.l0 k ((m + 1 : Nat) : Int) a o (i : Int) n.f0 n.f1 n.f2 n.f3 n.f4 n.f5 n.f6 n.f7 = some (nullP (m + 1) n) := by
    intro i a o hi ha ho k hk
    subst hi
    rw [List.take_length] at ha ho
    obtain ⟨k, rfl⟩ : ∃ k', k = k' + 3 := ⟨k - 3, by omega⟩
    unfold burinref06_Nullable.l0
    rw [if_neg (by omega)]
    unfold nullP
    rw [← ha, ← ho]
    by_cases e1 : n.f0 = 1
    · simp [e1, burinref06_Nullable.j1]
    by_cases e5 : n.f0 = 5
    · simp [e5, burinref06_Nullable.j1]
    by_cases e6 : n.f0 = 6
    · simp [e6, burinref06_Nullable.j1, burinref06_Nullable.j2]
    by_cases e7 : n.f0 = 7
    · simp [e7, burinref06_Nullable.j1, burinref06_Nullable.j2]
    by_cases e8 : n.f0 = 8
    · simp [e8, burinref06_Nullable.j1, burinref06_Nullable.j2]
    by_cases e9 : n.f0 = 9
    · by_cases e4 : n.f4 = 0 <;> simp [e9, e4, burinref06_Nullable.j1, burinref06_Nullable.j2]
    simp [e1, e5, e6, e7, e8, e9, burinref06_Nullable.j1, burinref06_Nullable.j2]
  induction r with
  | zero =>
    intro i a o h1 h2 ha ho k hk
    exact fin i a o (by omega) ha ho k (by omega)
  | succ r ih =>
    intro i a o h1 h2 ha ho k hk
    by_cases hi : i < n.f7.length
    · obtain ⟨k, rfl⟩ : ∃ k', k = k' + 1 := ⟨k - 1, by omega⟩
      unfold burinref06_Nullable.l0
      rw [if_pos (by omega), if_pos (by omega), rd_at n.f7 i hi, w64 (n := ((m + 1 : Nat) : Int) - 1) (by omega) (by omega), show ((m + 1 : Nat) : Int) - 1 = (m : Int) by omega, hK _ (List.getElem_mem hi) k (by omega)]
      rw [w64 (n := (i : Int) + 1) (by omega) (by omega), show (i : Int) + 1 = ((i + 1 : Nat) : Int) by omega]
      have IH := fun a o ha ho => ih (i + 1) a o (by omega) (by omega) ha ho k (by omega)
      rw [List.take_succ_eq_append_getElem hi, List.all_append, List.any_append, ← ha, ← ho] at IH
      simp only [List.all_cons, List.all_nil, List.any_cons, List.any_nil, Bool.and_true, Bool.or_false] at IH
      simp only [Option.bind_some]
      cases a <;> cases o <;> simp only [Bool.false_and, Bool.true_and, Bool.false_or, Bool.true_or, if_true, if_false, Bool.false_eq_true, reduceIte] at IH ⊢ <;> exact IH _ _ rfl rfl
    · exact fin i a o (by omega) ha ho k (by omega)
theorem rnull_f : ∀ (d : Nat) (n : S25), Thin d n → ∀ (m : Nat), m < 1000000 → ∃ K, ∀ k, K ≤ k → burinref06_Nullable.f k n.f0 n.f1 n.f2 n.f3 n.f4 n.f5 n.f6 n.f7 (m : Int) = some (nullP m n) := by
  intro d
  induction d with
  | zero => intro n h; exact h.elim
  | succ d ih =>
    intro n h m hm
    rcases m with _ | m
    · exact ⟨1, fun k hk => by obtain ⟨k, rfl⟩ : ∃ k', k = k' + 1 := ⟨k - 1, by omega⟩; simp [burinref06_Nullable.f, nullP]⟩
    · obtain ⟨K, hK⟩ := kmax n.f7 _ (fun x hx => ih x (h.2.1 x hx) m (by omega))
      refine ⟨K + n.f7.length + 6, fun k hk => ?_⟩
      obtain ⟨k, rfl⟩ : ∃ k', k = k' + 1 := ⟨k - 1, by omega⟩
      unfold burinref06_Nullable.f
      rw [if_neg (by omega)]
      exact rnull_l m (by omega) n h.1 K hK n.f7.length 0 true false (by omega) (by omega) rfl rfl k (by omega)

def weighP : Nat → S25 → Int → Int
  | 0, _, _ => -1
  | d + 1, n, left => if left - 1 < 0 ∨ 200 < n.f1.length ∨ 100 < n.f3.size ∨ 200 < n.f7.length then -1 else mx (n.f7.foldl (fun a x => if 0 ≤ a then weighP d x a else a) (left - 1 - n.f1.length)) (-1)
theorem fold_neg (f : Int → S25 → Int) : ∀ (l : List S25) (a : Int), a < 0 → l.foldl (fun a x => if 0 ≤ a then f a x else a) a = a
  | [], a, _ => rfl
  | x :: l, a, h => by rw [List.foldl_cons, if_neg (by omega)]; exact fold_neg f l a h
theorem weighP_le : ∀ (d : Nat) (n : S25) (left : Int), 0 ≤ left → -1 ≤ weighP d n left ∧ weighP d n left ≤ left
  | 0, n, left, h => by simp [weighP]; omega
  | d + 1, n, left, h => by
    unfold weighP
    split
    · omega
    · have : ∀ (l : List S25) (a : Int), a ≤ left → l.foldl (fun a x => if 0 ≤ a then weighP d x a else a) a ≤ left := by
        intro l
        induction l with
        | nil => intro a ha; exact ha
        | cons x l ih =>
          intro a ha
          rw [List.foldl_cons]
          refine ih _ ?_
          split
          · have := (weighP_le d x a (by omega)).2; omega
          · exact ha
      have h1 := this n.f7 (left - 1 - n.f1.length) (by omega)
      exact ⟨(le_mx _ _).2, mx_le h1 (by omega)⟩
theorem weigh_l (d : Nat) (hd : d < 1000) (a0 : Int) (a1 : List S103) (a2 : Int) (a3 : ByteArray) (a4 a5 : Int) (a6 : Bool) (l : List S25) (hl : l.length ≤ 200) (K : Nat) (hK : ∀ x ∈ l, ∀ k, K ≤ k → ∀ a : Int, 0 ≤ a → a ≤ 1000 → burinbook_Weigh.f k x.f0 x.f1 x.f2 x.f3 x.f4 x.f5 x.f6 x.f7 a (d : Int) = some (weighP d x a)) :
    ∀ (r i : Nat) (acc : Int), l.length - i ≤ r → i ≤ l.length → acc ≤ 1000 → ∀ k, K + r + 1 ≤ k → burinbook_Weigh.l0 k acc ((d + 1 : Nat) : Int) (i : Int) a0 a1 a2 a3 a4 a5 a6 l = some (mx ((l.drop i).foldl (fun a x => if 0 ≤ a then weighP d x a else a) acc) (-1)) := by
  intro r
  induction r with
  | zero =>
    intro i acc h1 h2 h4 k hk
    obtain rfl : i = l.length := by omega
    obtain ⟨k, rfl⟩ : ∃ k', k = k' + 1 := ⟨k - 1, by omega⟩
    unfold burinbook_Weigh.l0
    rw [if_neg (by omega), List.drop_length]
    rfl
  | succ r ih =>
    intro i acc h1 h2 h4 k hk
    obtain ⟨k, rfl⟩ : ∃ k', k = k' + 1 := ⟨k - 1, by omega⟩
    by_cases hi : i < l.length
    · unfold burinbook_Weigh.l0
      rw [if_pos (by omega)]
      by_cases ha : 0 ≤ acc
      · rw [if_pos ha, if_pos (by omega), rd_at l i hi, w64 (n := ((d + 1 : Nat) : Int) - 1) (by omega) (by omega), show ((d + 1 : Nat) : Int) - 1 = (d : Int) by omega, hK _ (List.getElem_mem hi) k (by omega) acc ha h4]
        rw [w64 (n := (i : Int) + 1) (by omega) (by omega), show (i : Int) + 1 = ((i + 1 : Nat) : Int) by omega]
        have hw := (weighP_le d l[i] acc ha).2
        refine (ih (i + 1) (weighP d l[i] acc) (by omega) (by omega) (by omega) k (by omega)).trans ?_
        rw [List.drop_eq_getElem_cons hi, List.foldl_cons, if_pos ha]
      · rw [if_neg (by omega), fold_neg _ _ _ (by omega)]
    · obtain rfl : i = l.length := by omega
      unfold burinbook_Weigh.l0
      rw [if_neg (by omega), List.drop_length]
      rfl
theorem weigh_f : ∀ (d : Nat), d < 1000 → ∀ (n : S25), ∃ K, ∀ k, K ≤ k → ∀ left : Int, 0 ≤ left → left ≤ 1000 → burinbook_Weigh.f k n.f0 n.f1 n.f2 n.f3 n.f4 n.f5 n.f6 n.f7 left (d : Int) = some (weighP d n left) := by
  intro d
  induction d with
  | zero =>
    intro _ n
    refine ⟨2, fun k hk left h1 h2 => ?_⟩
    obtain ⟨k, rfl⟩ : ∃ k', k = k' + 2 := ⟨k - 2, by omega⟩
    simp [burinbook_Weigh.f, burinbook_Weigh.j0, weighP]
  | succ d ih =>
    intro hd n
    by_cases hs : 200 < n.f7.length
    · refine ⟨2, fun k hk left h1 h2 => ?_⟩
      obtain ⟨k, rfl⟩ : ∃ k', k = k' + 2 := ⟨k - 2, by omega⟩
      have e0 : ¬ (((d + 1 : Nat) : Int) = 0) := by omega
      have e1 : ((n.f7.length : Int) > 200) := by omega
      unfold burinbook_Weigh.f weighP
      rw [if_neg e0, if_pos (c := left - 1 < 0 ∨ 200 < n.f1.length ∨ 100 < n.f3.size ∨ 200 < n.f7.length) (by omega)]
      have j : ∀ x, burinbook_Weigh.j0 (k + 1) x ((d + 1 : Nat) : Int) true n.f0 n.f1 n.f2 n.f3 n.f4 n.f5 n.f6 n.f7 = some (-1) := fun x => by simp only [burinbook_Weigh.j0, if_true]
      rw [decide_eq_true e1, j]
      by_cases c1 : wrap64 (left - 1) < 0
      · rw [if_pos c1]
      rw [if_neg c1]
      by_cases c2 : (n.f1.length : Int) > 200
      · rw [if_pos c2]
      rw [if_neg c2]
      by_cases c3 : (n.f3.size : Int) > 100
      · rw [if_pos c3]
      rw [if_neg c3]
    · obtain ⟨K, hK⟩ := kmax n.f7 (fun x k => ∀ a : Int, 0 ≤ a → a ≤ 1000 → burinbook_Weigh.f k x.f0 x.f1 x.f2 x.f3 x.f4 x.f5 x.f6 x.f7 a (d : Int) = some (weighP d x a)) (fun x hx => ih (by omega) x)
      refine ⟨K + n.f7.length + 4, fun k hk left h1 h2 => ?_⟩
      obtain ⟨k, rfl⟩ : ∃ k', k = k' + 2 := ⟨k - 2, by omega⟩
      have e0 : ¬ (((d + 1 : Nat) : Int) = 0) := by omega
      have e1 : ¬ ((n.f7.length : Int) > 200) := by omega
      have ew : wrap64 (left - 1) = left - 1 := w64 (by omega) (by omega)
      unfold burinbook_Weigh.f weighP
      rw [if_neg e0, ew]
      by_cases c1 : left - 1 < 0
      · rw [if_pos c1, if_pos (by omega)]; simp only [burinbook_Weigh.j0, if_true]
      rw [if_neg c1]
      by_cases c2 : (n.f1.length : Int) > 200
      · rw [if_pos c2, if_pos (by omega)]; simp only [burinbook_Weigh.j0, if_true]
      rw [if_neg c2]
      by_cases c3 : (n.f3.size : Int) > 100
      · rw [if_pos c3, if_pos (by omega)]; simp only [burinbook_Weigh.j0, if_true]
      rw [if_neg c3, decide_eq_false e1, if_neg (by omega)]
      unfold burinbook_Weigh.j0
      rw [if_neg (by simp), w64 (by omega) (by omega)]
      exact weigh_l d (by omega) n.f0 n.f1 n.f2 n.f3 n.f4 n.f5 n.f6 n.f7 (by omega) K hK n.f7.length 0 (left - 1 - n.f1.length) (by omega) (by omega) (by omega) k (by omega)

theorem weigh_thin : ∀ (d : Nat) (n : S25) (left : Int), 0 ≤ weighP d n left → Thin d n ∧ ∀ (m : Nat) (e : Int), ((stepsL m e n).length : Int) + weighP d n left ≤ left := by
  intro d
  induction d with
  | zero => intro n left h; simp [weighP] at h
  | succ d ih =>
    intro n left h
    unfold weighP at h ⊢
    split at h
    · omega
    · rename_i hc
      rw [if_neg hc]
      have hmx : ∀ a : Int, 0 ≤ mx a (-1) → mx a (-1) = a := by intro a ha; unfold mx at ha ⊢; split at ha <;> simp_all <;> omega
      have eh := hmx _ h
      rw [eh] at h ⊢
      have key : ∀ (l : List S25) (a : Int), 0 ≤ l.foldl (fun a x => if 0 ≤ a then weighP d x a else a) a → (∀ x ∈ l, Thin d x) ∧ ∀ (m : Nat) (e : Int), ((l.flatMap (stepsL m e)).length : Int) + l.foldl (fun a x => if 0 ≤ a then weighP d x a else a) a ≤ a := by
        intro l
        induction l with
        | nil => intro a h; exact ⟨(fun x hx => by cases hx), (fun m e => by simp)⟩
        | cons x l ihl =>
          intro a h
          rw [List.foldl_cons] at h
          by_cases ha : 0 ≤ a
          · rw [if_pos ha] at h
            have hw : 0 ≤ weighP d x a := by
              by_cases hw : 0 ≤ weighP d x a
              · exact hw
              · rw [fold_neg _ _ _ (by omega)] at h; omega
            obtain ⟨t1, s1⟩ := ih x a hw
            obtain ⟨t2, s2⟩ := ihl _ h
            refine ⟨fun y hy => ?_, fun m e => ?_⟩
            · rcases List.mem_cons.1 hy with rfl | hy
              · exact t1
              · exact t2 y hy
            · have h1 := s1 m e; have h2 := s2 m e
              rw [List.flatMap_cons, List.length_append, List.foldl_cons, if_pos ha]
              omega
          · rw [if_neg ha, fold_neg _ _ _ (by omega)] at h; omega
      obtain ⟨t, s⟩ := key n.f7 _ h
      refine ⟨⟨by omega, t, by omega, by omega⟩, fun m e => ?_⟩
      cases m with
      | zero =>
        have := s 0 0
        simp only [stepsL, List.length_nil]
        omega
      | succ m =>
        have := s m (e + 1)
        simp only [stepsL, List.length_cons]
        omega
/-- What Great answers, and what its 'no' tells. -/
theorem Great_f (n : S25) (a : Nat) (ha : a ≤ 1000) : ∃ K, ∀ k, K ≤ k → burinbook_Great.f k n.f0 n.f1 n.f2 n.f3 n.f4 n.f5 n.f6 n.f7 (a : Int) = some (decide (weighP 40 n a < 0)) := by
  obtain ⟨K, hK⟩ := weigh_f 40 (by omega) n
  refine ⟨K, fun k hk => ?_⟩
  unfold burinbook_Great.f
  rw [show (40 : Int) = ((40 : Nat) : Int) from rfl, hK k hk a (by omega) (by omega)]
  rfl
theorem Great_no {n : S25} {a : Nat} (h : ¬ weighP 40 n a < 0) : Thin 40 n ∧ ∀ (m : Nat) (e : Int), (stepsL m e n).length ≤ a := by
  obtain ⟨t, s⟩ := weigh_thin 40 n a (by omega)
  exact ⟨t, fun m e => by have := s m e; omega⟩
end Go.Proofs.Ytojlhlepneefoaa
