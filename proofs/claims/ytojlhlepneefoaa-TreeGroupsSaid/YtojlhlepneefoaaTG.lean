/- A sequence of groups: plain laws; how it lies in memory. -/
import Derived.Test.YtojlhlepneefoaaTree2
import Derived.Test.YtojlhlepneefoaaPAllx13
import Derived.Test.YtojlhlepneefoaaPAllx15
import Derived.IntWalk
namespace Go.Proofs.Ytojlhlepneefoaa
open Go.RowKit PAll Go.Proofs.YtojlhlepneefoaaW.PrintWords Go.Proofs.YtojlhlepneefoaaW.PrintLast Go.Proofs.YtojlhlepneefoaaW.PrintMore
open Go.Shelf
set_option linter.unusedVariables false
set_option linter.unusedSimpArgs false

def grN (m : Int) (s : ByteArray) : S25 := ⟨6, [], m, s, 0, 0, false, [letN 97]⟩
def fineB (s : ByteArray) : Bool := emptyS s || nameB s.data.toList
theorem gr_fits (m : Int) (s : ByteArray) (h : 1 ≤ m) : fitsV (grN m s) = fineB s := by
  simp [fitsV, fitsN, grN, bareB, fineB, h, emptyS, ByteArray.toList_eq]
theorem gr_steps (d : Int) (m : Int) (s : ByteArray) (k : Nat) : stepsL (k + 2) d (grN m s) = [(d, grN m s), (d + 1, letN 97)] := rfl
def catN (l : List S25) : S25 := ⟨7, [], 0, ⟨#[]⟩, 0, 0, false, l⟩
theorem cat_fits (l : List S25) (h : 2 ≤ l.length) : fitsV (catN l) = true := by
  simp [fitsV, fitsN, catN, bareB, emptyS, ByteArray.toList_eq, h]
open Classical in
noncomputable def ckG : List ByteArray → List (Int × ByteArray) → Except Int (List ByteArray)
  | acc, [] => .ok acc
  | acc, (m, s) :: r => if fineB s = false then .error 60 else if ¬ m = (acc.length : Int) + 1 then .error 60 else if 31 < (acc.length : Int) + 1 then .error 2 else if s ∈ acc ∧ emptyS s = false then .error 6 else ckG (acc ++ [s]) r
theorem ck_groups : ∀ (l : List (Int × ByteArray)) (acc : List ByteArray), (∀ p ∈ l, 1 ≤ p.1) → ((l.flatMap fun p => [((2 : Int), grN p.1 p.2), (3, letN 97)]).foldl chkStep (.ok acc)) = ckG acc l
  | [], acc, _ => rfl
  | (m, s) :: r, acc, h => by
    have h1 : 1 ≤ m := h (m, s) (by simp)
    have ih := fun acc' => ck_groups r acc' (fun p hp => h p (by simp [hp]))
    simp only [List.flatMap_cons, List.cons_append, List.nil_append, List.foldl_cons]
    unfold ckG
    have hf : ∀ b, fineB s = b → fitsV ((2 : Int), grN m s).2 = b := fun b hb => by rw [← hb]; exact gr_fits m s h1
    have h6 : ((2 : Int), grN m s).2.f0 = 6 := rfl
    have fin : ∀ c, chkStep (.ok acc) ((2 : Int), grN m s) = .error c → (r.flatMap fun p => [((2 : Int), grN p.1 p.2), (3, letN 97)]).foldl chkStep (chkStep (chkStep (.ok acc) ((2 : Int), grN m s)) (3, letN 97)) = .error c := by
      intro c hc
      rw [hc]
      exact chk_err c _
    by_cases c1 : fineB s = false
    · rw [if_pos c1]; exact fin 60 (chk_no (hf _ c1))
    rw [if_neg c1]
    have c1' := hf true (by simpa using c1)
    by_cases c2 : m = (acc.length : Int) + 1
    · rw [if_neg (not_not_intro c2)]
      by_cases c3 : 31 < (acc.length : Int) + 1
      · rw [if_pos c3]
        refine fin 2 ?_
        unfold chkStep
        dsimp only
        rw [if_neg (by rw [c1']; simp), if_neg (not_not_intro h6), if_neg (show ¬¬ ((grN m s).f2 = (acc.length : Int) + 1) from not_not_intro c2), if_pos c3]
      · rw [if_neg c3]
        by_cases c4 : s ∈ acc ∧ emptyS s = false
        · rw [if_pos c4]; exact fin 6 (chk_twice c1' h6 c2 (by omega) c4.1 c4.2)
        · rw [if_neg c4, chk_fine c1' h6 c2 (by omega) c4, chk_skip la_fits (by decide)]
          exact ih _
    · rw [if_pos c2]; exact fin 60 (chk_num c1' h6 c2)
def grs (ns : List ByteArray) : List (Int × ByteArray) := ns.zipIdx.map fun p => ((p.2 : Int) + 1, p.1)
theorem cat_check (l : List (Int × ByteArray)) (h : ∀ p ∈ l, 1 ≤ p.1) (h2 : 2 ≤ l.length) : checkV (catN (l.map fun p => grN p.1 p.2)) = chkOut (ckG [] l) := by
  have hd : depthP 1001 (catN (l.map fun p => grN p.1 p.2)) ≤ 1000 := by
    show (((catN (l.map fun p => grN p.1 p.2)).f7.map (depthP 1000)).foldl mx 0 + 1 : Int) ≤ 1000
    have : ((catN (l.map fun p => grN p.1 p.2)).f7.map (depthP 1000)).foldl mx 0 ≤ 2 := foldmx_le _ _ (by omega) (fun x hx => by
      obtain ⟨y, hy, rfl⟩ := List.mem_map.1 hx
      obtain ⟨p, _, rfl⟩ := List.mem_map.1 hy
      show (mx 0 (depthP 999 (letN 97)) + 1 : Int) ≤ 2
      have : depthP 999 (letN 97) = 1 := by
        show (if (998 : Nat) = 0 then (1 : Int) else ([] : List Int).foldl mx 0 + 1) = 1
        rw [if_neg (by decide)]
        rfl
      rw [this]
      decide)
    omega
  unfold checkV
  rw [if_neg (by omega)]
  have hst : stepsL 1000 1 (catN (l.map fun p => grN p.1 p.2)) = (1, catN (l.map fun p => grN p.1 p.2)) :: l.flatMap fun p => [((2 : Int), grN p.1 p.2), (3, letN 97)] := by
    show (1, catN (l.map fun p => grN p.1 p.2)) :: (l.map fun p => grN p.1 p.2).flatMap (stepsL 999 (1 + 1)) = _
    rw [List.flatMap_map]
    rfl
  rw [hst]
  unfold chkL
  rw [List.foldl_cons, chk_skip (cat_fits _ (by simpa using h2)) (by simp [catN]), ck_groups l [] h]
theorem ck_num : ∀ (l : List (Int × ByteArray)) (acc ns : List ByteArray), ckG acc l = .ok ns → ∀ j (hj : j < l.length), l[j].1 = ((acc.length + j : Nat) : Int) + 1
  | [], _, _, _, j, hj => by simp at hj
  | (m, s) :: r, acc, ns, h, j, hj => by
    unfold ckG at h
    split at h
    · cases h
    split at h
    · cases h
    rename_i hm
    split at h
    · cases h
    split at h
    · cases h
    match j with
    | 0 => simpa using hm
    | j + 1 =>
      have := ck_num r _ ns h j (by simpa using hj)
      simp only [List.getElem_cons_succ, this, List.length_append, List.length_cons, List.length_nil]
      omega
theorem ck_out (e : Except Int (List ByteArray)) (h : ∀ c, e = .error c → c ≠ 0) : chkOut e = 0 ↔ ∃ ns, e = .ok ns := by
  cases e with
  | ok ns => exact ⟨fun _ => ⟨ns, rfl⟩, fun _ => rfl⟩
  | error c => exact ⟨fun hc => absurd hc (h c rfl), fun ⟨_, h⟩ => by cases h⟩
theorem ck_codes : ∀ (l : List (Int × ByteArray)) (acc : List ByteArray) (c : Int), ckG acc l = .error c → c ≠ 0
  | [], _, _, h => by cases h
  | (m, s) :: r, acc, c, h => by
    unfold ckG at h
    split at h
    · cases h; decide
    split at h
    · cases h; decide
    split at h
    · cases h; decide
    split at h
    · cases h; decide
    · exact ck_codes r _ c h
/-- Twice: a name that stands earlier. -/
def TwiceIn (ns : List ByteArray) (k : Nat) : Prop := ∃ i, i < k ∧ ∃ h : i < ns.length, ns[i] ∈ ns.take i ∧ emptyS ns[i] = false
theorem ck_ok (ns : List ByteArray) : ∀ (n i : Nat), ns.length - i = n → i ≤ ns.length →
    ((∃ r, ckG (ns.take i) ((grs ns).drop i) = .ok r) ↔ (∀ j (h : j < ns.length), i ≤ j → fineB ns[j] = true) ∧ (∀ j (h : j < ns.length), i ≤ j → ¬ (ns[j] ∈ ns.take j ∧ emptyS ns[j] = false)) ∧ (i < ns.length → ns.length ≤ 31))
  | 0, i, hn, hi => by
    rw [List.drop_eq_nil_of_le (by simp [grs]; omega)]
    refine ⟨fun _ => ⟨fun j h hij => by omega, fun j h hij => by omega, fun h => by omega⟩, fun _ => ⟨_, rfl⟩⟩
  | n + 1, i, hn, hi => by
    have hlt : i < ns.length := by omega
    have hd : (grs ns).drop i = ((i : Int) + 1, ns[i]) :: (grs ns).drop (i + 1) := by
      rw [List.drop_eq_getElem_cons (by simpa [grs] using hlt)]
      congr 1
      simp [grs]
    rw [hd]
    unfold ckG
    have hlen : (ns.take i).length = i := by simp; omega
    rw [hlen]
    have htk : ns.take i ++ [ns[i]] = ns.take (i + 1) := (List.take_succ_eq_append_getElem hlt).symm
    rw [htk, if_neg (show ¬ ¬ ((i : Int) + 1 = (i : Int) + 1) by simp)]
    have ih := ck_ok ns n (i + 1) (by omega) (by omega)
    by_cases c1 : fineB ns[i] = false
    · rw [if_pos c1]
      refine ⟨fun ⟨r, h⟩ => (by cases h), fun ⟨h, _, _⟩ => ?_⟩
      have := h i hlt (Nat.le_refl _)
      rw [c1] at this; cases this
    rw [if_neg c1]
    by_cases c3 : 31 < (i : Int) + 1
    · rw [if_pos c3]
      exact ⟨fun ⟨r, h⟩ => (by cases h), fun ⟨_, _, h⟩ => by have := h hlt; omega⟩
    rw [if_neg c3]
    by_cases c4 : ns[i] ∈ ns.take i ∧ emptyS ns[i] = false
    · rw [if_pos c4]
      exact ⟨fun ⟨r, h⟩ => (by cases h), fun ⟨_, h, _⟩ => absurd c4 (h i hlt (Nat.le_refl _))⟩
    rw [if_neg c4, ih]
    constructor
    · rintro ⟨h1, h2, h3⟩
      refine ⟨fun j hj hij => ?_, fun j hj hij => ?_, fun _ => ?_⟩
      · by_cases e : j = i
        · subst e; simpa using c1
        · exact h1 j hj (by omega)
      · by_cases e : j = i
        · subst e; exact c4
        · exact h2 j hj (by omega)
      · by_cases e : i + 1 < ns.length
        · exact h3 e
        · omega
    · rintro ⟨h1, h2, h3⟩
      exact ⟨fun j hj hij => h1 j hj (by omega), fun j hj hij => h2 j hj (by omega), fun _ => h3 hlt⟩
theorem groups_right (ns : List ByteArray) (h2 : 2 ≤ ns.length) : checkV (catN ((grs ns).map fun p => grN p.1 p.2)) = 0 ↔ (∀ s ∈ ns, fineB s = true) ∧ ¬ TwiceIn ns ns.length ∧ ns.length ≤ 31 := by
  rw [cat_check (grs ns) (fun p hp => by
    obtain ⟨q, hq, rfl⟩ := List.mem_map.1 hp
    dsimp only; omega) (by simpa [grs] using h2), ck_out _ (ck_codes _ _)]
  have := ck_ok ns ns.length 0 (by omega) (by omega)
  rw [List.take_zero, List.drop_zero] at this
  rw [this]
  constructor
  · rintro ⟨a, b, c⟩
    refine ⟨fun s hs => ?_, fun ⟨i, _, h, e⟩ => b i h (by omega) e, c (by omega)⟩
    obtain ⟨j, hj, rfl⟩ := List.getElem_of_mem hs
    exact a j hj (by omega)
  · rintro ⟨a, b, c⟩
    exact ⟨fun j hj _ => a _ (List.getElem_mem hj), fun j hj _ e => b ⟨j, hj, hj, e⟩, fun _ => c⟩
theorem groups_wrong (l : List (Int × ByteArray)) (h : ∀ p ∈ l, 1 ≤ p.1) (h2 : 2 ≤ l.length) (k : Nat) (hk : k < l.length) (hne : l[k].1 ≠ (k : Int) + 1) : checkV (catN (l.map fun p => grN p.1 p.2)) ≠ 0 := by
  rw [cat_check l h h2, Ne, ck_out _ (ck_codes _ _)]
  rintro ⟨ns, e⟩
  have := ck_num l [] ns e k hk
  simp at this
  exact hne this
theorem cat_thin (l : List (Int × ByteArray)) (h : l.length ≤ 200) (hs : ∀ p ∈ l, p.2.size ≤ 100) : Thin 3 (catN (l.map fun p => grN p.1 p.2)) := by
  refine ⟨by simpa [catN] using h, ?_, by simp [catN], by simp only [catN]; decide⟩
  intro x hx
  obtain ⟨p, hp, rfl⟩ := List.mem_map.1 hx
  exact ⟨by simp [grN], by simp only [grN, List.mem_singleton]; rintro y rfl; exact let_thin 97, by simp [grN], hs p hp⟩
theorem cat_steps (l : List (Int × ByteArray)) : stepsL 1000 1 (catN (l.map fun p => grN p.1 p.2)) = (1, catN (l.map fun p => grN p.1 p.2)) :: l.flatMap fun p => [((2 : Int), grN p.1 p.2), (3, letN 97)] := by
  show (1, catN (l.map fun p => grN p.1 p.2)) :: (l.map fun p => grN p.1 p.2).flatMap (stepsL 999 (1 + 1)) = _
  rw [List.flatMap_map]
  rfl
theorem cat_len (l : List (Int × ByteArray)) : (stepsL 1000 1 (catN (l.map fun p => grN p.1 p.2))).length = 1 + 2 * l.length := by
  rw [cat_steps, List.length_cons, List.length_flatMap]
  induction l with
  | nil => rfl
  | cons p l ih => simp at ih ⊢; omega
theorem cat_groups (l : List (Int × ByteArray)) : groupsP (stepsL 1000 1 (catN (l.map fun p => grN p.1 p.2))) = l.map (·.2) := by
  rw [cat_steps]
  unfold groupsP
  rw [List.filterMap_cons_none (by simp [catN])]
  induction l with
  | nil => rfl
  | cons p l ih =>
    simp only [List.flatMap_cons, List.cons_append, List.nil_append, List.map_cons]
    rw [List.filterMap_cons_some (b := p.2) (by simp [grN]), List.filterMap_cons_none (by simp [letN]), ih]

end Go.Proofs.Ytojlhlepneefoaa
