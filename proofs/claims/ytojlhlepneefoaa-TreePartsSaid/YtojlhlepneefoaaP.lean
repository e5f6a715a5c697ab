/- Package tree: the plain law of TreeParts. -/
import Derived.Test.YtojlhlepneefoaaN
namespace Go.Proofs.Ytojlhlepneefoaa
open Go.RowKit PAll Go.Proofs.YtojlhlepneefoaaW.PrintWords Go.Proofs.YtojlhlepneefoaaW.PrintLast Go.Proofs.YtojlhlepneefoaaW.PrintMore
open Go.Shelf
set_option linter.unusedVariables false
set_option linter.unusedSimpArgs false

theorem flat_congr {α β : Type} {l : List α} {f g : α → List β} (h : ∀ x ∈ l, f x = g x) : l.flatMap f = l.flatMap g := by
  rw [List.flatMap_def, List.flatMap_def, List.map_congr_left h]
/-- The nodes alone, in order. -/
def nodesL : Nat → S25 → List S25
  | 0, _ => []
  | m + 1, n => n :: n.f7.flatMap (nodesL m)
theorem nodes_steps : ∀ (m : Nat) (e : Int) (n : S25), (stepsL m e n).map (·.2) = nodesL m n
  | 0, _, _ => rfl
  | m + 1, e, n => by
    simp only [stepsL, nodesL, List.map_cons, List.map_flatMap]
    congr 1
    exact flat_congr (fun x _ => nodes_steps m (e + 1) x)
theorem nodes_thin : ∀ (d : Nat) (n : S25), Thin d n → ∀ m m', d ≤ m → d ≤ m' → nodesL m n = nodesL m' n
  | 0, _, h, _, _, _, _ => h.elim
  | d + 1, n, h, m, m', h1, h2 => by
    obtain ⟨m, rfl⟩ : ∃ k, m = k + 1 := ⟨m - 1, by omega⟩
    obtain ⟨m', rfl⟩ : ∃ k, m' = k + 1 := ⟨m' - 1, by omega⟩
    simp only [nodesL]
    congr 1
    exact flat_congr (fun x hx => nodes_thin d x (h.2.1 x hx) m m' (by omega) (by omega))
theorem depth_thin : ∀ (d : Nat) (n : S25), Thin d n → ∀ m m', d < m → d < m' → depthP m n = depthP m' n
  | 0, _, h, _, _, _, _ => h.elim
  | d + 1, n, h, m, m', h1, h2 => by
    obtain ⟨m, rfl⟩ : ∃ k, m = k + 1 := ⟨m - 1, by omega⟩
    obtain ⟨m', rfl⟩ : ∃ k, m' = k + 1 := ⟨m' - 1, by omega⟩
    unfold depthP
    rw [if_neg (by omega), if_neg (by omega)]
    congr 2
    exact List.map_congr_left (fun x hx => depth_thin d x (h.2.1 x hx) m m' (by omega) (by omega))
theorem sizes {n : S25} (h : Thin 40 n) : (stepsL 1000 1 n).length = 1 + (n.f7.map fun x => (stepsL 1000 1 x).length).sum := by
  have e : ∀ x, (stepsL 1000 1 x).length = (nodesL 1000 x).length := fun x => by rw [← nodes_steps 1000 1 x, List.length_map]
  rw [e n]
  have : nodesL 1000 n = n :: n.f7.flatMap (nodesL 999) := rfl
  rw [this, List.length_cons, List.length_flatMap, Nat.add_comm]
  congr 2
  exact List.map_congr_left (fun x hx => by rw [e x, nodes_thin 39 x (h.2.1 x hx) 999 1000 (by omega) (by omega)])
theorem depths {n : S25} (h : Thin 40 n) : depthP 1001 n = (n.f7.map (depthP 1001)).foldl mx 0 + 1 := by
  have : depthP 1001 n = (n.f7.map (depthP 1000)).foldl mx 0 + 1 := rfl
  rw [this, List.map_congr_left (fun x hx => depth_thin 39 x (h.2.1 x hx) 1000 1001 (by omega) (by omega))]
theorem chk_ok_all : ∀ (xs : List (Int × S25)) (ns ns' : List ByteArray), xs.foldl chkStep (.ok ns) = .ok ns' → ∀ x ∈ xs, fitsV x.2 = true
  | [], _, _, _, x, hx => by cases hx
  | y :: ys, ns, ns', h, x, hx => by
    rw [List.foldl_cons] at h
    have hy : fitsV y.2 = true := by
      cases hf : fitsV y.2
      · rw [chk_no hf, chk_err] at h; cases h
      · rfl
    rcases List.mem_cons.1 hx with rfl | hx
    · exact hy
    · cases hc : chkStep (.ok ns) y with
      | error c => rw [hc, chk_err] at h; cases h
      | ok ns2 => rw [hc] at h; exact chk_ok_all ys ns2 ns' h x hx
theorem chk_plain : ∀ (xs : List (Int × S25)) (ns : List ByteArray), (∀ x ∈ xs, fitsV x.2 = true ∧ ¬ x.2.f0 = 6) → xs.foldl chkStep (.ok ns) = .ok ns
  | [], _, _ => rfl
  | y :: ys, ns, h => by
    rw [List.foldl_cons, chk_skip (h y (by simp)).1 (h y (by simp)).2]
    exact chk_plain ys ns (fun x hx => h x (by simp [hx]))
theorem no_groups {xs : List (Int × S25)} (h : groupsP xs = []) : ∀ x ∈ xs, ¬ x.2.f0 = 6 := by
  intro x hx h6
  have : x.2.f3 ∈ groupsP xs := List.mem_filterMap.2 ⟨x, hx, by simp [h6]⟩
  rw [h] at this; cases this
theorem parts_right {n : S25} (h : Thin 40 n) (hc : checkV n = 0) (hg : groupsP (stepsL 1000 1 n) = []) : ∀ x ∈ n.f7, checkV x = 0 := by
  intro x hx
  have hd : ¬ depthP 1001 n > 1000 := by
    intro hd; unfold checkV at hc; rw [if_pos hd] at hc; omega
  have hok : ∃ ns, chkL (stepsL 1000 1 n) = .ok ns ∨ (chkL (stepsL 1000 1 n) = .error 0) := by
    unfold checkV at hc; rw [if_neg hd] at hc
    cases e : chkL (stepsL 1000 1 n) with
    | ok ns => exact ⟨ns, .inl rfl⟩
    | error c => rw [e] at hc; exact ⟨[], .inr (by rw [show c = 0 from hc])⟩
  have step0 : ∀ (st : Except Int (List ByteArray)) (y : Int × S25), st ≠ .error 0 → chkStep st y ≠ .error 0 := by
    intro st y hst
    unfold chkStep
    split
    · exact hst
    · repeat' split
      all_goals simp
  have no0 : ∀ (xs : List (Int × S25)) (st : Except Int (List ByteArray)), st ≠ .error 0 → xs.foldl chkStep st ≠ .error 0 := by
    intro xs
    induction xs with
    | nil => intro st h; exact h
    | cons y ys ih => intro st h; exact ih _ (step0 st y h)
  obtain ⟨ns, hok | hbad⟩ := hok
  rotate_left
  · exact absurd hbad (no0 _ _ (by simp))
  have hall := chk_ok_all _ _ _ hok
  have h6 := no_groups hg
  have hmem : ∀ y ∈ nodesL 1000 x, y ∈ nodesL 1000 n := by
    intro y hy
    rw [nodes_thin 39 x (h.2.1 x hx) 1000 999 (by omega) (by omega)] at hy
    have : nodesL 1000 n = n :: n.f7.flatMap (nodesL 999) := rfl
    rw [this]
    exact List.mem_cons_of_mem _ (List.mem_flatMap.2 ⟨x, hx, hy⟩)
  have hx2 : ∀ s ∈ stepsL 1000 1 x, fitsV s.2 = true ∧ ¬ s.2.f0 = 6 := by
    intro s hs
    have h1 : s.2 ∈ nodesL 1000 x := by rw [← nodes_steps 1000 1 x]; exact List.mem_map.2 ⟨s, hs, rfl⟩
    have h2 := hmem _ h1
    rw [← nodes_steps 1000 1 n] at h2
    obtain ⟨t, ht, e⟩ := List.mem_map.1 h2
    rw [← e]
    exact ⟨hall t ht, h6 t ht⟩
  have hdx : ¬ depthP 1001 x > 1000 := by
    have := depth_thin 39 x (h.2.1 x hx) 1001 40 (by omega) (by omega)
    have h2 := depthP_le 40 x
    omega
  unfold checkV
  rw [if_neg hdx]
  have : chkL (stepsL 1000 1 x) = .ok [] := chk_plain _ _ hx2
  rw [this]; rfl
end Go.Proofs.Ytojlhlepneefoaa
