/- Package mem: the document's Load, Fetch, Store against what the memory says. -/
import Derived.Test.YtndpmjgalmnhdaaQ
namespace Go.Proofs.Ytndpmjgalmnhdaa
open Go.RowKit PMemPlays Go.Proofs.YtndpmjgalmnhdaaW.PrintWords Go.Proofs.YtndpmjgalmnhdaaW.PrintLast Go.Proofs.YtndpmjgalmnhdaaW.PrintMore
open Go.Sort Go.Shelf
set_option linter.unusedVariables false
set_option linter.unusedSimpArgs false

instance (n : Int) : Decidable (SizeOk n) := by unfold SizeOk; infer_instance
theorem size_f (n : Int) : burinref27_Size.f n = some (decide (SizeOk n)) := by
  unfold burinref27_Size.f
  by_cases h1 : n = 1
  · subst h1; rfl
  by_cases h2 : n = 2
  · subst h2; rfl
  by_cases h4 : n = 4
  · subst h4; rfl
  rw [if_neg h1, if_neg h2, if_neg h4]
  by_cases h8 : n = 8
  · subst h8; rfl
  · rw [decide_eq_false (by unfold SizeOk; omega)]
    simp [h8]
theorem finds_at {l : List S39} {a n rt : Int} {k : Nat} (hn : 1 ≤ n) (hf : Finds (l.map pieceOf) a n rt k) : ∃ hk : k < l.length, l[k].f0 ≤ a ∧ (a - l[k].f0).toNat + n.toNat ≤ l[k].f1.size := by
  obtain ⟨hk, h1, _⟩ := hf.1
  have hk' : k < l.length := by simpa using hk
  simp only [List.getElem_map] at h1
  have h2 := not_lacks (hf.2 _ (by simp [hk'] : (l.map pieceOf)[k]? = some (pieceOf l[k]))) h1 hn
  have h3 : (pieceOf l[k]).f1.length = l[k].f1.size := bytesB_len _
  rw [h3] at h2
  exact ⟨hk', h1, h2⟩
theorem off_core (a f0 : Int) (h : f0 ≤ a) (h0 : 0 ≤ f0) (ha : a < 18446744073709551616) (hs : (a - f0).toNat ≤ 200) : wrap64 (IntKind.u64.wrap (a - f0)) = (((a - f0).toNat : Nat) : Int) := by
  rw [wu64 _ (by omega) (by omega), w64 _ (by omega) (by omega)]
  omega
theorem load_ref {l : List S39} (hs : Sz l) (hok : okR 0 l) {a n x c : Int} (ha : 0 ≤ a) (ha1 : a < 18446744073709551616) (h : LoadSays (l.map pieceOf) a n x c) : burinref27_Load.f 12 l a n = some (x, c) := by
  unfold burinref27_Load.f
  rw [size_f, Option.bind_some]
  rcases h with ⟨h1, rfl, rfl⟩ | ⟨h1, hf, rfl, rfl⟩ | ⟨h1, rfl, k, p, hf, hp, rfl⟩
  · rw [decide_eq_false h1]
    rfl
  · obtain ⟨n1, n8⟩ := sizeOk_bd h1
    rw [decide_eq_true h1, if_pos rfl, where_no hs hok ha ha1 n1 n8 hf, Option.bind_some, if_pos (by decide)]
  · obtain ⟨n1, n8⟩ := sizeOk_bd h1
    obtain ⟨hk, h2, h3⟩ := finds_at n1 hf
    have e : p = pieceOf l[k] := by
      rw [List.getElem?_map, List.getElem?_eq_getElem hk] at hp
      simp at hp
      exact hp.symm
    subst e
    obtain ⟨s1, s2, s3⟩ := hs.2 l[k] (List.getElem_mem _)
    rw [decide_eq_true h1, if_pos rfl, where_yes hs hok ha ha1 n1 n8 hf, Option.bind_some, if_neg (by omega), if_pos (by omega), if_pos (by omega), rd39 l k hk]
    show Option.bind (burinref27_Number.f 12 l[k].f1 (wrap64 (IntKind.u64.wrap (a - l[k].f0))) n) _ = some (numB (cutB (bytesB l[k].f1) (a - l[k].f0).toNat n.toNat), 0)
    have hnn : n = ((n.toNat : Nat) : Int) := by omega
    have := number_ref l[k].f1 (a - l[k].f0).toNat n.toNat h3 s1 (by omega)
    rw [← hnn] at this
    rw [off_core a l[k].f0 h2 s2 ha1 (by omega), this]
    rfl
theorem fetch_ref {l : List S39} (hs : Sz l) (hok : okR 0 l) {a x c : Int} (ha : 0 ≤ a) (ha1 : a < 18446744073709551616) (h : FetchSays (l.map pieceOf) a x c) : burinref27_Fetch.f 12 l a = some (x, c) := by
  unfold burinref27_Fetch.f
  have ht : Int.tmod a 4 = a % 4 := Int.tmod_eq_emod_of_nonneg ha
  rw [ht]
  rcases find_cases (l.map pieceOf) a 4 4 with hf | ⟨k, hf⟩
  · rw [where_no hs hok ha ha1 (by omega) (by omega) hf, Option.bind_some]
    rcases h with ⟨_, rfl, rfl⟩ | ⟨h0, _, k, p, hf2, _⟩
    · split
      · rfl
      · rfl
    · exfalso
      have h1 := where_no hs hok ha ha1 (by omega) (by omega) hf
      rw [where_yes hs hok ha ha1 (by omega) (by omega) hf2] at h1
      injection h1 with h1
      omega
  · rw [where_yes hs hok ha ha1 (by omega) (by omega) hf, Option.bind_some]
    rcases h with ⟨h0 | h0, rfl, rfl⟩ | ⟨h0, rfl, j, p, hf2, hp, rfl⟩
    · rw [if_neg h0]
    · exfalso
      have h1 := where_no hs hok ha ha1 (by omega) (by omega) h0
      rw [where_yes hs hok ha ha1 (by omega) (by omega) hf] at h1
      injection h1 with h1
      omega
    · have hjk := atK_uniq rfl (fun _ _ _ => rfl) hf.1 hf2.1
      subst hjk
      obtain ⟨hk, h2, h3⟩ := finds_at (by omega) hf
      have e : p = pieceOf l[k] := by
        rw [List.getElem?_map, List.getElem?_eq_getElem hk] at hp
        simp at hp
        exact hp.symm
      subst e
      obtain ⟨s1, s2, s3⟩ := hs.2 l[k] (List.getElem_mem _)
      rw [if_pos h0, if_neg (by omega), if_pos (by omega), if_pos (by omega), rd39 l k hk]
      have := number_ref l[k].f1 (a - l[k].f0).toNat 4 h3 s1 (by omega)
      rw [off_core a l[k].f0 h2 s2 ha1 (by omega)]
      show Option.bind (burinref27_Number.f 12 l[k].f1 _ ((4 : Nat) : Int)) _ = _
      rw [this]
      have hb := numB_bounds _ (cutB_isB (bytesB_isB l[k].f1) (a - l[k].f0).toNat 4)
      have h4 : (cutB (bytesB l[k].f1) (a - l[k].f0).toNat 4).length = 4 := cutB_len (by rw [bytesB_len]; exact h3)
      rw [h4] at hb
      show some (numB (cutB (bytesB l[k].f1) (a - l[k].f0).toNat 4) % 4294967296, (0 : Int)) = some (numB (cutB (bytesB l[k].f1) (a - l[k].f0).toNat 4), 0)
      rw [Int.emod_eq_of_lt hb.1 (show _ < (4294967296 : Int) from hb.2)]
/-- The regions behind a store. -/
def putR (l : List S39) (k : Nat) (r : S39) (a n x : Int) : List S39 := l.set k ⟨r.f0, strOfNums (patch (bytesB r.f1) (a - r.f0).toNat (leB x n.toNat)), r.f2⟩
theorem bytesB_strOfNums {xs : List Int} (h : IsB xs) : bytesB (strOfNums xs) = xs := by
  unfold bytesB strOfNums
  simp only [List.map_map]
  conv => rhs; rw [← List.map_id xs]
  apply List.map_congr_left
  intro y hy
  have := h y hy
  simp
  omega
theorem putR_map {l : List S39} {k : Nat} (hk : k < l.length) (a n x : Int) : (putR l k l[k] a n x).map pieceOf = (l.map pieceOf).set k ⟨(pieceOf l[k]).f0, patch (pieceOf l[k]).f1 (a - (pieceOf l[k]).f0).toNat (leB x n.toNat), (pieceOf l[k]).f2⟩ := by
  unfold putR
  rw [List.map_set]
  congr 1
  unfold pieceOf
  simp only
  rw [bytesB_strOfNums (patch_isB (bytesB_isB _) (leB_isB _ _))]
theorem okR_set : ∀ (l : List S39) (e : Int) (k : Nat) (hk : k < l.length) (s : ByteArray), s.size = l[k].f1.size → okR e l → okR e (l.set k ⟨l[k].f0, s, l[k].f2⟩)
  | r :: l, e, 0, _, s, hs, h => by
    obtain ⟨h1, h2, h3⟩ := h
    simp only [List.getElem_cons_zero] at hs
    refine ⟨?_, h2, ?_⟩
    · unfold badR at h1 ⊢
      simp only [hs]
      exact h1
    · simp only [hs]
      exact h3
  | r :: l, e, k + 1, hk, s, hs, h => ⟨h.1, h.2.1, okR_set l _ k (by simpa using hk) s (by simpa using hs) h.2.2⟩
theorem putR_size {l : List S39} {k : Nat} (hk : k < l.length) {a n x : Int} (hfit : (a - l[k].f0).toNat + n.toNat ≤ l[k].f1.size) : (strOfNums (patch (bytesB l[k].f1) (a - l[k].f0).toNat (leB x n.toNat))).size = l[k].f1.size := by
  rw [strOfNums_size, patch_len (by rw [leB_len, bytesB_len]; exact hfit), bytesB_len]
theorem putR_ok {l : List S39} {k : Nat} (hk : k < l.length) {a n x : Int} (hfit : (a - l[k].f0).toNat + n.toNat ≤ l[k].f1.size) (hok : okR 0 l) (hs : Sz l) : okR 0 (putR l k l[k] a n x) ∧ Sz (putR l k l[k] a n x) ∧ (putR l k l[k] a n x).length = l.length := by
  have hz := putR_size hk (x := x) hfit
  refine ⟨okR_set l 0 k hk _ hz hok, ⟨by unfold putR; rw [List.length_set]; exact hs.1, fun r hr => ?_⟩, by unfold putR; simp⟩
  unfold putR at hr
  rcases List.mem_or_eq_of_mem_set hr with hr | rfl
  · exact hs.2 r hr
  · have := hs.2 l[k] (List.getElem_mem _)
    rw [hz]
    exact this
end Go.Proofs.Ytndpmjgalmnhdaa
