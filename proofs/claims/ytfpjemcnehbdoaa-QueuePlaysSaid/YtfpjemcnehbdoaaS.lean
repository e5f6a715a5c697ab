/- Package queue: List (a fresh copy) and the book's SpoilInts. -/
import Derived.Test.YtfpjemcnehbdoaaPQueuePlaysx1
import Derived.Test.YtfpjemcnehbdoaaQOnce
import Derived.Laws.Cells
import Derived.Laws.AppendOwn
namespace Go.Proofs.Ytfpjemcnehbdoaa
open Go.RowKit PQueuePlays Go.Proofs.YtfpjemcnehbdoaaW.PrintWords Go.Proofs.YtfpjemcnehbdoaaW.PrintLast Go.Proofs.YtfpjemcnehbdoaaW.PrintMore
set_option linter.unusedVariables false

/-- A block of C integers of which the first are l. -/
def FC (w : World) (B C : Nat) (l : List Nat) : Prop :=
  C ≤ maxLen ∧ l.length ≤ C ∧ ∃ cs : Array Value, w.heap[B]? = some (.cells cs 3 (0, 0)) ∧ cs.size = C ∧ ∀ j i : Nat, l[j]? = some i → cs[j]? = some (Value.int .i64 (i : Nat))

theorem FC.reads {w B C l} (h : FC w B C l) : Kd.C (Kd.int .i64) w (some ⟨B, 0, none⟩) (l.map Int.ofNat).length (l.map Int.ofNat) := by
  obtain ⟨h1, h2, cs, h3, h4, h5⟩ := h
  have hm : maxLen = 9223372036854775807 := rfl
  refine ⟨rfl, by simp; omega, fun _ => ⟨_, rfl, fun j p hj => ⟨[.int .i64 p], rfl, rfl, fun i u hu => ?_⟩⟩⟩
  simp only [List.getElem?_map, Option.map_eq_some_iff] at hj
  obtain ⟨x, hx, rfl⟩ := hj
  have hi : i = 0 := by
    cases i with
    | zero => rfl
    | succ n => simp at hu
  subst hi
  simp at hu
  subst hu
  have : (Addr.add ⟨B, 0, none⟩ (j * (Kd.int .i64).sz + 0)) = ⟨B, j, none⟩ := by
    show Addr.add _ (j * 1 + 0) = _
    rw [Go.WideShapes.add_plain]
    simp
  rw [this, cellB h3, h5 j x hx]

theorem clone_any (w : World) (lb len cap : Nat) (cs : Array Value) (hb : w.heap[lb]? = some (.cells cs 3 (0, 0))) (l : List Nat) (hlen : len = l.length) (hc : ∀ j i : Nat, l[j]? = some i → cs[j]? = some (Value.int .i64 (i : Nat))) (hl : len ≤ 1000000) :
    Calls Try.prog 20 #[.slice (some ⟨lb, 0, none⟩) len cap] w fun e w' => ∃ B C, e = .returned (.slice (some ⟨B, 0, none⟩) l.length C) ∧ FC w' B C l ∧ w.heap.size ≤ B ∧ Kp [] w w' := by
  have qT : ∀ (w : World) (a : Option Addr) (n c n' c' : Nat), (Go.binOp .eql 32 (.slice a n c) (.slice none n' c')).run Try.prog w = .ok (.bool a.isNone) w := fun w a n c n' c' => Lib.run_eql_slice_nil w _ _ a n c n' c' Try.underlying32
  have hm : maxLen = 9223372036854775807 := rfl
  have ka := ((Kp.refl [] w).alloc (Obj.cells #[] 3)).drew
  have hba := (ka.block _ (ltB hb) (by simp)).trans hb
  have HL : ∀ n, n = l.length → Sem.run Try.prog (loadCellsFrom ⟨lb, 0, none⟩ 0 n #[]) (w.alloc (Obj.cells #[] 3)).drew = .ok (#[] ++ ((List.range n).map fun j => Value.int .i64 ((l.getD j 0 : Nat) : Int)).toArray) (w.alloc (Obj.cells #[] 3)).drew := by
    rintro n rfl
    have := run_loadCellsFrom (P := Try.prog) (w.alloc (Obj.cells #[] 3)).drew ⟨lb, 0, none⟩ (fun j => Value.int .i64 ((l.getD j 0 : Nat) : Int)) l.length 0 #[] (by
      intro j hj
      rw [Go.WideShapes.add_plain, Nat.zero_add, Nat.zero_add, cellB hba]
      have h1 : l[j]? = some (l.getD j 0) := by simp [hj]
      exact hc _ _ h1)
    simpa using this
  subst hlen
  by_cases h0 : l = []
  · subst h0
    clear HL hba hb hc
    rw [List.length_nil]
    go_enter Try.func20, Try.ntmps20
    go_wp2_with fail
    go_ret
    refine ⟨w.heap.size, 0, rfl, ⟨by omega, by simp, #[], heap_alloc_new w _, rfl, by simp⟩, Nat.le_refl _, (Kp.refl [] w).alloc _⟩
  · have h1 : ¬ l.length = 0 := by simpa using h0
    have hns : ¬ 281474976710656 < Builtin.nextslicecap l.length 0 * Try.t3.bytes := by
      have e : Builtin.nextslicecap l.length 0 = l.length := by unfold Builtin.nextslicecap; rw [if_pos (by omega)]
      rw [e, show Try.t3.bytes = 8 from rfl]
      omega
    replace HL := HL l.length rfl
    clear hba hb hc
    go_enter Try.func20, Try.ntmps20
    go_wp2_with fail
    go_ret
    refine ⟨w.heap.size + 1, grownCap w l.length 0 3, rfl, ⟨?_, ?_, ((List.map (fun j => Value.int IntKind.i64 ((l[j]?.getD 0 : Nat) : Int)) (List.range l.length)).toArray ++ Builtin.zeroCells #[Value.int IntKind.i64 0] (grownCap w l.length 0 3 - l.length)), ?_, ?_, ?_⟩, by omega, ka.alloc _⟩
    · exact grownCap_le_maxLen w l.length 0 3 (by omega)
    · exact grownCap_ge w l.length 0 3
    · have := heap_alloc_new (w.alloc (Obj.cells #[] 3)) (Obj.cells
              ((List.map (fun j => Value.int IntKind.i64 ((l[j]?.getD 0 : Nat) : Int)) (List.range l.length)).toArray ++
                Builtin.zeroCells #[Value.int IntKind.i64 0] (grownCap w l.length 0 3 - l.length)) 3)
      have e : (w.alloc (Obj.cells #[] 3)).heap.size = w.heap.size + 1 := by simp
      rw [e] at this
      exact this
    · have := grownCap_ge w l.length 0 3
      simp [size_zeroCells]
      omega
    · intro j i hj
      have hlt : j < l.length := (List.getElem?_eq_some_iff.1 hj).1
      have he : l[j] = i := (List.getElem?_eq_some_iff.1 hj).2
      simp [Array.getElem?_append, hlt, he]

theorem list_any (w : World) (q wb lb n l) (h : IsQ w q wb lb n l) :
    Calls Try.prog 16 #[.pointer (some ⟨q, 0, none⟩)] w fun e w' => ∃ B C, e = .returned (.slice (some ⟨B, 0, none⟩) l.length C) ∧ FC w' B C l ∧ w.heap.size ≤ B ∧ Kp [] w w' := by
  have c1 := cellB h.hq 1
  simp at c1
  obtain ⟨cs, hl, hs, hc⟩ := h.hl
  have hle := h.le
  have hsm := h.small
  have H := Lib.hid (clone_any w lb l.length n cs hl l rfl hc (by omega))
  clear h hl hc hs
  go_enter Try.func16, Try.ntmps16
  go_wp2_with fail
  refine H.out.mono ?_
  rintro e w' ⟨B, C, rfl, h1, h2, h3⟩
  go_wp2_with fail
  go_ret
  exact ⟨B, C, rfl, h1, h2, h3⟩

theorem spoil_any (w : World) (B C n : Nat) (l : List Nat) (h : FC w B C l) :
    Calls Try.prog 19 #[.slice (some ⟨B, 0, none⟩) n C] w fun e w' => e = .returned (.tuple #[]) ∧ Kp [B] w w' := by
  obtain ⟨h1, h2, cs, h3, h4, h5⟩ := h
  have hm : maxLen = 9223372036854775807 := rfl
  go_enter Try.func19, Try.ntmps19
  go_wp2_with fail
  go_loopw [9] (fun i wr => ∃ k : Nat, k ≤ C ∧ i = .int .i64 k ∧ Kp [B] w wr ∧ ∃ cs : Array Value, wr.heap[B]? = some (.cells cs 3 (0, 0)) ∧ cs.size = C) (fun i _ => C - (intOf i).toNat)
  case atStart => exact ⟨0, by omega, rfl, Kp.refl _ _, cs, h3, h4⟩
  case round =>
    obtain ⟨k, hk, rfl, hK, cs', h6, h7⟩ := hrel
    by_cases hlt : k < C
    · have hd : decide ((k : Int) < C) = true := by simpa using hlt
      have e1 := cellB h6 k
      have e2 := frozB h6 k
      obtain ⟨u, hu⟩ : ∃ u, cs'[k]? = some u := ⟨cs'[k], by simp⟩
      rw [hu] at e1
      have e3 := setB h6 k (.int .i64 (-99))
      go_wp2_with fail
      go_round
      case rel => exact ⟨k + 1, by omega, by go_num, hK.setCell (by simp) _, _, e3, by simp [h7]⟩
      case measure => simp [intOf]; omega
    · go_wp2_with fail
      go_end0
      exact ⟨rfl, hK⟩
end Go.Proofs.Ytfpjemcnehbdoaa
