/-
  No cell of these rows narrows 'for every input' (looked for: loops, veiled, ifaces, maps, wideKeys, modest, calm, conditions, laid).
  DERIVED. THE GIVEN ROWS OF THIS SEAT. 4 by the template 'for every input the law returns true; each argument reads behind the call as it read before'; 0 by the template 'total and deterministic' (their statements: YtkfkdinpmfldaaaTotals.lean).
  GIVEN WITH THE SEED: the statements are not yours to turn. If you find one false, say at which input.
  Laid BY PROGRAM, IN A SANDBOX (cutbox-rows.mjs): the forced cells as the released guide's own fill.sh prints them over the translation d02e488d49dda110… (all of the seat's roots in one cut). By AI agents, Wed Nov 11 2026. No macro, syntax, notation, axiom, sorry.
-/
import Derived.Test.YtkfkdinpmfldaaaChecked
import GoSem.Claim
import GoSem.ClaimJoined
import GoSem.ClaimMapViews
import Derived.JoinedTies
import Derived.KernelRfl
namespace Go.Proofs.Ytkfkdinpmfldaaa
/- THE CELL 'sum', in the pinned program and in every row, IS THE sha256 OF THE DUMP (.gsa) THAT YtkfkdinpmfldaaaProg.lean LOADS. Nothing in Lean hashes anything: it is a label: what it is worth is what the hold of that sum in a sandbox is worth. -/
noncomputable def Try.pinned : Pinned := { name := "ytkfkdinpmfldaaa", sum := "d02e488d49dda110fde13a0f5c8be7c042a9f40a6cd540466178318735eb891a", checked := Try.checked }
namespace Rows
def none {H : Type} : Left H := { results := [], args := [] }

/-- 'burinlaw12.EdgeTells': WHATEVER THE INPUT: true; the input reads as it did. -/
def edgeTellsSpec : ChangeSpec := { name := "edgeTells", fn := fun _ => fun
  | [d1, d2, d3] => { results := [.lit (.bool true)], args := [d1, d2, d3] }
  | _ => none }
def edgeTellsRow : OpenClaim := { program := "ytkfkdinpmfldaaa", sum := "d02e488d49dda110fde13a0f5c8be7c042a9f40a6cd540466178318735eb891a", func := "burin/burinlaw12.EdgeTells", spec := "edgeTells", inPlace := ["internal/bytealg.IndexByteString"], apart := false }
def EdgeTellsSaid : Prop := edgeTellsRow.holds Try.pinned (OpenSpec.ofChange edgeTellsSpec)

/-- ITS FALSE NEIGHBOUR: 'it returns false'. Refute it at one input. -/
def edgeTellsWrong : ChangeSpec := { name := "edgeTells", fn := fun _ => fun
  | [d1, d2, d3] => { results := [.lit (.bool false)], args := [d1, d2, d3] }
  | _ => none }
def EdgeTellsWrongFalsely : Prop := edgeTellsRow.holds Try.pinned (OpenSpec.ofChange edgeTellsWrong)

/-- 'burinlaw12.EdgeTurns': WHATEVER THE INPUT: true; the input reads as it did. -/
def edgeTurnsSpec : ChangeSpec := { name := "edgeTurns", fn := fun _ => fun
  | [d1, d2] => { results := [.lit (.bool true)], args := [d1, d2] }
  | _ => none }
def edgeTurnsRow : OpenClaim := { program := "ytkfkdinpmfldaaa", sum := "d02e488d49dda110fde13a0f5c8be7c042a9f40a6cd540466178318735eb891a", func := "burin/burinlaw12.EdgeTurns", spec := "edgeTurns", inPlace := ["internal/bytealg.IndexByteString"], apart := false }
def EdgeTurnsSaid : Prop := edgeTurnsRow.holds Try.pinned (OpenSpec.ofChange edgeTurnsSpec)

/-- ITS FALSE NEIGHBOUR: 'it returns false'. Refute it at one input. -/
def edgeTurnsWrong : ChangeSpec := { name := "edgeTurns", fn := fun _ => fun
  | [d1, d2] => { results := [.lit (.bool false)], args := [d1, d2] }
  | _ => none }
def EdgeTurnsWrongFalsely : Prop := edgeTurnsRow.holds Try.pinned (OpenSpec.ofChange edgeTurnsWrong)

/-- 'burinlaw12.EdgeTexts': WHATEVER THE INPUT: true; the input reads as it did. -/
def edgeTextsSpec : ChangeSpec := { name := "edgeTexts", fn := fun _ => fun
  | [d] => { results := [.lit (.bool true)], args := [d] }
  | _ => none }
def edgeTextsRow : OpenClaim := { program := "ytkfkdinpmfldaaa", sum := "d02e488d49dda110fde13a0f5c8be7c042a9f40a6cd540466178318735eb891a", func := "burin/burinlaw12.EdgeTexts", spec := "edgeTexts", inPlace := ["internal/bytealg.IndexByteString"], apart := false }
def EdgeTextsSaid : Prop := edgeTextsRow.holds Try.pinned (OpenSpec.ofChange edgeTextsSpec)

/-- ITS FALSE NEIGHBOUR: 'it returns false'. Refute it at one input. -/
def edgeTextsWrong : ChangeSpec := { name := "edgeTexts", fn := fun _ => fun
  | [d] => { results := [.lit (.bool false)], args := [d] }
  | _ => none }
def EdgeTextsWrongFalsely : Prop := edgeTextsRow.holds Try.pinned (OpenSpec.ofChange edgeTextsWrong)

/-- 'burinlaw12.EdgeNear': WHATEVER THE INPUT: true; the input reads as it did. -/
def edgeNearSpec : ChangeSpec := { name := "edgeNear", fn := fun _ => fun
  | [d1, d2, d3] => { results := [.lit (.bool true)], args := [d1, d2, d3] }
  | _ => none }
def edgeNearRow : OpenClaim := { program := "ytkfkdinpmfldaaa", sum := "d02e488d49dda110fde13a0f5c8be7c042a9f40a6cd540466178318735eb891a", func := "burin/burinlaw12.EdgeNear", spec := "edgeNear", inPlace := ["internal/bytealg.IndexByteString"], apart := false }
def EdgeNearSaid : Prop := edgeNearRow.holds Try.pinned (OpenSpec.ofChange edgeNearSpec)

/-- ITS FALSE NEIGHBOUR: 'it returns false'. Refute it at one input. -/
def edgeNearWrong : ChangeSpec := { name := "edgeNear", fn := fun _ => fun
  | [d1, d2, d3] => { results := [.lit (.bool false)], args := [d1, d2, d3] }
  | _ => none }
def EdgeNearWrongFalsely : Prop := edgeNearRow.holds Try.pinned (OpenSpec.ofChange edgeNearWrong)

/- THE SECOND FORM. 'bulk': how many values and letters a reading holds, each counted each time it is reached (what is shared counts as often as it is met; a slice's spare places count too). A statement '..UptoSaid' is the law's where the arguments, and the package variables that the reading takes, are together of bulk at most 1048576: NARROWER than '..Said'. Prove '..Said' where nothing that the law and all that it calls make is longer than what came in: it says more and counts as full. Else prove '..UptoSaid'. A law counts once. -/
mutual
def uptoBulk {H : Type} : DataW H → Nat
  | .lit (.string bytes) => bytes.length + 1
  | .lit _ => 1
  | .nil => 1
  | .ptr d => uptoBulk d + 1
  | .slice elems spare => uptoBulkAll elems + uptoBulkAll spare + 1
  | .agg parts => uptoBulkAll parts + 1
  | .iface _ d => uptoBulk d + 1
  | .map entries => uptoBulkEntries entries + 1
  | .held _ => 1
def uptoBulkAll {H : Type} : List (DataW H) → Nat
  | [] => 0
  | d :: r => uptoBulk d + uptoBulkAll r
def uptoBulkEntries {H : Type} : List (Lit × DataW H) → Nat
  | [] => 0
  | x :: r => uptoBulkEntry x + uptoBulkEntries r
def uptoBulkEntry {H : Type} : Lit × DataW H → Nat
  | (.string bytes, d) => bytes.length + uptoBulk d + 1
  | (_, d) => uptoBulk d + 1
 end
def uptoSmall : (H : Type) → List (DataW H) → Bool := fun _ ds => decide (uptoBulkAll ds ≤ 1048576)
def OpenSpec.upto (s : _root_.Go.ChangeSpec) : _root_.Go.OpenSpec := { _root_.Go.OpenSpec.ofChange s with cond := some uptoSmall }

/-- 'burinlaw12.EdgeTells', WHERE WHAT IT READS IS OF BULK AT MOST 1048576: true; the input reads as it did. -/
def edgeTellsUptoRow : OpenClaim := { program := "ytkfkdinpmfldaaa", sum := "d02e488d49dda110fde13a0f5c8be7c042a9f40a6cd540466178318735eb891a", func := "burin/burinlaw12.EdgeTells", spec := "edgeTells", inPlace := ["internal/bytealg.IndexByteString"], apart := false, narrowed := true }
def EdgeTellsUptoSaid : Prop := edgeTellsUptoRow.holds Try.pinned (OpenSpec.upto edgeTellsSpec)

/-- 'burinlaw12.EdgeTurns', WHERE WHAT IT READS IS OF BULK AT MOST 1048576: true; the input reads as it did. -/
def edgeTurnsUptoRow : OpenClaim := { program := "ytkfkdinpmfldaaa", sum := "d02e488d49dda110fde13a0f5c8be7c042a9f40a6cd540466178318735eb891a", func := "burin/burinlaw12.EdgeTurns", spec := "edgeTurns", inPlace := ["internal/bytealg.IndexByteString"], apart := false, narrowed := true }
def EdgeTurnsUptoSaid : Prop := edgeTurnsUptoRow.holds Try.pinned (OpenSpec.upto edgeTurnsSpec)

/-- 'burinlaw12.EdgeTexts', WHERE WHAT IT READS IS OF BULK AT MOST 1048576: true; the input reads as it did. -/
def edgeTextsUptoRow : OpenClaim := { program := "ytkfkdinpmfldaaa", sum := "d02e488d49dda110fde13a0f5c8be7c042a9f40a6cd540466178318735eb891a", func := "burin/burinlaw12.EdgeTexts", spec := "edgeTexts", inPlace := ["internal/bytealg.IndexByteString"], apart := false, narrowed := true }
def EdgeTextsUptoSaid : Prop := edgeTextsUptoRow.holds Try.pinned (OpenSpec.upto edgeTextsSpec)

/-- 'burinlaw12.EdgeNear', WHERE WHAT IT READS IS OF BULK AT MOST 1048576: true; the input reads as it did. -/
def edgeNearUptoRow : OpenClaim := { program := "ytkfkdinpmfldaaa", sum := "d02e488d49dda110fde13a0f5c8be7c042a9f40a6cd540466178318735eb891a", func := "burin/burinlaw12.EdgeNear", spec := "edgeNear", inPlace := ["internal/bytealg.IndexByteString"], apart := false, narrowed := true }
def EdgeNearUptoSaid : Prop := edgeNearUptoRow.holds Try.pinned (OpenSpec.upto edgeNearSpec)

end Rows
end Go.Proofs.Ytkfkdinpmfldaaa
