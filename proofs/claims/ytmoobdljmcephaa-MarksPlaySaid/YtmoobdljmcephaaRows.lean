/-
  No cell of these rows narrows 'for every input' (looked for: loops, veiled, ifaces, maps, wideKeys, modest, calm, conditions, laid).
  DERIVED. THE GIVEN ROWS OF THIS SEAT. 4 by the template 'for every input the law returns true; each argument reads behind the call as it read before'; 0 by the template 'total and deterministic' (their statements: YtmoobdljmcephaaTotals.lean).
  GIVEN WITH THE SEED: the statements are not yours to turn. If you find one false, say at which input.
  Laid BY PROGRAM, IN A SANDBOX (cutbox-rows.mjs): the forced cells as the released guide's own fill.sh prints them over the translation c83a3f527dde4a7c… (all of the seat's roots in one cut). By AI agents, Wed Nov 11 2026. No macro, syntax, notation, axiom, sorry.
-/
import Derived.Test.YtmoobdljmcephaaChecked
import GoSem.Claim
import GoSem.ClaimJoined
import GoSem.ClaimMapViews
import Derived.JoinedTies
import Derived.KernelRfl
namespace Go.Proofs.Ytmoobdljmcephaa
/- THE CELL 'sum', in the pinned program and in every row, IS THE sha256 OF THE DUMP (.gsa) THAT YtmoobdljmcephaaProg.lean LOADS. Nothing in Lean hashes anything: it is a label: what it is worth is what the hold of that sum in a sandbox is worth. -/
noncomputable def Try.pinned : Pinned := { name := "ytmoobdljmcephaa", sum := "c83a3f527dde4a7c8068f019837183ddf9bf5b790688fa24934905919cbf078c", checked := Try.checked }
namespace Rows
def none {H : Type} : Left H := { results := [], args := [] }

/-- 'burinlaw20.MarksApart': WHATEVER THE INPUT: true; the input reads as it did. -/
def marksApartSpec : ChangeSpec := { name := "marksApart", fn := fun _ => fun
  | [d1, d2, d3] => { results := [.lit (.bool true)], args := [d1, d2, d3] }
  | _ => none }
def marksApartRow : OpenClaim := { program := "ytmoobdljmcephaa", sum := "c83a3f527dde4a7c8068f019837183ddf9bf5b790688fa24934905919cbf078c", func := "burin/burinlaw20.MarksApart", spec := "marksApart", apart := false }
def MarksApartSaid : Prop := marksApartRow.holds Try.pinned (OpenSpec.ofChange marksApartSpec)

/-- ITS FALSE NEIGHBOUR: 'it returns false'. Refute it at one input. -/
def marksApartWrong : ChangeSpec := { name := "marksApart", fn := fun _ => fun
  | [d1, d2, d3] => { results := [.lit (.bool false)], args := [d1, d2, d3] }
  | _ => none }
def MarksApartWrongFalsely : Prop := marksApartRow.holds Try.pinned (OpenSpec.ofChange marksApartWrong)

/-- 'burinlaw20.MarksRoom': WHATEVER THE INPUT: true; the input reads as it did. -/
def marksRoomSpec : ChangeSpec := { name := "marksRoom", fn := fun _ => fun
  | [d1, d2] => { results := [.lit (.bool true)], args := [d1, d2] }
  | _ => none }
def marksRoomRow : OpenClaim := { program := "ytmoobdljmcephaa", sum := "c83a3f527dde4a7c8068f019837183ddf9bf5b790688fa24934905919cbf078c", func := "burin/burinlaw20.MarksRoom", spec := "marksRoom", apart := false }
def MarksRoomSaid : Prop := marksRoomRow.holds Try.pinned (OpenSpec.ofChange marksRoomSpec)

/-- ITS FALSE NEIGHBOUR: 'it returns false'. Refute it at one input. -/
def marksRoomWrong : ChangeSpec := { name := "marksRoom", fn := fun _ => fun
  | [d1, d2] => { results := [.lit (.bool false)], args := [d1, d2] }
  | _ => none }
def MarksRoomWrongFalsely : Prop := marksRoomRow.holds Try.pinned (OpenSpec.ofChange marksRoomWrong)

/-- 'burinlaw20.MarksPlay': WHATEVER THE INPUT: true; the input reads as it did. -/
def marksPlaySpec : ChangeSpec := { name := "marksPlay", fn := fun _ => fun
  | [d1, d2, d3] => { results := [.lit (.bool true)], args := [d1, d2, d3] }
  | _ => none }
def marksPlayRow : OpenClaim := { program := "ytmoobdljmcephaa", sum := "c83a3f527dde4a7c8068f019837183ddf9bf5b790688fa24934905919cbf078c", func := "burin/burinlaw20.MarksPlay", spec := "marksPlay", apart := false }
def MarksPlaySaid : Prop := marksPlayRow.holds Try.pinned (OpenSpec.ofChange marksPlaySpec)

/-- ITS FALSE NEIGHBOUR: 'it returns false'. Refute it at one input. -/
def marksPlayWrong : ChangeSpec := { name := "marksPlay", fn := fun _ => fun
  | [d1, d2, d3] => { results := [.lit (.bool false)], args := [d1, d2, d3] }
  | _ => none }
def MarksPlayWrongFalsely : Prop := marksPlayRow.holds Try.pinned (OpenSpec.ofChange marksPlayWrong)

/-- 'burinlaw20.MarksOnce': WHATEVER THE INPUT: true; the input reads as it did. -/
def marksOnceSpec : ChangeSpec := { name := "marksOnce", fn := fun _ => fun
  | [d1, d2] => { results := [.lit (.bool true)], args := [d1, d2] }
  | _ => none }
def marksOnceRow : OpenClaim := { program := "ytmoobdljmcephaa", sum := "c83a3f527dde4a7c8068f019837183ddf9bf5b790688fa24934905919cbf078c", func := "burin/burinlaw20.MarksOnce", spec := "marksOnce", apart := false }
def MarksOnceSaid : Prop := marksOnceRow.holds Try.pinned (OpenSpec.ofChange marksOnceSpec)

/-- ITS FALSE NEIGHBOUR: 'it returns false'. Refute it at one input. -/
def marksOnceWrong : ChangeSpec := { name := "marksOnce", fn := fun _ => fun
  | [d1, d2] => { results := [.lit (.bool false)], args := [d1, d2] }
  | _ => none }
def MarksOnceWrongFalsely : Prop := marksOnceRow.holds Try.pinned (OpenSpec.ofChange marksOnceWrong)

/- THE SECOND FORM. 'bulk': how many values and letters a reading holds, each counted each time it is reached (what is shared counts as often as it is met; a slice's spare places count too). A statement '..UptoSaid' is the law's where the arguments, and the package variables that the reading takes, are together of bulk at most 1048576: NARROWER than '..Said'. Prove '..Said' where nothing that the law and all that it calls make is longer than what came in: it says more and counts as full. Else prove '..UptoSaid'. A law counts once. -/
mutual
def uptoBulk {H : Type} : DataW H → Nat
  | .lit (.string bytes) => bytes.length + 1
  | .lit _ => 1
  | .nil => 1
  | .ptr d => uptoBulk d + 1
  | .slice elems spare => uptoBulkAll elems + uptoBulkAll spare + 1
  | .agg parts => uptoBulkAll parts + 1
  | .iface _ d => uptoBulk d + 1
  | .map entries => uptoBulkEntries entries + 1
  | .held _ => 1
def uptoBulkAll {H : Type} : List (DataW H) → Nat
  | [] => 0
  | d :: r => uptoBulk d + uptoBulkAll r
def uptoBulkEntries {H : Type} : List (Lit × DataW H) → Nat
  | [] => 0
  | x :: r => uptoBulkEntry x + uptoBulkEntries r
def uptoBulkEntry {H : Type} : Lit × DataW H → Nat
  | (.string bytes, d) => bytes.length + uptoBulk d + 1
  | (_, d) => uptoBulk d + 1
 end
def uptoSmall : (H : Type) → List (DataW H) → Bool := fun _ ds => decide (uptoBulkAll ds ≤ 1048576)
def OpenSpec.upto (s : _root_.Go.ChangeSpec) : _root_.Go.OpenSpec := { _root_.Go.OpenSpec.ofChange s with cond := some uptoSmall }

/-- 'burinlaw20.MarksApart', WHERE WHAT IT READS IS OF BULK AT MOST 1048576: true; the input reads as it did. -/
def marksApartUptoRow : OpenClaim := { program := "ytmoobdljmcephaa", sum := "c83a3f527dde4a7c8068f019837183ddf9bf5b790688fa24934905919cbf078c", func := "burin/burinlaw20.MarksApart", spec := "marksApart", apart := false, narrowed := true }
def MarksApartUptoSaid : Prop := marksApartUptoRow.holds Try.pinned (OpenSpec.upto marksApartSpec)

/-- 'burinlaw20.MarksRoom', WHERE WHAT IT READS IS OF BULK AT MOST 1048576: true; the input reads as it did. -/
def marksRoomUptoRow : OpenClaim := { program := "ytmoobdljmcephaa", sum := "c83a3f527dde4a7c8068f019837183ddf9bf5b790688fa24934905919cbf078c", func := "burin/burinlaw20.MarksRoom", spec := "marksRoom", apart := false, narrowed := true }
def MarksRoomUptoSaid : Prop := marksRoomUptoRow.holds Try.pinned (OpenSpec.upto marksRoomSpec)

/-- 'burinlaw20.MarksPlay', WHERE WHAT IT READS IS OF BULK AT MOST 1048576: true; the input reads as it did. -/
def marksPlayUptoRow : OpenClaim := { program := "ytmoobdljmcephaa", sum := "c83a3f527dde4a7c8068f019837183ddf9bf5b790688fa24934905919cbf078c", func := "burin/burinlaw20.MarksPlay", spec := "marksPlay", apart := false, narrowed := true }
def MarksPlayUptoSaid : Prop := marksPlayUptoRow.holds Try.pinned (OpenSpec.upto marksPlaySpec)

/-- 'burinlaw20.MarksOnce', WHERE WHAT IT READS IS OF BULK AT MOST 1048576: true; the input reads as it did. -/
def marksOnceUptoRow : OpenClaim := { program := "ytmoobdljmcephaa", sum := "c83a3f527dde4a7c8068f019837183ddf9bf5b790688fa24934905919cbf078c", func := "burin/burinlaw20.MarksOnce", spec := "marksOnce", apart := false, narrowed := true }
def MarksOnceUptoSaid : Prop := marksOnceUptoRow.holds Try.pinned (OpenSpec.upto marksOnceSpec)

end Rows
end Go.Proofs.Ytmoobdljmcephaa
