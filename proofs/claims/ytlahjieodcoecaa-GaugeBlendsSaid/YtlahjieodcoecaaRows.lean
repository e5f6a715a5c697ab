/-
  No cell of these rows narrows 'for every input' (looked for: loops, veiled, ifaces, maps, wideKeys, modest, calm, conditions, laid).
  DERIVED. THE GIVEN ROWS OF THIS SEAT. 6 by the template 'for every input the law returns true; each argument reads behind the call as it read before'; 0 by the template 'total and deterministic' (their statements: YtlahjieodcoecaaTotals.lean).
  GIVEN WITH THE SEED: the statements are not yours to turn. If you find one false, say at which input.
  Laid BY PROGRAM, IN A SANDBOX (cutbox-rows.mjs): the forced cells as the released guide's own fill.sh prints them over the translation eb3611139fe416fb… (all of the seat's roots in one cut). By AI agents, Wed Nov 11 2026. No macro, syntax, notation, axiom, sorry.
-/
import Derived.Test.YtlahjieodcoecaaChecked
import GoSem.Claim
import GoSem.ClaimJoined
import GoSem.ClaimMapViews
import Derived.JoinedTies
import Derived.KernelRfl
namespace Go.Proofs.Ytlahjieodcoecaa
/- THE CELL 'sum', in the pinned program and in every row, IS THE sha256 OF THE DUMP (.gsa) THAT YtlahjieodcoecaaProg.lean LOADS. Nothing in Lean hashes anything: it is a label: what it is worth is what the hold of that sum in a sandbox is worth. -/
noncomputable def Try.pinned : Pinned := { name := "ytlahjieodcoecaa", sum := "eb3611139fe416fbcaa941d4b6e10a7d66f7e4699ac79c0b8278369b6a9ae785", checked := Try.checked }
namespace Rows
def none {H : Type} : Left H := { results := [], args := [] }

/-- 'burinlaw32.GaugeChooses': WHATEVER THE INPUT: true; the input reads as it did. -/
def gaugeChoosesSpec : ChangeSpec := { name := "gaugeChooses", fn := fun _ => fun
  | [d1, d2] => { results := [.lit (.bool true)], args := [d1, d2] }
  | _ => none }
def gaugeChoosesRow : OpenClaim := { program := "ytlahjieodcoecaa", sum := "eb3611139fe416fbcaa941d4b6e10a7d66f7e4699ac79c0b8278369b6a9ae785", func := "burin/burinlaw32.GaugeChooses", spec := "gaugeChooses", inPlace := ["math.Float64bits", "math.Float64frombits"], apart := false }
def GaugeChoosesSaid : Prop := gaugeChoosesRow.holds Try.pinned (OpenSpec.ofChange gaugeChoosesSpec)

/-- ITS FALSE NEIGHBOUR: 'it returns false'. Refute it at one input. -/
def gaugeChoosesWrong : ChangeSpec := { name := "gaugeChooses", fn := fun _ => fun
  | [d1, d2] => { results := [.lit (.bool false)], args := [d1, d2] }
  | _ => none }
def GaugeChoosesWrongFalsely : Prop := gaugeChoosesRow.holds Try.pinned (OpenSpec.ofChange gaugeChoosesWrong)

/-- 'burinlaw32.GaugeTotal': WHATEVER THE INPUT: true; the input reads as it did. -/
def gaugeTotalSpec : ChangeSpec := { name := "gaugeTotal", fn := fun _ => fun
  | [d1, d2, d3] => { results := [.lit (.bool true)], args := [d1, d2, d3] }
  | _ => none }
def gaugeTotalRow : OpenClaim := { program := "ytlahjieodcoecaa", sum := "eb3611139fe416fbcaa941d4b6e10a7d66f7e4699ac79c0b8278369b6a9ae785", func := "burin/burinlaw32.GaugeTotal", spec := "gaugeTotal", inPlace := ["math.Float64bits", "math.Float64frombits"], apart := false }
def GaugeTotalSaid : Prop := gaugeTotalRow.holds Try.pinned (OpenSpec.ofChange gaugeTotalSpec)

/-- ITS FALSE NEIGHBOUR: 'it returns false'. Refute it at one input. -/
def gaugeTotalWrong : ChangeSpec := { name := "gaugeTotal", fn := fun _ => fun
  | [d1, d2, d3] => { results := [.lit (.bool false)], args := [d1, d2, d3] }
  | _ => none }
def GaugeTotalWrongFalsely : Prop := gaugeTotalRow.holds Try.pinned (OpenSpec.ofChange gaugeTotalWrong)

/-- 'burinlaw32.GaugeLeast': WHATEVER THE INPUT: true; the input reads as it did. -/
def gaugeLeastSpec : ChangeSpec := { name := "gaugeLeast", fn := fun _ => fun
  | [d] => { results := [.lit (.bool true)], args := [d] }
  | _ => none }
def gaugeLeastRow : OpenClaim := { program := "ytlahjieodcoecaa", sum := "eb3611139fe416fbcaa941d4b6e10a7d66f7e4699ac79c0b8278369b6a9ae785", func := "burin/burinlaw32.GaugeLeast", spec := "gaugeLeast", inPlace := ["math.Float64bits", "math.Float64frombits"], apart := false }
def GaugeLeastSaid : Prop := gaugeLeastRow.holds Try.pinned (OpenSpec.ofChange gaugeLeastSpec)

/-- ITS FALSE NEIGHBOUR: 'it returns false'. Refute it at one input. -/
def gaugeLeastWrong : ChangeSpec := { name := "gaugeLeast", fn := fun _ => fun
  | [d] => { results := [.lit (.bool false)], args := [d] }
  | _ => none }
def GaugeLeastWrongFalsely : Prop := gaugeLeastRow.holds Try.pinned (OpenSpec.ofChange gaugeLeastWrong)

/-- 'burinlaw32.GaugeEngines': WHATEVER THE INPUT: true; the input reads as it did. -/
def gaugeEnginesSpec : ChangeSpec := { name := "gaugeEngines", fn := fun _ => fun
  | [d] => { results := [.lit (.bool true)], args := [d] }
  | _ => none }
def gaugeEnginesRow : OpenClaim := { program := "ytlahjieodcoecaa", sum := "eb3611139fe416fbcaa941d4b6e10a7d66f7e4699ac79c0b8278369b6a9ae785", func := "burin/burinlaw32.GaugeEngines", spec := "gaugeEngines", inPlace := ["math.Float64bits", "math.Float64frombits"], apart := false }
def GaugeEnginesSaid : Prop := gaugeEnginesRow.holds Try.pinned (OpenSpec.ofChange gaugeEnginesSpec)

/-- ITS FALSE NEIGHBOUR: 'it returns false'. Refute it at one input. -/
def gaugeEnginesWrong : ChangeSpec := { name := "gaugeEngines", fn := fun _ => fun
  | [d] => { results := [.lit (.bool false)], args := [d] }
  | _ => none }
def GaugeEnginesWrongFalsely : Prop := gaugeEnginesRow.holds Try.pinned (OpenSpec.ofChange gaugeEnginesWrong)

/-- 'burinlaw32.GaugeOrders': WHATEVER THE INPUT: true; the input reads as it did. -/
def gaugeOrdersSpec : ChangeSpec := { name := "gaugeOrders", fn := fun _ => fun
  | [d1, d2, d3] => { results := [.lit (.bool true)], args := [d1, d2, d3] }
  | _ => none }
def gaugeOrdersRow : OpenClaim := { program := "ytlahjieodcoecaa", sum := "eb3611139fe416fbcaa941d4b6e10a7d66f7e4699ac79c0b8278369b6a9ae785", func := "burin/burinlaw32.GaugeOrders", spec := "gaugeOrders", inPlace := ["math.Float64bits", "math.Float64frombits"], apart := false }
def GaugeOrdersSaid : Prop := gaugeOrdersRow.holds Try.pinned (OpenSpec.ofChange gaugeOrdersSpec)

/-- ITS FALSE NEIGHBOUR: 'it returns false'. Refute it at one input. -/
def gaugeOrdersWrong : ChangeSpec := { name := "gaugeOrders", fn := fun _ => fun
  | [d1, d2, d3] => { results := [.lit (.bool false)], args := [d1, d2, d3] }
  | _ => none }
def GaugeOrdersWrongFalsely : Prop := gaugeOrdersRow.holds Try.pinned (OpenSpec.ofChange gaugeOrdersWrong)

/-- 'burinlaw32.GaugeBlends': WHATEVER THE INPUT: true; the input reads as it did. -/
def gaugeBlendsSpec : ChangeSpec := { name := "gaugeBlends", fn := fun _ => fun
  | [d1, d2] => { results := [.lit (.bool true)], args := [d1, d2] }
  | _ => none }
def gaugeBlendsRow : OpenClaim := { program := "ytlahjieodcoecaa", sum := "eb3611139fe416fbcaa941d4b6e10a7d66f7e4699ac79c0b8278369b6a9ae785", func := "burin/burinlaw32.GaugeBlends", spec := "gaugeBlends", inPlace := ["math.Float64bits", "math.Float64frombits"], apart := false }
def GaugeBlendsSaid : Prop := gaugeBlendsRow.holds Try.pinned (OpenSpec.ofChange gaugeBlendsSpec)

/-- ITS FALSE NEIGHBOUR: 'it returns false'. Refute it at one input. -/
def gaugeBlendsWrong : ChangeSpec := { name := "gaugeBlends", fn := fun _ => fun
  | [d1, d2] => { results := [.lit (.bool false)], args := [d1, d2] }
  | _ => none }
def GaugeBlendsWrongFalsely : Prop := gaugeBlendsRow.holds Try.pinned (OpenSpec.ofChange gaugeBlendsWrong)

/- THE SECOND FORM. 'bulk': how many values and letters a reading holds, each counted each time it is reached (what is shared counts as often as it is met; a slice's spare places count too). A statement '..UptoSaid' is the law's where the arguments, and the package variables that the reading takes, are together of bulk at most 1048576: NARROWER than '..Said'. Prove '..Said' where nothing that the law and all that it calls make is longer than what came in: it says more and counts as full. Else prove '..UptoSaid'. A law counts once. -/
mutual
def uptoBulk {H : Type} : DataW H → Nat
  | .lit (.string bytes) => bytes.length + 1
  | .lit _ => 1
  | .nil => 1
  | .ptr d => uptoBulk d + 1
  | .slice elems spare => uptoBulkAll elems + uptoBulkAll spare + 1
  | .agg parts => uptoBulkAll parts + 1
  | .iface _ d => uptoBulk d + 1
  | .map entries => uptoBulkEntries entries + 1
  | .held _ => 1
def uptoBulkAll {H : Type} : List (DataW H) → Nat
  | [] => 0
  | d :: r => uptoBulk d + uptoBulkAll r
def uptoBulkEntries {H : Type} : List (Lit × DataW H) → Nat
  | [] => 0
  | x :: r => uptoBulkEntry x + uptoBulkEntries r
def uptoBulkEntry {H : Type} : Lit × DataW H → Nat
  | (.string bytes, d) => bytes.length + uptoBulk d + 1
  | (_, d) => uptoBulk d + 1
 end
def uptoSmall : (H : Type) → List (DataW H) → Bool := fun _ ds => decide (uptoBulkAll ds ≤ 1048576)
def OpenSpec.upto (s : _root_.Go.ChangeSpec) : _root_.Go.OpenSpec := { _root_.Go.OpenSpec.ofChange s with cond := some uptoSmall }

/-- 'burinlaw32.GaugeChooses', WHERE WHAT IT READS IS OF BULK AT MOST 1048576: true; the input reads as it did. -/
def gaugeChoosesUptoRow : OpenClaim := { program := "ytlahjieodcoecaa", sum := "eb3611139fe416fbcaa941d4b6e10a7d66f7e4699ac79c0b8278369b6a9ae785", func := "burin/burinlaw32.GaugeChooses", spec := "gaugeChooses", inPlace := ["math.Float64bits", "math.Float64frombits"], apart := false, narrowed := true }
def GaugeChoosesUptoSaid : Prop := gaugeChoosesUptoRow.holds Try.pinned (OpenSpec.upto gaugeChoosesSpec)

/-- 'burinlaw32.GaugeTotal', WHERE WHAT IT READS IS OF BULK AT MOST 1048576: true; the input reads as it did. -/
def gaugeTotalUptoRow : OpenClaim := { program := "ytlahjieodcoecaa", sum := "eb3611139fe416fbcaa941d4b6e10a7d66f7e4699ac79c0b8278369b6a9ae785", func := "burin/burinlaw32.GaugeTotal", spec := "gaugeTotal", inPlace := ["math.Float64bits", "math.Float64frombits"], apart := false, narrowed := true }
def GaugeTotalUptoSaid : Prop := gaugeTotalUptoRow.holds Try.pinned (OpenSpec.upto gaugeTotalSpec)

/-- 'burinlaw32.GaugeLeast', WHERE WHAT IT READS IS OF BULK AT MOST 1048576: true; the input reads as it did. -/
def gaugeLeastUptoRow : OpenClaim := { program := "ytlahjieodcoecaa", sum := "eb3611139fe416fbcaa941d4b6e10a7d66f7e4699ac79c0b8278369b6a9ae785", func := "burin/burinlaw32.GaugeLeast", spec := "gaugeLeast", inPlace := ["math.Float64bits", "math.Float64frombits"], apart := false, narrowed := true }
def GaugeLeastUptoSaid : Prop := gaugeLeastUptoRow.holds Try.pinned (OpenSpec.upto gaugeLeastSpec)

/-- 'burinlaw32.GaugeEngines', WHERE WHAT IT READS IS OF BULK AT MOST 1048576: true; the input reads as it did. -/
def gaugeEnginesUptoRow : OpenClaim := { program := "ytlahjieodcoecaa", sum := "eb3611139fe416fbcaa941d4b6e10a7d66f7e4699ac79c0b8278369b6a9ae785", func := "burin/burinlaw32.GaugeEngines", spec := "gaugeEngines", inPlace := ["math.Float64bits", "math.Float64frombits"], apart := false, narrowed := true }
def GaugeEnginesUptoSaid : Prop := gaugeEnginesUptoRow.holds Try.pinned (OpenSpec.upto gaugeEnginesSpec)

/-- 'burinlaw32.GaugeOrders', WHERE WHAT IT READS IS OF BULK AT MOST 1048576: true; the input reads as it did. -/
def gaugeOrdersUptoRow : OpenClaim := { program := "ytlahjieodcoecaa", sum := "eb3611139fe416fbcaa941d4b6e10a7d66f7e4699ac79c0b8278369b6a9ae785", func := "burin/burinlaw32.GaugeOrders", spec := "gaugeOrders", inPlace := ["math.Float64bits", "math.Float64frombits"], apart := false, narrowed := true }
def GaugeOrdersUptoSaid : Prop := gaugeOrdersUptoRow.holds Try.pinned (OpenSpec.upto gaugeOrdersSpec)

/-- 'burinlaw32.GaugeBlends', WHERE WHAT IT READS IS OF BULK AT MOST 1048576: true; the input reads as it did. -/
def gaugeBlendsUptoRow : OpenClaim := { program := "ytlahjieodcoecaa", sum := "eb3611139fe416fbcaa941d4b6e10a7d66f7e4699ac79c0b8278369b6a9ae785", func := "burin/burinlaw32.GaugeBlends", spec := "gaugeBlends", inPlace := ["math.Float64bits", "math.Float64frombits"], apart := false, narrowed := true }
def GaugeBlendsUptoSaid : Prop := gaugeBlendsUptoRow.holds Try.pinned (OpenSpec.upto gaugeBlendsSpec)

end Rows
end Go.Proofs.Ytlahjieodcoecaa
