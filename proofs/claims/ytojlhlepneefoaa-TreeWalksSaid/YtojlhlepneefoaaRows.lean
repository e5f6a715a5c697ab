/-
  NARROWER THAN 'FOR EVERY INPUT', by the rows' own cells (each row's printed sentence says how): SemParts: loops · SemCores: loops · TreeChecks: loops · TreeTells: loops · TreeParts: loops · TreeWalks: loops · NormChecks: loops · NormAgain: loops · NormCores: loops · SemEnds: loops · SemMatches: loops · SemLongest: loops.
  DERIVED. THE GIVEN ROWS OF THIS SEAT. 15 by the template 'for every input the law returns true; each argument reads behind the call as it read before'; 0 by the template 'total and deterministic' (their statements: YtojlhlepneefoaaTotals.lean).
  GIVEN WITH THE SEED: the statements are not yours to turn. If you find one false, say at which input.
  Laid BY PROGRAM, IN A SANDBOX (cutbox-rows.mjs): the forced cells as the released guide's own fill.sh prints them over the translation bb246e44712e90bd… (all of the seat's roots in one cut). By AI agents, Wed Nov 11 2026. No macro, syntax, notation, axiom, sorry.
-/
import Derived.Test.YtojlhlepneefoaaChecked
import GoSem.Claim
import GoSem.ClaimJoined
import GoSem.ClaimMapViews
import Derived.JoinedTies
import Derived.KernelRfl
namespace Go.Proofs.Ytojlhlepneefoaa
/- THE CELL 'sum', in the pinned program and in every row, IS THE sha256 OF THE DUMP (.gsa) THAT YtojlhlepneefoaaProg.lean LOADS. Nothing in Lean hashes anything: it is a label: what it is worth is what the hold of that sum in a sandbox is worth. -/
noncomputable def Try.pinned : Pinned := { name := "ytojlhlepneefoaa", sum := "bb246e44712e90bdbde14ac5ddb2c4367d1b0b20afd6237ca9dea70aabbe0514", checked := Try.checked }
namespace Rows
def none {H : Type} : Left H := { results := [], args := [] }

/-- 'burinlaw13.SemParts': WHATEVER THE INPUT: true; the input reads as it did. -/
def semPartsSpec : ChangeSpec := { name := "semParts", fn := fun _ => fun
  | [d1, d2, d3] => { results := [.lit (.bool true)], args := [d1, d2, d3] }
  | _ => none }
def semPartsRow : OpenClaim := { program := "ytojlhlepneefoaa", sum := "bb246e44712e90bdbde14ac5ddb2c4367d1b0b20afd6237ca9dea70aabbe0514", func := "burin/burinlaw13.SemParts", spec := "semParts", inPlace := ["internal/bytealg.IndexByteString"], unfollowed := true, recurses := true, loops := true, plainKeys := false, apart := false }
def SemPartsSaid : Prop := semPartsRow.holds Try.pinned (OpenSpec.ofChange semPartsSpec)

/-- ITS FALSE NEIGHBOUR: 'it returns false'. Refute it at one input. -/
def semPartsWrong : ChangeSpec := { name := "semParts", fn := fun _ => fun
  | [d1, d2, d3] => { results := [.lit (.bool false)], args := [d1, d2, d3] }
  | _ => none }
def SemPartsWrongFalsely : Prop := semPartsRow.holds Try.pinned (OpenSpec.ofChange semPartsWrong)

/-- 'burinlaw13.SemCores': WHATEVER THE INPUT: true; the input reads as it did. -/
def semCoresSpec : ChangeSpec := { name := "semCores", fn := fun _ => fun
  | [d1, d2] => { results := [.lit (.bool true)], args := [d1, d2] }
  | _ => none }
def semCoresRow : OpenClaim := { program := "ytojlhlepneefoaa", sum := "bb246e44712e90bdbde14ac5ddb2c4367d1b0b20afd6237ca9dea70aabbe0514", func := "burin/burinlaw13.SemCores", spec := "semCores", inPlace := ["internal/bytealg.IndexByteString"], unfollowed := true, recurses := true, loops := true, plainKeys := false, apart := false }
def SemCoresSaid : Prop := semCoresRow.holds Try.pinned (OpenSpec.ofChange semCoresSpec)

/-- ITS FALSE NEIGHBOUR: 'it returns false'. Refute it at one input. -/
def semCoresWrong : ChangeSpec := { name := "semCores", fn := fun _ => fun
  | [d1, d2] => { results := [.lit (.bool false)], args := [d1, d2] }
  | _ => none }
def SemCoresWrongFalsely : Prop := semCoresRow.holds Try.pinned (OpenSpec.ofChange semCoresWrong)

/-- 'burinlaw06.TreeChecks': WHATEVER THE INPUT: true; the input reads as it did. -/
def treeChecksSpec : ChangeSpec := { name := "treeChecks", fn := fun _ => fun
  | [d1, d2] => { results := [.lit (.bool true)], args := [d1, d2] }
  | _ => none }
def treeChecksRow : OpenClaim := { program := "ytojlhlepneefoaa", sum := "bb246e44712e90bdbde14ac5ddb2c4367d1b0b20afd6237ca9dea70aabbe0514", func := "burin/burinlaw06.TreeChecks", spec := "treeChecks", unfollowed := true, recurses := true, loops := true, plainKeys := false, apart := false }
def TreeChecksSaid : Prop := treeChecksRow.holds Try.pinned (OpenSpec.ofChange treeChecksSpec)

/-- ITS FALSE NEIGHBOUR: 'it returns false'. Refute it at one input. -/
def treeChecksWrong : ChangeSpec := { name := "treeChecks", fn := fun _ => fun
  | [d1, d2] => { results := [.lit (.bool false)], args := [d1, d2] }
  | _ => none }
def TreeChecksWrongFalsely : Prop := treeChecksRow.holds Try.pinned (OpenSpec.ofChange treeChecksWrong)

/-- 'burinlaw06.TreeDeep': WHATEVER THE INPUT: true; the input reads as it did. -/
def treeDeepSpec : ChangeSpec := { name := "treeDeep", fn := fun _ => fun
  | [d] => { results := [.lit (.bool true)], args := [d] }
  | _ => none }
def treeDeepRow : OpenClaim := { program := "ytojlhlepneefoaa", sum := "bb246e44712e90bdbde14ac5ddb2c4367d1b0b20afd6237ca9dea70aabbe0514", func := "burin/burinlaw06.TreeDeep", spec := "treeDeep", unfollowed := true, recurses := true, plainKeys := false, apart := false }
def TreeDeepSaid : Prop := treeDeepRow.holds Try.pinned (OpenSpec.ofChange treeDeepSpec)

/-- ITS FALSE NEIGHBOUR: 'it returns false'. Refute it at one input. -/
def treeDeepWrong : ChangeSpec := { name := "treeDeep", fn := fun _ => fun
  | [d] => { results := [.lit (.bool false)], args := [d] }
  | _ => none }
def TreeDeepWrongFalsely : Prop := treeDeepRow.holds Try.pinned (OpenSpec.ofChange treeDeepWrong)

/-- 'burinlaw06.TreeTells': WHATEVER THE INPUT: true; the input reads as it did. -/
def treeTellsSpec : ChangeSpec := { name := "treeTells", fn := fun _ => fun
  | [d] => { results := [.lit (.bool true)], args := [d] }
  | _ => none }
def treeTellsRow : OpenClaim := { program := "ytojlhlepneefoaa", sum := "bb246e44712e90bdbde14ac5ddb2c4367d1b0b20afd6237ca9dea70aabbe0514", func := "burin/burinlaw06.TreeTells", spec := "treeTells", unfollowed := true, recurses := true, loops := true, plainKeys := false, apart := false }
def TreeTellsSaid : Prop := treeTellsRow.holds Try.pinned (OpenSpec.ofChange treeTellsSpec)

/-- ITS FALSE NEIGHBOUR: 'it returns false'. Refute it at one input. -/
def treeTellsWrong : ChangeSpec := { name := "treeTells", fn := fun _ => fun
  | [d] => { results := [.lit (.bool false)], args := [d] }
  | _ => none }
def TreeTellsWrongFalsely : Prop := treeTellsRow.holds Try.pinned (OpenSpec.ofChange treeTellsWrong)

/-- 'burinlaw06.TreeParts': WHATEVER THE INPUT: true; the input reads as it did. -/
def treePartsSpec : ChangeSpec := { name := "treeParts", fn := fun _ => fun
  | [d] => { results := [.lit (.bool true)], args := [d] }
  | _ => none }
def treePartsRow : OpenClaim := { program := "ytojlhlepneefoaa", sum := "bb246e44712e90bdbde14ac5ddb2c4367d1b0b20afd6237ca9dea70aabbe0514", func := "burin/burinlaw06.TreeParts", spec := "treeParts", unfollowed := true, recurses := true, loops := true, plainKeys := false, apart := false }
def TreePartsSaid : Prop := treePartsRow.holds Try.pinned (OpenSpec.ofChange treePartsSpec)

/-- ITS FALSE NEIGHBOUR: 'it returns false'. Refute it at one input. -/
def treePartsWrong : ChangeSpec := { name := "treeParts", fn := fun _ => fun
  | [d] => { results := [.lit (.bool false)], args := [d] }
  | _ => none }
def TreePartsWrongFalsely : Prop := treePartsRow.holds Try.pinned (OpenSpec.ofChange treePartsWrong)

/-- 'burinlaw06.TreeGroups': WHATEVER THE INPUT: true; the input reads as it did. -/
def treeGroupsSpec : ChangeSpec := { name := "treeGroups", fn := fun _ => fun
  | [d1, d2] => { results := [.lit (.bool true)], args := [d1, d2] }
  | _ => none }
def treeGroupsRow : OpenClaim := { program := "ytojlhlepneefoaa", sum := "bb246e44712e90bdbde14ac5ddb2c4367d1b0b20afd6237ca9dea70aabbe0514", func := "burin/burinlaw06.TreeGroups", spec := "treeGroups", unfollowed := true, recurses := true, plainKeys := false, apart := false }
def TreeGroupsSaid : Prop := treeGroupsRow.holds Try.pinned (OpenSpec.ofChange treeGroupsSpec)

/-- ITS FALSE NEIGHBOUR: 'it returns false'. Refute it at one input. -/
def treeGroupsWrong : ChangeSpec := { name := "treeGroups", fn := fun _ => fun
  | [d1, d2] => { results := [.lit (.bool false)], args := [d1, d2] }
  | _ => none }
def TreeGroupsWrongFalsely : Prop := treeGroupsRow.holds Try.pinned (OpenSpec.ofChange treeGroupsWrong)

/-- 'burinlaw06.TreeWalks': WHATEVER THE INPUT: true; the input reads as it did. -/
def treeWalksSpec : ChangeSpec := { name := "treeWalks", fn := fun _ => fun
  | [d1, d2, d3] => { results := [.lit (.bool true)], args := [d1, d2, d3] }
  | _ => none }
def treeWalksRow : OpenClaim := { program := "ytojlhlepneefoaa", sum := "bb246e44712e90bdbde14ac5ddb2c4367d1b0b20afd6237ca9dea70aabbe0514", func := "burin/burinlaw06.TreeWalks", spec := "treeWalks", unfollowed := true, recurses := true, loops := true, plainKeys := false, apart := false }
def TreeWalksSaid : Prop := treeWalksRow.holds Try.pinned (OpenSpec.ofChange treeWalksSpec)

/-- ITS FALSE NEIGHBOUR: 'it returns false'. Refute it at one input. -/
def treeWalksWrong : ChangeSpec := { name := "treeWalks", fn := fun _ => fun
  | [d1, d2, d3] => { results := [.lit (.bool false)], args := [d1, d2, d3] }
  | _ => none }
def TreeWalksWrongFalsely : Prop := treeWalksRow.holds Try.pinned (OpenSpec.ofChange treeWalksWrong)

/-- 'burinlaw11.NormChecks': WHATEVER THE INPUT: true; the input reads as it did. -/
def normChecksSpec : ChangeSpec := { name := "normChecks", fn := fun _ => fun
  | [d] => { results := [.lit (.bool true)], args := [d] }
  | _ => none }
def normChecksRow : OpenClaim := { program := "ytojlhlepneefoaa", sum := "bb246e44712e90bdbde14ac5ddb2c4367d1b0b20afd6237ca9dea70aabbe0514", func := "burin/burinlaw11.NormChecks", spec := "normChecks", unfollowed := true, recurses := true, loops := true, plainKeys := false, apart := false }
def NormChecksSaid : Prop := normChecksRow.holds Try.pinned (OpenSpec.ofChange normChecksSpec)

/-- ITS FALSE NEIGHBOUR: 'it returns false'. Refute it at one input. -/
def normChecksWrong : ChangeSpec := { name := "normChecks", fn := fun _ => fun
  | [d] => { results := [.lit (.bool false)], args := [d] }
  | _ => none }
def NormChecksWrongFalsely : Prop := normChecksRow.holds Try.pinned (OpenSpec.ofChange normChecksWrong)

/-- 'burinlaw11.NormAgain': WHATEVER THE INPUT: true; the input reads as it did. -/
def normAgainSpec : ChangeSpec := { name := "normAgain", fn := fun _ => fun
  | [d] => { results := [.lit (.bool true)], args := [d] }
  | _ => none }
def normAgainRow : OpenClaim := { program := "ytojlhlepneefoaa", sum := "bb246e44712e90bdbde14ac5ddb2c4367d1b0b20afd6237ca9dea70aabbe0514", func := "burin/burinlaw11.NormAgain", spec := "normAgain", unfollowed := true, recurses := true, loops := true, plainKeys := false, apart := false }
def NormAgainSaid : Prop := normAgainRow.holds Try.pinned (OpenSpec.ofChange normAgainSpec)

/-- ITS FALSE NEIGHBOUR: 'it returns false'. Refute it at one input. -/
def normAgainWrong : ChangeSpec := { name := "normAgain", fn := fun _ => fun
  | [d] => { results := [.lit (.bool false)], args := [d] }
  | _ => none }
def NormAgainWrongFalsely : Prop := normAgainRow.holds Try.pinned (OpenSpec.ofChange normAgainWrong)

/-- 'burinlaw11.NormCounts': WHATEVER THE INPUT: true; the input reads as it did. -/
def normCountsSpec : ChangeSpec := { name := "normCounts", fn := fun _ => fun
  | [d1, d2, d3] => { results := [.lit (.bool true)], args := [d1, d2, d3] }
  | _ => none }
def normCountsRow : OpenClaim := { program := "ytojlhlepneefoaa", sum := "bb246e44712e90bdbde14ac5ddb2c4367d1b0b20afd6237ca9dea70aabbe0514", func := "burin/burinlaw11.NormCounts", spec := "normCounts", unfollowed := true, recurses := true, plainKeys := false, apart := false }
def NormCountsSaid : Prop := normCountsRow.holds Try.pinned (OpenSpec.ofChange normCountsSpec)

/-- ITS FALSE NEIGHBOUR: 'it returns false'. Refute it at one input. -/
def normCountsWrong : ChangeSpec := { name := "normCounts", fn := fun _ => fun
  | [d1, d2, d3] => { results := [.lit (.bool false)], args := [d1, d2, d3] }
  | _ => none }
def NormCountsWrongFalsely : Prop := normCountsRow.holds Try.pinned (OpenSpec.ofChange normCountsWrong)

/-- 'burinlaw11.NormCores': WHATEVER THE INPUT: true; the input reads as it did. -/
def normCoresSpec : ChangeSpec := { name := "normCores", fn := fun _ => fun
  | [d] => { results := [.lit (.bool true)], args := [d] }
  | _ => none }
def normCoresRow : OpenClaim := { program := "ytojlhlepneefoaa", sum := "bb246e44712e90bdbde14ac5ddb2c4367d1b0b20afd6237ca9dea70aabbe0514", func := "burin/burinlaw11.NormCores", spec := "normCores", unfollowed := true, recurses := true, loops := true, plainKeys := false, apart := false }
def NormCoresSaid : Prop := normCoresRow.holds Try.pinned (OpenSpec.ofChange normCoresSpec)

/-- ITS FALSE NEIGHBOUR: 'it returns false'. Refute it at one input. -/
def normCoresWrong : ChangeSpec := { name := "normCores", fn := fun _ => fun
  | [d] => { results := [.lit (.bool false)], args := [d] }
  | _ => none }
def NormCoresWrongFalsely : Prop := normCoresRow.holds Try.pinned (OpenSpec.ofChange normCoresWrong)

/-- 'burinlaw13.SemEnds': WHATEVER THE INPUT: true; the input reads as it did. -/
def semEndsSpec : ChangeSpec := { name := "semEnds", fn := fun _ => fun
  | [d1, d2, d3] => { results := [.lit (.bool true)], args := [d1, d2, d3] }
  | _ => none }
def semEndsRow : OpenClaim := { program := "ytojlhlepneefoaa", sum := "bb246e44712e90bdbde14ac5ddb2c4367d1b0b20afd6237ca9dea70aabbe0514", func := "burin/burinlaw13.SemEnds", spec := "semEnds", inPlace := ["internal/bytealg.IndexByteString"], unfollowed := true, recurses := true, loops := true, plainKeys := false, apart := false }
def SemEndsSaid : Prop := semEndsRow.holds Try.pinned (OpenSpec.ofChange semEndsSpec)

/-- ITS FALSE NEIGHBOUR: 'it returns false'. Refute it at one input. -/
def semEndsWrong : ChangeSpec := { name := "semEnds", fn := fun _ => fun
  | [d1, d2, d3] => { results := [.lit (.bool false)], args := [d1, d2, d3] }
  | _ => none }
def SemEndsWrongFalsely : Prop := semEndsRow.holds Try.pinned (OpenSpec.ofChange semEndsWrong)

/-- 'burinlaw13.SemMatches': WHATEVER THE INPUT: true; the input reads as it did. -/
def semMatchesSpec : ChangeSpec := { name := "semMatches", fn := fun _ => fun
  | [d1, d2] => { results := [.lit (.bool true)], args := [d1, d2] }
  | _ => none }
def semMatchesRow : OpenClaim := { program := "ytojlhlepneefoaa", sum := "bb246e44712e90bdbde14ac5ddb2c4367d1b0b20afd6237ca9dea70aabbe0514", func := "burin/burinlaw13.SemMatches", spec := "semMatches", inPlace := ["internal/bytealg.IndexByteString"], unfollowed := true, recurses := true, loops := true, plainKeys := false, apart := false }
def SemMatchesSaid : Prop := semMatchesRow.holds Try.pinned (OpenSpec.ofChange semMatchesSpec)

/-- ITS FALSE NEIGHBOUR: 'it returns false'. Refute it at one input. -/
def semMatchesWrong : ChangeSpec := { name := "semMatches", fn := fun _ => fun
  | [d1, d2] => { results := [.lit (.bool false)], args := [d1, d2] }
  | _ => none }
def SemMatchesWrongFalsely : Prop := semMatchesRow.holds Try.pinned (OpenSpec.ofChange semMatchesWrong)

/-- 'burinlaw13.SemLongest': WHATEVER THE INPUT: true; the input reads as it did. -/
def semLongestSpec : ChangeSpec := { name := "semLongest", fn := fun _ => fun
  | [d1, d2, d3] => { results := [.lit (.bool true)], args := [d1, d2, d3] }
  | _ => none }
def semLongestRow : OpenClaim := { program := "ytojlhlepneefoaa", sum := "bb246e44712e90bdbde14ac5ddb2c4367d1b0b20afd6237ca9dea70aabbe0514", func := "burin/burinlaw13.SemLongest", spec := "semLongest", inPlace := ["internal/bytealg.IndexByteString"], unfollowed := true, recurses := true, loops := true, plainKeys := false, apart := false }
def SemLongestSaid : Prop := semLongestRow.holds Try.pinned (OpenSpec.ofChange semLongestSpec)

/-- ITS FALSE NEIGHBOUR: 'it returns false'. Refute it at one input. -/
def semLongestWrong : ChangeSpec := { name := "semLongest", fn := fun _ => fun
  | [d1, d2, d3] => { results := [.lit (.bool false)], args := [d1, d2, d3] }
  | _ => none }
def SemLongestWrongFalsely : Prop := semLongestRow.holds Try.pinned (OpenSpec.ofChange semLongestWrong)

/- THE SECOND FORM. 'bulk': how many values and letters a reading holds, each counted each time it is reached (what is shared counts as often as it is met; a slice's spare places count too). A statement '..UptoSaid' is the law's where the arguments, and the package variables that the reading takes, are together of bulk at most 1048576: NARROWER than '..Said'. Prove '..Said' where nothing that the law and all that it calls make is longer than what came in: it says more and counts as full. Else prove '..UptoSaid'. A law counts once. -/
mutual
def uptoBulk {H : Type} : DataW H → Nat
  | .lit (.string bytes) => bytes.length + 1
  | .lit _ => 1
  | .nil => 1
  | .ptr d => uptoBulk d + 1
  | .slice elems spare => uptoBulkAll elems + uptoBulkAll spare + 1
  | .agg parts => uptoBulkAll parts + 1
  | .iface _ d => uptoBulk d + 1
  | .map entries => uptoBulkEntries entries + 1
  | .held _ => 1
def uptoBulkAll {H : Type} : List (DataW H) → Nat
  | [] => 0
  | d :: r => uptoBulk d + uptoBulkAll r
def uptoBulkEntries {H : Type} : List (Lit × DataW H) → Nat
  | [] => 0
  | x :: r => uptoBulkEntry x + uptoBulkEntries r
def uptoBulkEntry {H : Type} : Lit × DataW H → Nat
  | (.string bytes, d) => bytes.length + uptoBulk d + 1
  | (_, d) => uptoBulk d + 1
 end
def uptoSmall : (H : Type) → List (DataW H) → Bool := fun _ ds => decide (uptoBulkAll ds ≤ 1048576)
def OpenSpec.upto (s : _root_.Go.ChangeSpec) : _root_.Go.OpenSpec := { _root_.Go.OpenSpec.ofChange s with cond := some uptoSmall }

/-- 'burinlaw13.SemParts', WHERE WHAT IT READS IS OF BULK AT MOST 1048576: true; the input reads as it did. -/
def semPartsUptoRow : OpenClaim := { program := "ytojlhlepneefoaa", sum := "bb246e44712e90bdbde14ac5ddb2c4367d1b0b20afd6237ca9dea70aabbe0514", func := "burin/burinlaw13.SemParts", spec := "semParts", inPlace := ["internal/bytealg.IndexByteString"], unfollowed := true, recurses := true, loops := true, plainKeys := false, apart := false, narrowed := true }
def SemPartsUptoSaid : Prop := semPartsUptoRow.holds Try.pinned (OpenSpec.upto semPartsSpec)

/-- 'burinlaw13.SemCores', WHERE WHAT IT READS IS OF BULK AT MOST 1048576: true; the input reads as it did. -/
def semCoresUptoRow : OpenClaim := { program := "ytojlhlepneefoaa", sum := "bb246e44712e90bdbde14ac5ddb2c4367d1b0b20afd6237ca9dea70aabbe0514", func := "burin/burinlaw13.SemCores", spec := "semCores", inPlace := ["internal/bytealg.IndexByteString"], unfollowed := true, recurses := true, loops := true, plainKeys := false, apart := false, narrowed := true }
def SemCoresUptoSaid : Prop := semCoresUptoRow.holds Try.pinned (OpenSpec.upto semCoresSpec)

/-- 'burinlaw06.TreeChecks', WHERE WHAT IT READS IS OF BULK AT MOST 1048576: true; the input reads as it did. -/
def treeChecksUptoRow : OpenClaim := { program := "ytojlhlepneefoaa", sum := "bb246e44712e90bdbde14ac5ddb2c4367d1b0b20afd6237ca9dea70aabbe0514", func := "burin/burinlaw06.TreeChecks", spec := "treeChecks", unfollowed := true, recurses := true, loops := true, plainKeys := false, apart := false, narrowed := true }
def TreeChecksUptoSaid : Prop := treeChecksUptoRow.holds Try.pinned (OpenSpec.upto treeChecksSpec)

/-- 'burinlaw06.TreeDeep', WHERE WHAT IT READS IS OF BULK AT MOST 1048576: true; the input reads as it did. -/
def treeDeepUptoRow : OpenClaim := { program := "ytojlhlepneefoaa", sum := "bb246e44712e90bdbde14ac5ddb2c4367d1b0b20afd6237ca9dea70aabbe0514", func := "burin/burinlaw06.TreeDeep", spec := "treeDeep", unfollowed := true, recurses := true, plainKeys := false, apart := false, narrowed := true }
def TreeDeepUptoSaid : Prop := treeDeepUptoRow.holds Try.pinned (OpenSpec.upto treeDeepSpec)

/-- 'burinlaw06.TreeTells', WHERE WHAT IT READS IS OF BULK AT MOST 1048576: true; the input reads as it did. -/
def treeTellsUptoRow : OpenClaim := { program := "ytojlhlepneefoaa", sum := "bb246e44712e90bdbde14ac5ddb2c4367d1b0b20afd6237ca9dea70aabbe0514", func := "burin/burinlaw06.TreeTells", spec := "treeTells", unfollowed := true, recurses := true, loops := true, plainKeys := false, apart := false, narrowed := true }
def TreeTellsUptoSaid : Prop := treeTellsUptoRow.holds Try.pinned (OpenSpec.upto treeTellsSpec)

/-- 'burinlaw06.TreeParts', WHERE WHAT IT READS IS OF BULK AT MOST 1048576: true; the input reads as it did. -/
def treePartsUptoRow : OpenClaim := { program := "ytojlhlepneefoaa", sum := "bb246e44712e90bdbde14ac5ddb2c4367d1b0b20afd6237ca9dea70aabbe0514", func := "burin/burinlaw06.TreeParts", spec := "treeParts", unfollowed := true, recurses := true, loops := true, plainKeys := false, apart := false, narrowed := true }
def TreePartsUptoSaid : Prop := treePartsUptoRow.holds Try.pinned (OpenSpec.upto treePartsSpec)

/-- 'burinlaw06.TreeGroups', WHERE WHAT IT READS IS OF BULK AT MOST 1048576: true; the input reads as it did. -/
def treeGroupsUptoRow : OpenClaim := { program := "ytojlhlepneefoaa", sum := "bb246e44712e90bdbde14ac5ddb2c4367d1b0b20afd6237ca9dea70aabbe0514", func := "burin/burinlaw06.TreeGroups", spec := "treeGroups", unfollowed := true, recurses := true, plainKeys := false, apart := false, narrowed := true }
def TreeGroupsUptoSaid : Prop := treeGroupsUptoRow.holds Try.pinned (OpenSpec.upto treeGroupsSpec)

/-- 'burinlaw06.TreeWalks', WHERE WHAT IT READS IS OF BULK AT MOST 1048576: true; the input reads as it did. -/
def treeWalksUptoRow : OpenClaim := { program := "ytojlhlepneefoaa", sum := "bb246e44712e90bdbde14ac5ddb2c4367d1b0b20afd6237ca9dea70aabbe0514", func := "burin/burinlaw06.TreeWalks", spec := "treeWalks", unfollowed := true, recurses := true, loops := true, plainKeys := false, apart := false, narrowed := true }
def TreeWalksUptoSaid : Prop := treeWalksUptoRow.holds Try.pinned (OpenSpec.upto treeWalksSpec)

/-- 'burinlaw11.NormChecks', WHERE WHAT IT READS IS OF BULK AT MOST 1048576: true; the input reads as it did. -/
def normChecksUptoRow : OpenClaim := { program := "ytojlhlepneefoaa", sum := "bb246e44712e90bdbde14ac5ddb2c4367d1b0b20afd6237ca9dea70aabbe0514", func := "burin/burinlaw11.NormChecks", spec := "normChecks", unfollowed := true, recurses := true, loops := true, plainKeys := false, apart := false, narrowed := true }
def NormChecksUptoSaid : Prop := normChecksUptoRow.holds Try.pinned (OpenSpec.upto normChecksSpec)

/-- 'burinlaw11.NormAgain', WHERE WHAT IT READS IS OF BULK AT MOST 1048576: true; the input reads as it did. -/
def normAgainUptoRow : OpenClaim := { program := "ytojlhlepneefoaa", sum := "bb246e44712e90bdbde14ac5ddb2c4367d1b0b20afd6237ca9dea70aabbe0514", func := "burin/burinlaw11.NormAgain", spec := "normAgain", unfollowed := true, recurses := true, loops := true, plainKeys := false, apart := false, narrowed := true }
def NormAgainUptoSaid : Prop := normAgainUptoRow.holds Try.pinned (OpenSpec.upto normAgainSpec)

/-- 'burinlaw11.NormCounts', WHERE WHAT IT READS IS OF BULK AT MOST 1048576: true; the input reads as it did. -/
def normCountsUptoRow : OpenClaim := { program := "ytojlhlepneefoaa", sum := "bb246e44712e90bdbde14ac5ddb2c4367d1b0b20afd6237ca9dea70aabbe0514", func := "burin/burinlaw11.NormCounts", spec := "normCounts", unfollowed := true, recurses := true, plainKeys := false, apart := false, narrowed := true }
def NormCountsUptoSaid : Prop := normCountsUptoRow.holds Try.pinned (OpenSpec.upto normCountsSpec)

/-- 'burinlaw11.NormCores', WHERE WHAT IT READS IS OF BULK AT MOST 1048576: true; the input reads as it did. -/
def normCoresUptoRow : OpenClaim := { program := "ytojlhlepneefoaa", sum := "bb246e44712e90bdbde14ac5ddb2c4367d1b0b20afd6237ca9dea70aabbe0514", func := "burin/burinlaw11.NormCores", spec := "normCores", unfollowed := true, recurses := true, loops := true, plainKeys := false, apart := false, narrowed := true }
def NormCoresUptoSaid : Prop := normCoresUptoRow.holds Try.pinned (OpenSpec.upto normCoresSpec)

/-- 'burinlaw13.SemEnds', WHERE WHAT IT READS IS OF BULK AT MOST 1048576: true; the input reads as it did. -/
def semEndsUptoRow : OpenClaim := { program := "ytojlhlepneefoaa", sum := "bb246e44712e90bdbde14ac5ddb2c4367d1b0b20afd6237ca9dea70aabbe0514", func := "burin/burinlaw13.SemEnds", spec := "semEnds", inPlace := ["internal/bytealg.IndexByteString"], unfollowed := true, recurses := true, loops := true, plainKeys := false, apart := false, narrowed := true }
def SemEndsUptoSaid : Prop := semEndsUptoRow.holds Try.pinned (OpenSpec.upto semEndsSpec)

/-- 'burinlaw13.SemMatches', WHERE WHAT IT READS IS OF BULK AT MOST 1048576: true; the input reads as it did. -/
def semMatchesUptoRow : OpenClaim := { program := "ytojlhlepneefoaa", sum := "bb246e44712e90bdbde14ac5ddb2c4367d1b0b20afd6237ca9dea70aabbe0514", func := "burin/burinlaw13.SemMatches", spec := "semMatches", inPlace := ["internal/bytealg.IndexByteString"], unfollowed := true, recurses := true, loops := true, plainKeys := false, apart := false, narrowed := true }
def SemMatchesUptoSaid : Prop := semMatchesUptoRow.holds Try.pinned (OpenSpec.upto semMatchesSpec)

/-- 'burinlaw13.SemLongest', WHERE WHAT IT READS IS OF BULK AT MOST 1048576: true; the input reads as it did. -/
def semLongestUptoRow : OpenClaim := { program := "ytojlhlepneefoaa", sum := "bb246e44712e90bdbde14ac5ddb2c4367d1b0b20afd6237ca9dea70aabbe0514", func := "burin/burinlaw13.SemLongest", spec := "semLongest", inPlace := ["internal/bytealg.IndexByteString"], unfollowed := true, recurses := true, loops := true, plainKeys := false, apart := false, narrowed := true }
def SemLongestUptoSaid : Prop := semLongestUptoRow.holds Try.pinned (OpenSpec.upto semLongestSpec)

end Rows
end Go.Proofs.Ytojlhlepneefoaa
