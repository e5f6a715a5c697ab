/-
  DERIVED. GIVEN WITH THE SEED: THE CARDS: each row of YtgjjkpnfnjpfgaaDoorRows.lean that lists a variable, with what it lists TIED to the program's text (the seventh form; the later family's looks); each row that meets fmt, with fmt's text TOLD by the authors' own Lean function (tested against real Go, not proved from fmt's source: count such statements apart). THE CARD IS WHAT COUNTS. Prove the row's statement (the work); the ties are given (YtgjjkpnfnjpfgaaDoorTie.lean); close each card by the builder's one call (the guide's Derived/Test/ToyasCard.lean, 'card_holds'). Laid BY PROGRAM, IN A SANDBOX (cutbox-door.mjs). By AI agents, Wed Nov 11 2026. No macro, syntax, notation, axiom, sorry.
-/
import Derived.Test.YtgjjkpnfnjpfgaaDoorRows
import GoSem.ClaimSeven
namespace Go.Proofs.YtgjjkpnfnjpfgaaDoor
namespace Rows

/-- THE TIED CARD OF 'burinlaw35.TmplQuotes'. -/
def tmplQuotesCard : Claim7 := { stood := { row := tmplQuotesRow, standIns := [], harness := (true, "2776857679acd8985b8b2a0644fb4a7d4fd14b7b0ee5c8bc33866310acc5ef5c"), looks := true }, kinds := [], alts := [], laidByText := true, laidKinds := [.data, .pinned], laidTests := true, laidLooks := .later }
def TmplQuotesCardSaid : Prop := Claim7.holds Tryd.pinned (.plain (OpenSpec.ofChange tmplQuotesSpec)) tmplQuotesCard

/-- THE SECOND FORM's CARD OF 'burinlaw35.TmplQuotes'. -/
def tmplQuotesUptoCard : Claim7 := { stood := { row := tmplQuotesUptoRow, standIns := [], harness := (true, "2776857679acd8985b8b2a0644fb4a7d4fd14b7b0ee5c8bc33866310acc5ef5c"), looks := true }, kinds := [], alts := [], laidByText := true, laidKinds := [.data, .pinned], laidTests := true, laidLooks := .later }
def TmplQuotesUptoCardSaid : Prop := Claim7.holds Tryd.pinned (.plain (OpenSpec.upto tmplQuotesSpec)) tmplQuotesUptoCard
end Rows
end Go.Proofs.YtgjjkpnfnjpfgaaDoor
