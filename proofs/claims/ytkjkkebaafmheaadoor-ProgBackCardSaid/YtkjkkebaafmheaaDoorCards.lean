/-
  DERIVED. GIVEN WITH THE SEED: THE CARDS: each row of YtkjkkebaafmheaaDoorRows.lean that lists a variable, with what it lists TIED to the program's text (the seventh form; the later family's looks); each row that meets fmt, with fmt's text TOLD by the authors' own Lean function (tested against real Go, not proved from fmt's source: count such statements apart). THE CARD IS WHAT COUNTS. Prove the row's statement (the work); the ties are given (YtkjkkebaafmheaaDoorTie.lean); close each card by the builder's one call (the guide's Derived/Test/ToyasCard.lean, 'card_holds'). Laid BY PROGRAM, IN A SANDBOX (cutbox-door.mjs). By AI agents, Wed Nov 11 2026. No macro, syntax, notation, axiom, sorry.
-/
import Derived.Test.YtkjkkebaafmheaaDoorRows
import GoSem.ClaimSeven
namespace Go.Proofs.YtkjkkebaafmheaaDoor
namespace Rows

/-- THE TIED CARD OF 'burinlaw14.ProgLines'. -/
def progLinesCard : Claim7 := { stood := { row := progLinesRow, standIns := [], harness := (true, "9273cd65d38dd95281d7c0d8bd05965ffcc50702796fdf9c8235b10b5bc6f581"), looks := false }, kinds := [], alts := [], laidByText := true, laidKinds := [.data, .pinned], laidTests := true, laidLooks := .later }
def ProgLinesCardSaid : Prop := Claim7.holds Tryd.pinned (.plain (OpenSpec.ofChange progLinesSpec)) progLinesCard

/-- THE TIED CARD OF 'burinlaw14.ProgFields'. -/
def progFieldsCard : Claim7 := { stood := { row := progFieldsRow, standIns := [], harness := (true, "9273cd65d38dd95281d7c0d8bd05965ffcc50702796fdf9c8235b10b5bc6f581"), looks := false }, kinds := [], alts := [], laidByText := true, laidKinds := [.data, .pinned], laidTests := true, laidLooks := .later }
def ProgFieldsCardSaid : Prop := Claim7.holds Tryd.pinned (.plain (OpenSpec.ofChange progFieldsSpec)) progFieldsCard

/-- THE TIED CARD OF 'burinlaw14.ProgTells'. -/
def progTellsCard : Claim7 := { stood := { row := progTellsRow, standIns := [], harness := (true, "9273cd65d38dd95281d7c0d8bd05965ffcc50702796fdf9c8235b10b5bc6f581"), looks := false }, kinds := [], alts := [], laidByText := true, laidKinds := [.data, .pinned], laidTests := true, laidLooks := .later }
def ProgTellsCardSaid : Prop := Claim7.holds Tryd.pinned (.plain (OpenSpec.ofChange progTellsSpec)) progTellsCard

/-- THE TIED CARD OF 'burinlaw14.ProgBack'. -/
def progBackCard : Claim7 := { stood := { row := progBackRow, standIns := [], harness := (true, "9273cd65d38dd95281d7c0d8bd05965ffcc50702796fdf9c8235b10b5bc6f581"), looks := false }, kinds := [], alts := [], laidByText := true, laidKinds := [.data, .pinned], laidTests := true, laidLooks := .later }
def ProgBackCardSaid : Prop := Claim7.holds Tryd.pinned (.plain (OpenSpec.ofChange progBackSpec)) progBackCard

/-- THE SECOND FORM's CARD OF 'burinlaw14.ProgLines'. -/
def progLinesUptoCard : Claim7 := { stood := { row := progLinesUptoRow, standIns := [], harness := (true, "9273cd65d38dd95281d7c0d8bd05965ffcc50702796fdf9c8235b10b5bc6f581"), looks := false }, kinds := [], alts := [], laidByText := true, laidKinds := [.data, .pinned], laidTests := true, laidLooks := .later }
def ProgLinesUptoCardSaid : Prop := Claim7.holds Tryd.pinned (.plain (OpenSpec.upto progLinesSpec)) progLinesUptoCard

/-- THE SECOND FORM's CARD OF 'burinlaw14.ProgFields'. -/
def progFieldsUptoCard : Claim7 := { stood := { row := progFieldsUptoRow, standIns := [], harness := (true, "9273cd65d38dd95281d7c0d8bd05965ffcc50702796fdf9c8235b10b5bc6f581"), looks := false }, kinds := [], alts := [], laidByText := true, laidKinds := [.data, .pinned], laidTests := true, laidLooks := .later }
def ProgFieldsUptoCardSaid : Prop := Claim7.holds Tryd.pinned (.plain (OpenSpec.upto progFieldsSpec)) progFieldsUptoCard

/-- THE SECOND FORM's CARD OF 'burinlaw14.ProgTells'. -/
def progTellsUptoCard : Claim7 := { stood := { row := progTellsUptoRow, standIns := [], harness := (true, "9273cd65d38dd95281d7c0d8bd05965ffcc50702796fdf9c8235b10b5bc6f581"), looks := false }, kinds := [], alts := [], laidByText := true, laidKinds := [.data, .pinned], laidTests := true, laidLooks := .later }
def ProgTellsUptoCardSaid : Prop := Claim7.holds Tryd.pinned (.plain (OpenSpec.upto progTellsSpec)) progTellsUptoCard

/-- THE SECOND FORM's CARD OF 'burinlaw14.ProgBack'. -/
def progBackUptoCard : Claim7 := { stood := { row := progBackUptoRow, standIns := [], harness := (true, "9273cd65d38dd95281d7c0d8bd05965ffcc50702796fdf9c8235b10b5bc6f581"), looks := false }, kinds := [], alts := [], laidByText := true, laidKinds := [.data, .pinned], laidTests := true, laidLooks := .later }
def ProgBackUptoCardSaid : Prop := Claim7.holds Tryd.pinned (.plain (OpenSpec.upto progBackSpec)) progBackUptoCard
end Rows
end Go.Proofs.YtkjkkebaafmheaaDoor
