/-
  DERIVED. GIVEN WITH THE SEED: THE CARDS: each row of YtbfkkepdeepdeaaGreatDoorRows.lean that lists a variable, with what it lists TIED to the program's text (the seventh form; the later family's looks); each row that meets fmt, with fmt's text TOLD by the authors' own Lean function (tested against real Go, not proved from fmt's source: count such statements apart). THE CARD IS WHAT COUNTS. Prove the row's statement (the work); the ties are given (YtbfkkepdeepdeaaGreatDoorTie.lean); close each card by the builder's one call (the guide's Derived/Test/ToyasCard.lean, 'card_holds'). Laid BY PROGRAM, IN A SANDBOX (cutbox-door.mjs). By AI agents, Wed Nov 11 2026. No macro, syntax, notation, axiom, sorry.
-/
import Derived.Test.YtbfkkepdeepdeaaGreatDoorRows
import GoSem.ClaimSeven
namespace Go.Proofs.YtbfkkepdeepdeaaGreatDoor
namespace Rows

/-- THE TIED CARD OF 'namesakelaw14.ClassAlone'. -/
def classAloneCard : Claim7 := { stood := { row := classAloneRow, standIns := [], harness := (true, "9d771768a37919542973179e09d331e6478799005a2646caf58354e9eb198151"), looks := true }, kinds := [], alts := [], laidByText := true, laidKinds := [.data, .data, .data, .sentinel, .sentinel, .widerDeep], laidTests := true, laidLooks := .later }
def ClassAloneCardSaid : Prop := Claim7.holds Tryz.pinned (.plain (OpenSpec.ofChange classAloneSpec)) classAloneCard

/-- THE TIED CARD OF 'namesakelaw14.ClassTables'. -/
def classTablesCard : Claim7 := { stood := { row := classTablesRow, standIns := [], harness := (true, "9d771768a37919542973179e09d331e6478799005a2646caf58354e9eb198151"), looks := true }, kinds := [], alts := [], laidByText := true, laidKinds := [.data, .data, .data, .sentinel, .sentinel, .widerDeep], laidTests := true, laidLooks := .later }
def ClassTablesCardSaid : Prop := Claim7.holds Tryz.pinned (.plain (OpenSpec.ofChange classTablesSpec)) classTablesCard

/-- THE TIED CARD OF 'namesakelaw14.ClassViews'. -/
def classViewsCard : Claim7 := { stood := { row := classViewsRow, standIns := [], harness := (true, "9d771768a37919542973179e09d331e6478799005a2646caf58354e9eb198151"), looks := true }, kinds := [], alts := [], laidByText := true, laidKinds := [.data, .data, .data, .sentinel, .sentinel, .widerDeep], laidTests := true, laidLooks := .later }
def ClassViewsCardSaid : Prop := Claim7.holds Tryz.pinned (.plain (OpenSpec.ofChange classViewsSpec)) classViewsCard

/-- THE TIED CARD OF 'namesakelaw14.ClassSorts'. -/
def classSortsCard : Claim7 := { stood := { row := classSortsRow, standIns := [], harness := (true, "9d771768a37919542973179e09d331e6478799005a2646caf58354e9eb198151"), looks := true }, kinds := [], alts := [], laidByText := true, laidKinds := [.data, .data, .data, .sentinel, .sentinel, .widerDeep], laidTests := true, laidLooks := .later }
def ClassSortsCardSaid : Prop := Claim7.holds Tryz.pinned (.plain (OpenSpec.ofChange classSortsSpec)) classSortsCard

/-- THE SECOND FORM's CARD OF 'namesakelaw14.ClassAlone'. -/
def classAloneUptoCard : Claim7 := { stood := { row := classAloneUptoRow, standIns := [], harness := (true, "9d771768a37919542973179e09d331e6478799005a2646caf58354e9eb198151"), looks := true }, kinds := [], alts := [], laidByText := true, laidKinds := [.data, .data, .data, .sentinel, .sentinel, .widerDeep], laidTests := true, laidLooks := .later }
def ClassAloneUptoCardSaid : Prop := Claim7.holds Tryz.pinned (.plain (OpenSpec.upto classAloneSpec)) classAloneUptoCard

/-- THE SECOND FORM's CARD OF 'namesakelaw14.ClassTables'. -/
def classTablesUptoCard : Claim7 := { stood := { row := classTablesUptoRow, standIns := [], harness := (true, "9d771768a37919542973179e09d331e6478799005a2646caf58354e9eb198151"), looks := true }, kinds := [], alts := [], laidByText := true, laidKinds := [.data, .data, .data, .sentinel, .sentinel, .widerDeep], laidTests := true, laidLooks := .later }
def ClassTablesUptoCardSaid : Prop := Claim7.holds Tryz.pinned (.plain (OpenSpec.upto classTablesSpec)) classTablesUptoCard

/-- THE SECOND FORM's CARD OF 'namesakelaw14.ClassViews'. -/
def classViewsUptoCard : Claim7 := { stood := { row := classViewsUptoRow, standIns := [], harness := (true, "9d771768a37919542973179e09d331e6478799005a2646caf58354e9eb198151"), looks := true }, kinds := [], alts := [], laidByText := true, laidKinds := [.data, .data, .data, .sentinel, .sentinel, .widerDeep], laidTests := true, laidLooks := .later }
def ClassViewsUptoCardSaid : Prop := Claim7.holds Tryz.pinned (.plain (OpenSpec.upto classViewsSpec)) classViewsUptoCard

/-- THE SECOND FORM's CARD OF 'namesakelaw14.ClassSorts'. -/
def classSortsUptoCard : Claim7 := { stood := { row := classSortsUptoRow, standIns := [], harness := (true, "9d771768a37919542973179e09d331e6478799005a2646caf58354e9eb198151"), looks := true }, kinds := [], alts := [], laidByText := true, laidKinds := [.data, .data, .data, .sentinel, .sentinel, .widerDeep], laidTests := true, laidLooks := .later }
def ClassSortsUptoCardSaid : Prop := Claim7.holds Tryz.pinned (.plain (OpenSpec.upto classSortsSpec)) classSortsUptoCard
end Rows
end Go.Proofs.YtbfkkepdeepdeaaGreatDoor
