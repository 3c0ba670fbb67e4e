/-
  DERIVED. GIVEN WITH THE SEED: THE CARDS: each row of YtiogkndjoinpoaaDoorRows.lean that lists a variable, with what it lists TIED to the program's text (the seventh form; the later family's looks); each row that meets fmt, with fmt's text TOLD by the authors' own Lean function (tested against real Go, not proved from fmt's source: count such statements apart). THE CARD IS WHAT COUNTS. Prove the row's statement (the work); the ties are given (YtiogkndjoinpoaaDoorTie.lean); close each card by the builder's one call (the guide's Derived/Test/ToyasCard.lean, 'card_holds'). Laid BY PROGRAM, IN A SANDBOX (cutbox-door.mjs). By AI agents, Wed Nov 11 2026. No macro, syntax, notation, axiom, sorry.
-/
import Derived.Test.YtiogkndjoinpoaaDoorRows
import GoSem.ClaimSeven
namespace Go.Proofs.YtiogkndjoinpoaaDoor
namespace Rows

/-- THE TIED CARD OF 'laws.FnExactFeatureOrder'. -/
def fnExactFeatureOrderCard : Claim7 := { stood := { row := fnExactFeatureOrderRow, standIns := [], harness := (true, "d562f6f82d3cbabb7aa23bca09f5b7e3c7a387bd27e8de96ba63058a98a8a185"), looks := false }, kinds := [], alts := [], laidByText := true, laidKinds := [.data, .pinned], laidTests := true, laidLooks := .later }
def FnExactFeatureOrderCardSaid : Prop := Claim7.holds Tryd.pinned (.plain (OpenSpec.ofChange fnExactFeatureOrderSpec)) fnExactFeatureOrderCard

/-- THE TIED CARD OF 'laws.FnExactFileBytes'. -/
def fnExactFileBytesCard : Claim7 := { stood := { row := fnExactFileBytesRow, standIns := [], harness := (true, "d562f6f82d3cbabb7aa23bca09f5b7e3c7a387bd27e8de96ba63058a98a8a185"), looks := false }, kinds := [], alts := [], laidByText := true, laidKinds := [.data, .pinned], laidTests := true, laidLooks := .later }
def FnExactFileBytesCardSaid : Prop := Claim7.holds Tryd.pinned (.plain (OpenSpec.ofChange fnExactFileBytesSpec)) fnExactFileBytesCard

/-- THE TIED CARD OF 'laws.FnExactDepends'. -/
def fnExactDependsCard : Claim7 := { stood := { row := fnExactDependsRow, standIns := [], harness := (true, "d562f6f82d3cbabb7aa23bca09f5b7e3c7a387bd27e8de96ba63058a98a8a185"), looks := false }, kinds := [], alts := [], laidByText := true, laidKinds := [.data, .pinned], laidTests := true, laidLooks := .later }
def FnExactDependsCardSaid : Prop := Claim7.holds Tryd.pinned (.plain (OpenSpec.ofChange fnExactDependsSpec)) fnExactDependsCard

/-- THE SECOND FORM's CARD OF 'laws.FnExactFeatureOrder'. -/
def fnExactFeatureOrderUptoCard : Claim7 := { stood := { row := fnExactFeatureOrderUptoRow, standIns := [], harness := (true, "d562f6f82d3cbabb7aa23bca09f5b7e3c7a387bd27e8de96ba63058a98a8a185"), looks := false }, kinds := [], alts := [], laidByText := true, laidKinds := [.data, .pinned], laidTests := true, laidLooks := .later }
def FnExactFeatureOrderUptoCardSaid : Prop := Claim7.holds Tryd.pinned (.plain (OpenSpec.upto fnExactFeatureOrderSpec)) fnExactFeatureOrderUptoCard

/-- THE SECOND FORM's CARD OF 'laws.FnExactFileBytes'. -/
def fnExactFileBytesUptoCard : Claim7 := { stood := { row := fnExactFileBytesUptoRow, standIns := [], harness := (true, "d562f6f82d3cbabb7aa23bca09f5b7e3c7a387bd27e8de96ba63058a98a8a185"), looks := false }, kinds := [], alts := [], laidByText := true, laidKinds := [.data, .pinned], laidTests := true, laidLooks := .later }
def FnExactFileBytesUptoCardSaid : Prop := Claim7.holds Tryd.pinned (.plain (OpenSpec.upto fnExactFileBytesSpec)) fnExactFileBytesUptoCard

/-- THE SECOND FORM's CARD OF 'laws.FnExactDepends'. -/
def fnExactDependsUptoCard : Claim7 := { stood := { row := fnExactDependsUptoRow, standIns := [], harness := (true, "d562f6f82d3cbabb7aa23bca09f5b7e3c7a387bd27e8de96ba63058a98a8a185"), looks := false }, kinds := [], alts := [], laidByText := true, laidKinds := [.data, .pinned], laidTests := true, laidLooks := .later }
def FnExactDependsUptoCardSaid : Prop := Claim7.holds Tryd.pinned (.plain (OpenSpec.upto fnExactDependsSpec)) fnExactDependsUptoCard
end Rows
end Go.Proofs.YtiogkndjoinpoaaDoor
