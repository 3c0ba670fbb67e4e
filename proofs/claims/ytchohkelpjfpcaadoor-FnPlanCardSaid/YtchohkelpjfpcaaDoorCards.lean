/-
  DERIVED. GIVEN WITH THE SEED: THE CARDS: each row of YtchohkelpjfpcaaDoorRows.lean that lists a variable, with what it lists TIED to the program's text (the seventh form; the later family's looks); each row that meets fmt, with fmt's text TOLD by the authors' own Lean function (tested against real Go, not proved from fmt's source: count such statements apart). THE CARD IS WHAT COUNTS. Prove the row's statement (the work); the ties are given (YtchohkelpjfpcaaDoorTie.lean); close each card by the builder's one call (the guide's Derived/Test/ToyasCard.lean, 'card_holds'). Laid BY PROGRAM, IN A SANDBOX (cutbox-door.mjs). By AI agents, Wed Nov 11 2026. No macro, syntax, notation, axiom, sorry.
-/
import Derived.Test.YtchohkelpjfpcaaDoorRows
import GoSem.ClaimSeven
namespace Go.Proofs.YtchohkelpjfpcaaDoor
namespace Rows

/-- THE TIED CARD OF 'laws.FnExactPlanCode'. -/
def fnExactPlanCodeCard : Claim7 := { stood := { row := fnExactPlanCodeRow, standIns := [], harness := (true, "3e69e200e7782e7ed9c644d5db90e73c70318a309b1acafbb83f1b71aec2840c"), looks := false }, kinds := [], alts := [], laidByText := true, laidKinds := [.data, .pinned], laidTests := true, laidLooks := .later }
def FnExactPlanCodeCardSaid : Prop := Claim7.holds Tryd.pinned (.plain (OpenSpec.ofChange fnExactPlanCodeSpec)) fnExactPlanCodeCard

/-- THE TIED CARD OF 'laws.FnExactPlan'. -/
def fnExactPlanCard : Claim7 := { stood := { row := fnExactPlanRow, standIns := [], harness := (true, "3e69e200e7782e7ed9c644d5db90e73c70318a309b1acafbb83f1b71aec2840c"), looks := false }, kinds := [], alts := [], laidByText := true, laidKinds := [.data, .pinned], laidTests := true, laidLooks := .later }
def FnExactPlanCardSaid : Prop := Claim7.holds Tryd.pinned (.plain (OpenSpec.ofChange fnExactPlanSpec)) fnExactPlanCard

/-- THE TIED CARD OF 'laws.FnPlan'. -/
def fnPlanCard : Claim7 := { stood := { row := fnPlanRow, standIns := [], harness := (true, "3e69e200e7782e7ed9c644d5db90e73c70318a309b1acafbb83f1b71aec2840c"), looks := false }, kinds := [], alts := [], laidByText := true, laidKinds := [.data, .pinned], laidTests := true, laidLooks := .later }
def FnPlanCardSaid : Prop := Claim7.holds Tryd.pinned (.plain (OpenSpec.ofChange fnPlanSpec)) fnPlanCard

/-- THE TIED CARD OF 'laws.FnExactLedgerOf'. -/
def fnExactLedgerOfCard : Claim7 := { stood := { row := fnExactLedgerOfRow, standIns := [], harness := (true, "3e69e200e7782e7ed9c644d5db90e73c70318a309b1acafbb83f1b71aec2840c"), looks := false }, kinds := [], alts := [], laidByText := true, laidKinds := [.data, .pinned], laidTests := true, laidLooks := .later }
def FnExactLedgerOfCardSaid : Prop := Claim7.holds Tryd.pinned (.plain (OpenSpec.ofChange fnExactLedgerOfSpec)) fnExactLedgerOfCard

/-- THE SECOND FORM's CARD OF 'laws.FnExactPlanCode'. -/
def fnExactPlanCodeUptoCard : Claim7 := { stood := { row := fnExactPlanCodeUptoRow, standIns := [], harness := (true, "3e69e200e7782e7ed9c644d5db90e73c70318a309b1acafbb83f1b71aec2840c"), looks := false }, kinds := [], alts := [], laidByText := true, laidKinds := [.data, .pinned], laidTests := true, laidLooks := .later }
def FnExactPlanCodeUptoCardSaid : Prop := Claim7.holds Tryd.pinned (.plain (OpenSpec.upto fnExactPlanCodeSpec)) fnExactPlanCodeUptoCard

/-- THE SECOND FORM's CARD OF 'laws.FnExactPlan'. -/
def fnExactPlanUptoCard : Claim7 := { stood := { row := fnExactPlanUptoRow, standIns := [], harness := (true, "3e69e200e7782e7ed9c644d5db90e73c70318a309b1acafbb83f1b71aec2840c"), looks := false }, kinds := [], alts := [], laidByText := true, laidKinds := [.data, .pinned], laidTests := true, laidLooks := .later }
def FnExactPlanUptoCardSaid : Prop := Claim7.holds Tryd.pinned (.plain (OpenSpec.upto fnExactPlanSpec)) fnExactPlanUptoCard

/-- THE SECOND FORM's CARD OF 'laws.FnPlan'. -/
def fnPlanUptoCard : Claim7 := { stood := { row := fnPlanUptoRow, standIns := [], harness := (true, "3e69e200e7782e7ed9c644d5db90e73c70318a309b1acafbb83f1b71aec2840c"), looks := false }, kinds := [], alts := [], laidByText := true, laidKinds := [.data, .pinned], laidTests := true, laidLooks := .later }
def FnPlanUptoCardSaid : Prop := Claim7.holds Tryd.pinned (.plain (OpenSpec.upto fnPlanSpec)) fnPlanUptoCard

/-- THE SECOND FORM's CARD OF 'laws.FnExactLedgerOf'. -/
def fnExactLedgerOfUptoCard : Claim7 := { stood := { row := fnExactLedgerOfUptoRow, standIns := [], harness := (true, "3e69e200e7782e7ed9c644d5db90e73c70318a309b1acafbb83f1b71aec2840c"), looks := false }, kinds := [], alts := [], laidByText := true, laidKinds := [.data, .pinned], laidTests := true, laidLooks := .later }
def FnExactLedgerOfUptoCardSaid : Prop := Claim7.holds Tryd.pinned (.plain (OpenSpec.upto fnExactLedgerOfSpec)) fnExactLedgerOfUptoCard
end Rows
end Go.Proofs.YtchohkelpjfpcaaDoor
