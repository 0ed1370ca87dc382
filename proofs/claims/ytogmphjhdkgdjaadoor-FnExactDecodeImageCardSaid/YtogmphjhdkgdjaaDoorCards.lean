/-
  DERIVED. GIVEN WITH THE SEED: THE CARDS: each row of YtogmphjhdkgdjaaDoorRows.lean that lists a variable, with what it lists TIED to the program's text (the seventh form; the later family's looks); each row that meets fmt, with fmt's text TOLD by the authors' own Lean function (tested against real Go, not proved from fmt's source: count such statements apart). THE CARD IS WHAT COUNTS. Prove the row's statement (the work); the ties are given (YtogmphjhdkgdjaaDoorTie.lean); close each card by the builder's one call (the guide's Derived/Test/ToyasCard.lean, 'card_holds'). Laid BY PROGRAM, IN A SANDBOX (cutbox-door.mjs). By AI agents, Wed Nov 11 2026. No macro, syntax, notation, axiom, sorry.
-/
import Derived.Test.YtogmphjhdkgdjaaDoorRows
import GoSem.ClaimSeven
namespace Go.Proofs.YtogmphjhdkgdjaaDoor
namespace Rows

/-- THE TIED CARD OF 'laws.FnExactValidData'. -/
def fnExactValidDataCard : Claim7 := { stood := { row := fnExactValidDataRow, standIns := [], harness := (true, "ddc44d16ed9f75b0bfc2b346388576c34828f2b129e4250f19a4f31c52d866bc"), looks := true }, kinds := [], alts := [], laidByText := true, laidKinds := [.data, .pinned], laidTests := true, laidLooks := .later }
def FnExactValidDataCardSaid : Prop := Claim7.holds Tryd.pinned (.plain (OpenSpec.ofChange fnExactValidDataSpec)) fnExactValidDataCard

/-- THE TIED CARD OF 'laws.FnExactValidModule'. -/
def fnExactValidModuleCard : Claim7 := { stood := { row := fnExactValidModuleRow, standIns := [], harness := (true, "ddc44d16ed9f75b0bfc2b346388576c34828f2b129e4250f19a4f31c52d866bc"), looks := true }, kinds := [], alts := [], laidByText := true, laidKinds := [.data, .pinned], laidTests := true, laidLooks := .later }
def FnExactValidModuleCardSaid : Prop := Claim7.holds Tryd.pinned (.plain (OpenSpec.ofChange fnExactValidModuleSpec)) fnExactValidModuleCard

/-- THE TIED CARD OF 'laws.FnExactWriteData'. -/
def fnExactWriteDataCard : Claim7 := { stood := { row := fnExactWriteDataRow, standIns := [], harness := (true, "ddc44d16ed9f75b0bfc2b346388576c34828f2b129e4250f19a4f31c52d866bc"), looks := true }, kinds := [], alts := [], laidByText := true, laidKinds := [.data, .data, .data, .data, .pinned], laidTests := true, laidLooks := .later }
def FnExactWriteDataCardSaid : Prop := Claim7.holds Tryd.pinned (.plain (OpenSpec.ofChange fnExactWriteDataSpec)) fnExactWriteDataCard

/-- THE TIED CARD OF 'laws.FnExactEncodeImage'. -/
def fnExactEncodeImageCard : Claim7 := { stood := { row := fnExactEncodeImageRow, standIns := [], harness := (true, "ddc44d16ed9f75b0bfc2b346388576c34828f2b129e4250f19a4f31c52d866bc"), looks := true }, kinds := [], alts := [], laidByText := true, laidKinds := [.data, .pinned], laidTests := true, laidLooks := .later }
def FnExactEncodeImageCardSaid : Prop := Claim7.holds Tryd.pinned (.plain (OpenSpec.ofChange fnExactEncodeImageSpec)) fnExactEncodeImageCard

/-- THE TIED CARD OF 'laws.FnExactDecodeImage'. -/
def fnExactDecodeImageCard : Claim7 := { stood := { row := fnExactDecodeImageRow, standIns := [], harness := (true, "ddc44d16ed9f75b0bfc2b346388576c34828f2b129e4250f19a4f31c52d866bc"), looks := true }, kinds := [], alts := [], laidByText := true, laidKinds := [.data, .pinned], laidTests := true, laidLooks := .later }
def FnExactDecodeImageCardSaid : Prop := Claim7.holds Tryd.pinned (.plain (OpenSpec.ofChange fnExactDecodeImageSpec)) fnExactDecodeImageCard

/-- THE SECOND FORM's CARD OF 'laws.FnExactValidData'. -/
def fnExactValidDataUptoCard : Claim7 := { stood := { row := fnExactValidDataUptoRow, standIns := [], harness := (true, "ddc44d16ed9f75b0bfc2b346388576c34828f2b129e4250f19a4f31c52d866bc"), looks := true }, kinds := [], alts := [], laidByText := true, laidKinds := [.data, .pinned], laidTests := true, laidLooks := .later }
def FnExactValidDataUptoCardSaid : Prop := Claim7.holds Tryd.pinned (.plain (OpenSpec.upto fnExactValidDataSpec)) fnExactValidDataUptoCard

/-- THE SECOND FORM's CARD OF 'laws.FnExactValidModule'. -/
def fnExactValidModuleUptoCard : Claim7 := { stood := { row := fnExactValidModuleUptoRow, standIns := [], harness := (true, "ddc44d16ed9f75b0bfc2b346388576c34828f2b129e4250f19a4f31c52d866bc"), looks := true }, kinds := [], alts := [], laidByText := true, laidKinds := [.data, .pinned], laidTests := true, laidLooks := .later }
def FnExactValidModuleUptoCardSaid : Prop := Claim7.holds Tryd.pinned (.plain (OpenSpec.upto fnExactValidModuleSpec)) fnExactValidModuleUptoCard

/-- THE SECOND FORM's CARD OF 'laws.FnExactWriteData'. -/
def fnExactWriteDataUptoCard : Claim7 := { stood := { row := fnExactWriteDataUptoRow, standIns := [], harness := (true, "ddc44d16ed9f75b0bfc2b346388576c34828f2b129e4250f19a4f31c52d866bc"), looks := true }, kinds := [], alts := [], laidByText := true, laidKinds := [.data, .data, .data, .data, .pinned], laidTests := true, laidLooks := .later }
def FnExactWriteDataUptoCardSaid : Prop := Claim7.holds Tryd.pinned (.plain (OpenSpec.upto fnExactWriteDataSpec)) fnExactWriteDataUptoCard

/-- THE SECOND FORM's CARD OF 'laws.FnExactEncodeImage'. -/
def fnExactEncodeImageUptoCard : Claim7 := { stood := { row := fnExactEncodeImageUptoRow, standIns := [], harness := (true, "ddc44d16ed9f75b0bfc2b346388576c34828f2b129e4250f19a4f31c52d866bc"), looks := true }, kinds := [], alts := [], laidByText := true, laidKinds := [.data, .pinned], laidTests := true, laidLooks := .later }
def FnExactEncodeImageUptoCardSaid : Prop := Claim7.holds Tryd.pinned (.plain (OpenSpec.upto fnExactEncodeImageSpec)) fnExactEncodeImageUptoCard

/-- THE SECOND FORM's CARD OF 'laws.FnExactDecodeImage'. -/
def fnExactDecodeImageUptoCard : Claim7 := { stood := { row := fnExactDecodeImageUptoRow, standIns := [], harness := (true, "ddc44d16ed9f75b0bfc2b346388576c34828f2b129e4250f19a4f31c52d866bc"), looks := true }, kinds := [], alts := [], laidByText := true, laidKinds := [.data, .pinned], laidTests := true, laidLooks := .later }
def FnExactDecodeImageUptoCardSaid : Prop := Claim7.holds Tryd.pinned (.plain (OpenSpec.upto fnExactDecodeImageSpec)) fnExactDecodeImageUptoCard
end Rows
end Go.Proofs.YtogmphjhdkgdjaaDoor
