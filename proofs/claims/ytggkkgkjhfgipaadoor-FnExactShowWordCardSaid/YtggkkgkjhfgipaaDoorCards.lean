/-
  DERIVED. GIVEN WITH THE SEED: THE CARDS: each row of YtggkkgkjhfgipaaDoorRows.lean that lists a variable, with what it lists TIED to the program's text (the seventh form; the later family's looks); each row that meets fmt, with fmt's text TOLD by the authors' own Lean function (tested against real Go, not proved from fmt's source: count such statements apart). THE CARD IS WHAT COUNTS. Prove the row's statement (the work); the ties are given (YtggkkgkjhfgipaaDoorTie.lean); close each card by the builder's one call (the guide's Derived/Test/ToyasCard.lean, 'card_holds'). Laid BY PROGRAM, IN A SANDBOX (cutbox-door.mjs). By AI agents, Wed Nov 11 2026. No macro, syntax, notation, axiom, sorry.
-/
import Derived.Test.YtggkkgkjhfgipaaDoorRows
import GoSem.ClaimSeven
namespace Go.Proofs.YtggkkgkjhfgipaaDoor
namespace Rows

/-- THE TIED CARD OF 'laws.FnExactShowWord'. -/
def fnExactShowWordCard : Claim7 := { stood := { row := fnExactShowWordRow, standIns := [], harness := (true, "d51a80117b74aa39242fa61489e9cdc1b6be06a001bcb6a3bf365b83efcfc1d4"), looks := true }, kinds := [], alts := [], laidByText := true, laidKinds := [.data, .data, .data], laidTests := true, laidLooks := .later }
def FnExactShowWordCardSaid : Prop := Claim7.holds Tryd.pinned (.plain (OpenSpec.ofChange fnExactShowWordSpec)) fnExactShowWordCard

/-- THE TIED CARD OF 'laws.FnCollect'. -/
def fnCollectCard : Claim7 := { stood := { row := fnCollectRow, standIns := [], harness := (true, "d51a80117b74aa39242fa61489e9cdc1b6be06a001bcb6a3bf365b83efcfc1d4"), looks := true }, kinds := [], alts := [], laidByText := true, laidKinds := [.data, .data, .data], laidTests := true, laidLooks := .later }
def FnCollectCardSaid : Prop := Claim7.holds Tryd.pinned (.plain (OpenSpec.ofChange fnCollectSpec)) fnCollectCard

/-- THE SECOND FORM's CARD OF 'laws.FnExactShowWord'. -/
def fnExactShowWordUptoCard : Claim7 := { stood := { row := fnExactShowWordUptoRow, standIns := [], harness := (true, "d51a80117b74aa39242fa61489e9cdc1b6be06a001bcb6a3bf365b83efcfc1d4"), looks := true }, kinds := [], alts := [], laidByText := true, laidKinds := [.data, .data, .data], laidTests := true, laidLooks := .later }
def FnExactShowWordUptoCardSaid : Prop := Claim7.holds Tryd.pinned (.plain (OpenSpec.upto fnExactShowWordSpec)) fnExactShowWordUptoCard

/-- THE SECOND FORM's CARD OF 'laws.FnCollect'. -/
def fnCollectUptoCard : Claim7 := { stood := { row := fnCollectUptoRow, standIns := [], harness := (true, "d51a80117b74aa39242fa61489e9cdc1b6be06a001bcb6a3bf365b83efcfc1d4"), looks := true }, kinds := [], alts := [], laidByText := true, laidKinds := [.data, .data, .data], laidTests := true, laidLooks := .later }
def FnCollectUptoCardSaid : Prop := Claim7.holds Tryd.pinned (.plain (OpenSpec.upto fnCollectSpec)) fnCollectUptoCard
end Rows
end Go.Proofs.YtggkkgkjhfgipaaDoor
