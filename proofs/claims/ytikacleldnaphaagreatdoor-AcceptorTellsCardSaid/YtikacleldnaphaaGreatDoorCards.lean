/-
  DERIVED. GIVEN WITH THE SEED: THE CARDS: each row of YtikacleldnaphaaGreatDoorRows.lean that lists a variable, with what it lists TIED to the program's text (the seventh form; the later family's looks); each row that meets fmt, with fmt's text TOLD by the authors' own Lean function (tested against real Go, not proved from fmt's source: count such statements apart). THE CARD IS WHAT COUNTS. Prove the row's statement (the work); the ties are given (YtikacleldnaphaaGreatDoorTie.lean); close each card by the builder's one call (the guide's Derived/Test/ToyasCard.lean, 'card_holds'). Laid BY PROGRAM, IN A SANDBOX (cutbox-door.mjs). By AI agents, Wed Nov 11 2026. No macro, syntax, notation, axiom, sorry.
-/
import Derived.Test.YtikacleldnaphaaGreatDoorRows
import GoSem.ClaimSeven
namespace Go.Proofs.YtikacleldnaphaaGreatDoor
namespace Rows

/-- THE TIED CARD OF 'legatelaw14.AcceptorTells'. -/
def acceptorTellsCard : Claim7 := { stood := { row := acceptorTellsRow, standIns := [], harness := (true, "1202481b1bec9c63fbf0ae0e25ec1e0efd40745f5d40642812ab35183bbeca7b"), looks := false }, kinds := [], alts := [], laidByText := true, laidKinds := [.data, .pinned], laidTests := true, laidLooks := .later }
def AcceptorTellsCardSaid : Prop := Claim7.holds Tryz.pinned (.plain (OpenSpec.ofChange acceptorTellsSpec)) acceptorTellsCard

/-- THE TIED CARD OF 'legatelaw14.AcceptorPolicy'. -/
def acceptorPolicyCard : Claim7 := { stood := { row := acceptorPolicyRow, standIns := [], harness := (true, "1202481b1bec9c63fbf0ae0e25ec1e0efd40745f5d40642812ab35183bbeca7b"), looks := false }, kinds := [], alts := [], laidByText := true, laidKinds := [.data, .pinned], laidTests := true, laidLooks := .later }
def AcceptorPolicyCardSaid : Prop := Claim7.holds Tryz.pinned (.plain (OpenSpec.ofChange acceptorPolicySpec)) acceptorPolicyCard

/-- THE TIED CARD OF 'legatelaw14.AcceptorErrs'. -/
def acceptorErrsCard : Claim7 := { stood := { row := acceptorErrsRow, standIns := [], harness := (true, "1202481b1bec9c63fbf0ae0e25ec1e0efd40745f5d40642812ab35183bbeca7b"), looks := false }, kinds := [], alts := [], laidByText := true, laidKinds := [.data, .pinned], laidTests := true, laidLooks := .later }
def AcceptorErrsCardSaid : Prop := Claim7.holds Tryz.pinned (.plain (OpenSpec.ofChange acceptorErrsSpec)) acceptorErrsCard

/-- THE TIED CARD OF 'legatelaw14.AcceptorKeys'. -/
def acceptorKeysCard : Claim7 := { stood := { row := acceptorKeysRow, standIns := [], harness := (true, "1202481b1bec9c63fbf0ae0e25ec1e0efd40745f5d40642812ab35183bbeca7b"), looks := false }, kinds := [], alts := [], laidByText := true, laidKinds := [.data, .pinned], laidTests := true, laidLooks := .later }
def AcceptorKeysCardSaid : Prop := Claim7.holds Tryz.pinned (.plain (OpenSpec.ofChange acceptorKeysSpec)) acceptorKeysCard

/-- THE TIED CARD OF 'legatelaw14.AcceptorFull'. -/
def acceptorFullCard : Claim7 := { stood := { row := acceptorFullRow, standIns := [], harness := (true, "1202481b1bec9c63fbf0ae0e25ec1e0efd40745f5d40642812ab35183bbeca7b"), looks := false }, kinds := [], alts := [], laidByText := true, laidKinds := [.data, .pinned], laidTests := true, laidLooks := .later }
def AcceptorFullCardSaid : Prop := Claim7.holds Tryz.pinned (.plain (OpenSpec.ofChange acceptorFullSpec)) acceptorFullCard

/-- THE TIED CARD OF 'legatelaw14.AcceptorAfter'. -/
def acceptorAfterCard : Claim7 := { stood := { row := acceptorAfterRow, standIns := [], harness := (true, "1202481b1bec9c63fbf0ae0e25ec1e0efd40745f5d40642812ab35183bbeca7b"), looks := false }, kinds := [], alts := [], laidByText := true, laidKinds := [.data, .pinned], laidTests := true, laidLooks := .later }
def AcceptorAfterCardSaid : Prop := Claim7.holds Tryz.pinned (.plain (OpenSpec.ofChange acceptorAfterSpec)) acceptorAfterCard

/-- THE TIED CARD OF 'legatelaw14.AcceptorPlays'. -/
def acceptorPlaysCard : Claim7 := { stood := { row := acceptorPlaysRow, standIns := [], harness := (true, "1202481b1bec9c63fbf0ae0e25ec1e0efd40745f5d40642812ab35183bbeca7b"), looks := false }, kinds := [], alts := [], laidByText := true, laidKinds := [.data, .pinned], laidTests := true, laidLooks := .later }
def AcceptorPlaysCardSaid : Prop := Claim7.holds Tryz.pinned (.plain (OpenSpec.ofChange acceptorPlaysSpec)) acceptorPlaysCard

/-- THE TIED CARD OF 'legatelaw14.AcceptorOnce'. -/
def acceptorOnceCard : Claim7 := { stood := { row := acceptorOnceRow, standIns := [], harness := (true, "1202481b1bec9c63fbf0ae0e25ec1e0efd40745f5d40642812ab35183bbeca7b"), looks := false }, kinds := [], alts := [], laidByText := true, laidKinds := [.data, .pinned], laidTests := true, laidLooks := .later }
def AcceptorOnceCardSaid : Prop := Claim7.holds Tryz.pinned (.plain (OpenSpec.ofChange acceptorOnceSpec)) acceptorOnceCard

/-- THE TIED CARD OF 'legatelaw14.AcceptorOthers'. -/
def acceptorOthersCard : Claim7 := { stood := { row := acceptorOthersRow, standIns := [], harness := (true, "1202481b1bec9c63fbf0ae0e25ec1e0efd40745f5d40642812ab35183bbeca7b"), looks := false }, kinds := [], alts := [], laidByText := true, laidKinds := [.data, .pinned], laidTests := true, laidLooks := .later }
def AcceptorOthersCardSaid : Prop := Claim7.holds Tryz.pinned (.plain (OpenSpec.ofChange acceptorOthersSpec)) acceptorOthersCard

/-- THE SECOND FORM's CARD OF 'legatelaw14.AcceptorTells'. -/
def acceptorTellsUptoCard : Claim7 := { stood := { row := acceptorTellsUptoRow, standIns := [], harness := (true, "1202481b1bec9c63fbf0ae0e25ec1e0efd40745f5d40642812ab35183bbeca7b"), looks := false }, kinds := [], alts := [], laidByText := true, laidKinds := [.data, .pinned], laidTests := true, laidLooks := .later }
def AcceptorTellsUptoCardSaid : Prop := Claim7.holds Tryz.pinned (.plain (OpenSpec.upto acceptorTellsSpec)) acceptorTellsUptoCard

/-- THE SECOND FORM's CARD OF 'legatelaw14.AcceptorPolicy'. -/
def acceptorPolicyUptoCard : Claim7 := { stood := { row := acceptorPolicyUptoRow, standIns := [], harness := (true, "1202481b1bec9c63fbf0ae0e25ec1e0efd40745f5d40642812ab35183bbeca7b"), looks := false }, kinds := [], alts := [], laidByText := true, laidKinds := [.data, .pinned], laidTests := true, laidLooks := .later }
def AcceptorPolicyUptoCardSaid : Prop := Claim7.holds Tryz.pinned (.plain (OpenSpec.upto acceptorPolicySpec)) acceptorPolicyUptoCard

/-- THE SECOND FORM's CARD OF 'legatelaw14.AcceptorErrs'. -/
def acceptorErrsUptoCard : Claim7 := { stood := { row := acceptorErrsUptoRow, standIns := [], harness := (true, "1202481b1bec9c63fbf0ae0e25ec1e0efd40745f5d40642812ab35183bbeca7b"), looks := false }, kinds := [], alts := [], laidByText := true, laidKinds := [.data, .pinned], laidTests := true, laidLooks := .later }
def AcceptorErrsUptoCardSaid : Prop := Claim7.holds Tryz.pinned (.plain (OpenSpec.upto acceptorErrsSpec)) acceptorErrsUptoCard

/-- THE SECOND FORM's CARD OF 'legatelaw14.AcceptorKeys'. -/
def acceptorKeysUptoCard : Claim7 := { stood := { row := acceptorKeysUptoRow, standIns := [], harness := (true, "1202481b1bec9c63fbf0ae0e25ec1e0efd40745f5d40642812ab35183bbeca7b"), looks := false }, kinds := [], alts := [], laidByText := true, laidKinds := [.data, .pinned], laidTests := true, laidLooks := .later }
def AcceptorKeysUptoCardSaid : Prop := Claim7.holds Tryz.pinned (.plain (OpenSpec.upto acceptorKeysSpec)) acceptorKeysUptoCard

/-- THE SECOND FORM's CARD OF 'legatelaw14.AcceptorFull'. -/
def acceptorFullUptoCard : Claim7 := { stood := { row := acceptorFullUptoRow, standIns := [], harness := (true, "1202481b1bec9c63fbf0ae0e25ec1e0efd40745f5d40642812ab35183bbeca7b"), looks := false }, kinds := [], alts := [], laidByText := true, laidKinds := [.data, .pinned], laidTests := true, laidLooks := .later }
def AcceptorFullUptoCardSaid : Prop := Claim7.holds Tryz.pinned (.plain (OpenSpec.upto acceptorFullSpec)) acceptorFullUptoCard

/-- THE SECOND FORM's CARD OF 'legatelaw14.AcceptorAfter'. -/
def acceptorAfterUptoCard : Claim7 := { stood := { row := acceptorAfterUptoRow, standIns := [], harness := (true, "1202481b1bec9c63fbf0ae0e25ec1e0efd40745f5d40642812ab35183bbeca7b"), looks := false }, kinds := [], alts := [], laidByText := true, laidKinds := [.data, .pinned], laidTests := true, laidLooks := .later }
def AcceptorAfterUptoCardSaid : Prop := Claim7.holds Tryz.pinned (.plain (OpenSpec.upto acceptorAfterSpec)) acceptorAfterUptoCard

/-- THE SECOND FORM's CARD OF 'legatelaw14.AcceptorPlays'. -/
def acceptorPlaysUptoCard : Claim7 := { stood := { row := acceptorPlaysUptoRow, standIns := [], harness := (true, "1202481b1bec9c63fbf0ae0e25ec1e0efd40745f5d40642812ab35183bbeca7b"), looks := false }, kinds := [], alts := [], laidByText := true, laidKinds := [.data, .pinned], laidTests := true, laidLooks := .later }
def AcceptorPlaysUptoCardSaid : Prop := Claim7.holds Tryz.pinned (.plain (OpenSpec.upto acceptorPlaysSpec)) acceptorPlaysUptoCard

/-- THE SECOND FORM's CARD OF 'legatelaw14.AcceptorOnce'. -/
def acceptorOnceUptoCard : Claim7 := { stood := { row := acceptorOnceUptoRow, standIns := [], harness := (true, "1202481b1bec9c63fbf0ae0e25ec1e0efd40745f5d40642812ab35183bbeca7b"), looks := false }, kinds := [], alts := [], laidByText := true, laidKinds := [.data, .pinned], laidTests := true, laidLooks := .later }
def AcceptorOnceUptoCardSaid : Prop := Claim7.holds Tryz.pinned (.plain (OpenSpec.upto acceptorOnceSpec)) acceptorOnceUptoCard

/-- THE SECOND FORM's CARD OF 'legatelaw14.AcceptorOthers'. -/
def acceptorOthersUptoCard : Claim7 := { stood := { row := acceptorOthersUptoRow, standIns := [], harness := (true, "1202481b1bec9c63fbf0ae0e25ec1e0efd40745f5d40642812ab35183bbeca7b"), looks := false }, kinds := [], alts := [], laidByText := true, laidKinds := [.data, .pinned], laidTests := true, laidLooks := .later }
def AcceptorOthersUptoCardSaid : Prop := Claim7.holds Tryz.pinned (.plain (OpenSpec.upto acceptorOthersSpec)) acceptorOthersUptoCard
end Rows
end Go.Proofs.YtikacleldnaphaaGreatDoor
