/-
  DERIVED. GIVEN WITH THE SEED: THE CARDS: each row of YtbejjlmdmakdfaaDoorRows.lean that lists a variable, with what it lists TIED to the program's text (the seventh form; the later family's looks); each row that meets fmt, with fmt's text TOLD by the authors' own Lean function (tested against real Go, not proved from fmt's source: count such statements apart). THE CARD IS WHAT COUNTS. Prove the row's statement (the work); the ties are given (YtbejjlmdmakdfaaDoorTie.lean); close each card by the builder's one call (the guide's Derived/Test/ToyasCard.lean, 'card_holds'). Laid BY PROGRAM, IN A SANDBOX (cutbox-door.mjs). By AI agents, Wed Nov 11 2026. No macro, syntax, notation, axiom, sorry.
-/
import Derived.Test.YtbejjlmdmakdfaaDoorRows
import GoSem.ClaimSeven
namespace Go.Proofs.YtbejjlmdmakdfaaDoor
namespace Rows

/-- THE TIED CARD OF 'legatelaw9.RingFull'. -/
def ringFullCard : Claim7 := { stood := { row := ringFullRow, standIns := [], harness := (true, "c322933103e9db33cafb288f7cb6b8f955947423ab50874111eb814cb45883dd"), looks := false }, kinds := [], alts := [], laidByText := true, laidKinds := [.data, .pinned], laidTests := true, laidLooks := .later }
def RingFullCardSaid : Prop := Claim7.holds Tryd.pinned (.plain (OpenSpec.ofChange ringFullSpec)) ringFullCard

/-- THE TIED CARD OF 'legatelaw9.RingNumbers'. -/
def ringNumbersCard : Claim7 := { stood := { row := ringNumbersRow, standIns := [], harness := (true, "c322933103e9db33cafb288f7cb6b8f955947423ab50874111eb814cb45883dd"), looks := false }, kinds := [], alts := [], laidByText := true, laidKinds := [.data, .pinned], laidTests := true, laidLooks := .later }
def RingNumbersCardSaid : Prop := Claim7.holds Tryd.pinned (.plain (OpenSpec.ofChange ringNumbersSpec)) ringNumbersCard

/-- THE TIED CARD OF 'legatelaw9.RingKeys'. -/
def ringKeysCard : Claim7 := { stood := { row := ringKeysRow, standIns := [], harness := (true, "c322933103e9db33cafb288f7cb6b8f955947423ab50874111eb814cb45883dd"), looks := false }, kinds := [], alts := [], laidByText := true, laidKinds := [.data, .pinned], laidTests := true, laidLooks := .later }
def RingKeysCardSaid : Prop := Claim7.holds Tryd.pinned (.plain (OpenSpec.ofChange ringKeysSpec)) ringKeysCard

/-- THE TIED CARD OF 'legatelaw9.RingOfNothing'. -/
def ringOfNothingCard : Claim7 := { stood := { row := ringOfNothingRow, standIns := [], harness := (true, "c322933103e9db33cafb288f7cb6b8f955947423ab50874111eb814cb45883dd"), looks := false }, kinds := [], alts := [], laidByText := true, laidKinds := [.data, .pinned], laidTests := true, laidLooks := .later }
def RingOfNothingCardSaid : Prop := Claim7.holds Tryd.pinned (.plain (OpenSpec.ofChange ringOfNothingSpec)) ringOfNothingCard

/-- THE TIED CARD OF 'legatelaw8.MsgOthers'. -/
def msgOthersCard : Claim7 := { stood := { row := msgOthersRow, standIns := [], harness := (true, "c322933103e9db33cafb288f7cb6b8f955947423ab50874111eb814cb45883dd"), looks := false }, kinds := [], alts := [], laidByText := true, laidKinds := [.data, .pinned], laidTests := true, laidLooks := .later }
def MsgOthersCardSaid : Prop := Claim7.holds Tryd.pinned (.plain (OpenSpec.ofChange msgOthersSpec)) msgOthersCard

/-- THE TIED CARD OF 'legatelaw8.MsgBounds'. -/
def msgBoundsCard : Claim7 := { stood := { row := msgBoundsRow, standIns := [], harness := (true, "c322933103e9db33cafb288f7cb6b8f955947423ab50874111eb814cb45883dd"), looks := false }, kinds := [], alts := [], laidByText := true, laidKinds := [.data, .pinned], laidTests := true, laidLooks := .later }
def MsgBoundsCardSaid : Prop := Claim7.holds Tryd.pinned (.plain (OpenSpec.ofChange msgBoundsSpec)) msgBoundsCard

/-- THE TIED CARD OF 'legatelaw8.MsgTexts'. -/
def msgTextsCard : Claim7 := { stood := { row := msgTextsRow, standIns := [], harness := (true, "c322933103e9db33cafb288f7cb6b8f955947423ab50874111eb814cb45883dd"), looks := false }, kinds := [], alts := [], laidByText := true, laidKinds := [.data, .pinned], laidTests := true, laidLooks := .later }
def MsgTextsCardSaid : Prop := Claim7.holds Tryd.pinned (.plain (OpenSpec.ofChange msgTextsSpec)) msgTextsCard

/-- THE SECOND FORM's CARD OF 'legatelaw9.RingFull'. -/
def ringFullUptoCard : Claim7 := { stood := { row := ringFullUptoRow, standIns := [], harness := (true, "c322933103e9db33cafb288f7cb6b8f955947423ab50874111eb814cb45883dd"), looks := false }, kinds := [], alts := [], laidByText := true, laidKinds := [.data, .pinned], laidTests := true, laidLooks := .later }
def RingFullUptoCardSaid : Prop := Claim7.holds Tryd.pinned (.plain (OpenSpec.upto ringFullSpec)) ringFullUptoCard

/-- THE SECOND FORM's CARD OF 'legatelaw9.RingNumbers'. -/
def ringNumbersUptoCard : Claim7 := { stood := { row := ringNumbersUptoRow, standIns := [], harness := (true, "c322933103e9db33cafb288f7cb6b8f955947423ab50874111eb814cb45883dd"), looks := false }, kinds := [], alts := [], laidByText := true, laidKinds := [.data, .pinned], laidTests := true, laidLooks := .later }
def RingNumbersUptoCardSaid : Prop := Claim7.holds Tryd.pinned (.plain (OpenSpec.upto ringNumbersSpec)) ringNumbersUptoCard

/-- THE SECOND FORM's CARD OF 'legatelaw9.RingKeys'. -/
def ringKeysUptoCard : Claim7 := { stood := { row := ringKeysUptoRow, standIns := [], harness := (true, "c322933103e9db33cafb288f7cb6b8f955947423ab50874111eb814cb45883dd"), looks := false }, kinds := [], alts := [], laidByText := true, laidKinds := [.data, .pinned], laidTests := true, laidLooks := .later }
def RingKeysUptoCardSaid : Prop := Claim7.holds Tryd.pinned (.plain (OpenSpec.upto ringKeysSpec)) ringKeysUptoCard

/-- THE SECOND FORM's CARD OF 'legatelaw9.RingOfNothing'. -/
def ringOfNothingUptoCard : Claim7 := { stood := { row := ringOfNothingUptoRow, standIns := [], harness := (true, "c322933103e9db33cafb288f7cb6b8f955947423ab50874111eb814cb45883dd"), looks := false }, kinds := [], alts := [], laidByText := true, laidKinds := [.data, .pinned], laidTests := true, laidLooks := .later }
def RingOfNothingUptoCardSaid : Prop := Claim7.holds Tryd.pinned (.plain (OpenSpec.upto ringOfNothingSpec)) ringOfNothingUptoCard

/-- THE SECOND FORM's CARD OF 'legatelaw8.MsgOthers'. -/
def msgOthersUptoCard : Claim7 := { stood := { row := msgOthersUptoRow, standIns := [], harness := (true, "c322933103e9db33cafb288f7cb6b8f955947423ab50874111eb814cb45883dd"), looks := false }, kinds := [], alts := [], laidByText := true, laidKinds := [.data, .pinned], laidTests := true, laidLooks := .later }
def MsgOthersUptoCardSaid : Prop := Claim7.holds Tryd.pinned (.plain (OpenSpec.upto msgOthersSpec)) msgOthersUptoCard

/-- THE SECOND FORM's CARD OF 'legatelaw8.MsgBounds'. -/
def msgBoundsUptoCard : Claim7 := { stood := { row := msgBoundsUptoRow, standIns := [], harness := (true, "c322933103e9db33cafb288f7cb6b8f955947423ab50874111eb814cb45883dd"), looks := false }, kinds := [], alts := [], laidByText := true, laidKinds := [.data, .pinned], laidTests := true, laidLooks := .later }
def MsgBoundsUptoCardSaid : Prop := Claim7.holds Tryd.pinned (.plain (OpenSpec.upto msgBoundsSpec)) msgBoundsUptoCard

/-- THE SECOND FORM's CARD OF 'legatelaw8.MsgTexts'. -/
def msgTextsUptoCard : Claim7 := { stood := { row := msgTextsUptoRow, standIns := [], harness := (true, "c322933103e9db33cafb288f7cb6b8f955947423ab50874111eb814cb45883dd"), looks := false }, kinds := [], alts := [], laidByText := true, laidKinds := [.data, .pinned], laidTests := true, laidLooks := .later }
def MsgTextsUptoCardSaid : Prop := Claim7.holds Tryd.pinned (.plain (OpenSpec.upto msgTextsSpec)) msgTextsUptoCard
end Rows
end Go.Proofs.YtbejjlmdmakdfaaDoor
