/-
  DERIVED. GIVEN WITH THE SEED: THE CARDS: each row of YtbejjlmdmakdfaaGreatDoorRows.lean that lists a variable, with what it lists TIED to the program's text (the seventh form; the later family's looks); each row that meets fmt, with fmt's text TOLD by the authors' own Lean function (tested against real Go, not proved from fmt's source: count such statements apart). THE CARD IS WHAT COUNTS. Prove the row's statement (the work); the ties are given (YtbejjlmdmakdfaaGreatDoorTie.lean); close each card by the builder's one call (the guide's Derived/Test/ToyasCard.lean, 'card_holds'). Laid BY PROGRAM, IN A SANDBOX (cutbox-door.mjs). By AI agents, Wed Nov 11 2026. No macro, syntax, notation, axiom, sorry.
-/
import Derived.Test.YtbejjlmdmakdfaaGreatDoorRows
import GoSem.ClaimSeven
namespace Go.Proofs.YtbejjlmdmakdfaaGreatDoor
namespace Rows

/-- THE TIED CARD OF 'legatelaw8.MsgOne'. -/
def msgOneCard : Claim7 := { stood := { row := msgOneRow, standIns := [], harness := (true, "f9b09b824f1cb81b74dcda7aa6a52ed3ea3ee9fe2882cf862edb7c5ee1925057"), looks := false }, kinds := [], alts := [], laidByText := true, laidKinds := [.data, .pinned], laidTests := true, laidLooks := .later }
def MsgOneCardSaid : Prop := Claim7.holds Tryz.pinned (.plain (OpenSpec.ofChange msgOneSpec)) msgOneCard

/-- THE TIED CARD OF 'legatelaw8.MsgParts'. -/
def msgPartsCard : Claim7 := { stood := { row := msgPartsRow, standIns := [], harness := (true, "f9b09b824f1cb81b74dcda7aa6a52ed3ea3ee9fe2882cf862edb7c5ee1925057"), looks := false }, kinds := [], alts := [], laidByText := true, laidKinds := [.data, .pinned], laidTests := true, laidLooks := .later }
def MsgPartsCardSaid : Prop := Claim7.holds Tryz.pinned (.plain (OpenSpec.ofChange msgPartsSpec)) msgPartsCard

/-- THE TIED CARD OF 'legatelaw9.RingPlays'. -/
def ringPlaysCard : Claim7 := { stood := { row := ringPlaysRow, standIns := [], harness := (true, "f9b09b824f1cb81b74dcda7aa6a52ed3ea3ee9fe2882cf862edb7c5ee1925057"), looks := false }, kinds := [], alts := [], laidByText := true, laidKinds := [.data, .pinned], laidTests := true, laidLooks := .later }
def RingPlaysCardSaid : Prop := Claim7.holds Tryz.pinned (.plain (OpenSpec.ofChange ringPlaysSpec)) ringPlaysCard

/-- THE TIED CARD OF 'legatelaw8.MsgTells'. -/
def msgTellsCard : Claim7 := { stood := { row := msgTellsRow, standIns := [], harness := (true, "f9b09b824f1cb81b74dcda7aa6a52ed3ea3ee9fe2882cf862edb7c5ee1925057"), looks := false }, kinds := [], alts := [], laidByText := true, laidKinds := [.data, .pinned], laidTests := true, laidLooks := .later }
def MsgTellsCardSaid : Prop := Claim7.holds Tryz.pinned (.plain (OpenSpec.ofChange msgTellsSpec)) msgTellsCard

/-- THE TIED CARD OF 'legatelaw9.RingOld'. -/
def ringOldCard : Claim7 := { stood := { row := ringOldRow, standIns := [], harness := (true, "f9b09b824f1cb81b74dcda7aa6a52ed3ea3ee9fe2882cf862edb7c5ee1925057"), looks := false }, kinds := [], alts := [], laidByText := true, laidKinds := [.data, .pinned], laidTests := true, laidLooks := .later }
def RingOldCardSaid : Prop := Claim7.holds Tryz.pinned (.plain (OpenSpec.ofChange ringOldSpec)) ringOldCard

/-- THE TIED CARD OF 'legatelaw9.RingShares'. -/
def ringSharesCard : Claim7 := { stood := { row := ringSharesRow, standIns := [], harness := (true, "f9b09b824f1cb81b74dcda7aa6a52ed3ea3ee9fe2882cf862edb7c5ee1925057"), looks := false }, kinds := [], alts := [], laidByText := true, laidKinds := [.data, .pinned], laidTests := true, laidLooks := .later }
def RingSharesCardSaid : Prop := Claim7.holds Tryz.pinned (.plain (OpenSpec.ofChange ringSharesSpec)) ringSharesCard

/-- THE TIED CARD OF 'legatelaw8.MsgBack'. -/
def msgBackCard : Claim7 := { stood := { row := msgBackRow, standIns := [], harness := (true, "f9b09b824f1cb81b74dcda7aa6a52ed3ea3ee9fe2882cf862edb7c5ee1925057"), looks := false }, kinds := [], alts := [], laidByText := true, laidKinds := [.data, .pinned], laidTests := true, laidLooks := .later }
def MsgBackCardSaid : Prop := Claim7.holds Tryz.pinned (.plain (OpenSpec.ofChange msgBackSpec)) msgBackCard

/-- THE TIED CARD OF 'legatelaw8.MsgKinds'. -/
def msgKindsCard : Claim7 := { stood := { row := msgKindsRow, standIns := [], harness := (true, "f9b09b824f1cb81b74dcda7aa6a52ed3ea3ee9fe2882cf862edb7c5ee1925057"), looks := false }, kinds := [], alts := [], laidByText := true, laidKinds := [.data, .pinned], laidTests := true, laidLooks := .later }
def MsgKindsCardSaid : Prop := Claim7.holds Tryz.pinned (.plain (OpenSpec.ofChange msgKindsSpec)) msgKindsCard

/-- THE SECOND FORM's CARD OF 'legatelaw8.MsgOne'. -/
def msgOneUptoCard : Claim7 := { stood := { row := msgOneUptoRow, standIns := [], harness := (true, "f9b09b824f1cb81b74dcda7aa6a52ed3ea3ee9fe2882cf862edb7c5ee1925057"), looks := false }, kinds := [], alts := [], laidByText := true, laidKinds := [.data, .pinned], laidTests := true, laidLooks := .later }
def MsgOneUptoCardSaid : Prop := Claim7.holds Tryz.pinned (.plain (OpenSpec.upto msgOneSpec)) msgOneUptoCard

/-- THE SECOND FORM's CARD OF 'legatelaw8.MsgParts'. -/
def msgPartsUptoCard : Claim7 := { stood := { row := msgPartsUptoRow, standIns := [], harness := (true, "f9b09b824f1cb81b74dcda7aa6a52ed3ea3ee9fe2882cf862edb7c5ee1925057"), looks := false }, kinds := [], alts := [], laidByText := true, laidKinds := [.data, .pinned], laidTests := true, laidLooks := .later }
def MsgPartsUptoCardSaid : Prop := Claim7.holds Tryz.pinned (.plain (OpenSpec.upto msgPartsSpec)) msgPartsUptoCard

/-- THE SECOND FORM's CARD OF 'legatelaw9.RingPlays'. -/
def ringPlaysUptoCard : Claim7 := { stood := { row := ringPlaysUptoRow, standIns := [], harness := (true, "f9b09b824f1cb81b74dcda7aa6a52ed3ea3ee9fe2882cf862edb7c5ee1925057"), looks := false }, kinds := [], alts := [], laidByText := true, laidKinds := [.data, .pinned], laidTests := true, laidLooks := .later }
def RingPlaysUptoCardSaid : Prop := Claim7.holds Tryz.pinned (.plain (OpenSpec.upto ringPlaysSpec)) ringPlaysUptoCard

/-- THE SECOND FORM's CARD OF 'legatelaw8.MsgTells'. -/
def msgTellsUptoCard : Claim7 := { stood := { row := msgTellsUptoRow, standIns := [], harness := (true, "f9b09b824f1cb81b74dcda7aa6a52ed3ea3ee9fe2882cf862edb7c5ee1925057"), looks := false }, kinds := [], alts := [], laidByText := true, laidKinds := [.data, .pinned], laidTests := true, laidLooks := .later }
def MsgTellsUptoCardSaid : Prop := Claim7.holds Tryz.pinned (.plain (OpenSpec.upto msgTellsSpec)) msgTellsUptoCard

/-- THE SECOND FORM's CARD OF 'legatelaw9.RingOld'. -/
def ringOldUptoCard : Claim7 := { stood := { row := ringOldUptoRow, standIns := [], harness := (true, "f9b09b824f1cb81b74dcda7aa6a52ed3ea3ee9fe2882cf862edb7c5ee1925057"), looks := false }, kinds := [], alts := [], laidByText := true, laidKinds := [.data, .pinned], laidTests := true, laidLooks := .later }
def RingOldUptoCardSaid : Prop := Claim7.holds Tryz.pinned (.plain (OpenSpec.upto ringOldSpec)) ringOldUptoCard

/-- THE SECOND FORM's CARD OF 'legatelaw9.RingShares'. -/
def ringSharesUptoCard : Claim7 := { stood := { row := ringSharesUptoRow, standIns := [], harness := (true, "f9b09b824f1cb81b74dcda7aa6a52ed3ea3ee9fe2882cf862edb7c5ee1925057"), looks := false }, kinds := [], alts := [], laidByText := true, laidKinds := [.data, .pinned], laidTests := true, laidLooks := .later }
def RingSharesUptoCardSaid : Prop := Claim7.holds Tryz.pinned (.plain (OpenSpec.upto ringSharesSpec)) ringSharesUptoCard

/-- THE SECOND FORM's CARD OF 'legatelaw8.MsgBack'. -/
def msgBackUptoCard : Claim7 := { stood := { row := msgBackUptoRow, standIns := [], harness := (true, "f9b09b824f1cb81b74dcda7aa6a52ed3ea3ee9fe2882cf862edb7c5ee1925057"), looks := false }, kinds := [], alts := [], laidByText := true, laidKinds := [.data, .pinned], laidTests := true, laidLooks := .later }
def MsgBackUptoCardSaid : Prop := Claim7.holds Tryz.pinned (.plain (OpenSpec.upto msgBackSpec)) msgBackUptoCard

/-- THE SECOND FORM's CARD OF 'legatelaw8.MsgKinds'. -/
def msgKindsUptoCard : Claim7 := { stood := { row := msgKindsUptoRow, standIns := [], harness := (true, "f9b09b824f1cb81b74dcda7aa6a52ed3ea3ee9fe2882cf862edb7c5ee1925057"), looks := false }, kinds := [], alts := [], laidByText := true, laidKinds := [.data, .pinned], laidTests := true, laidLooks := .later }
def MsgKindsUptoCardSaid : Prop := Claim7.holds Tryz.pinned (.plain (OpenSpec.upto msgKindsSpec)) msgKindsUptoCard
end Rows
end Go.Proofs.YtbejjlmdmakdfaaGreatDoor
