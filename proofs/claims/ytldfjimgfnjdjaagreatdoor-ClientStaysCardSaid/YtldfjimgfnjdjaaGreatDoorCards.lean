/-
  DERIVED. GIVEN WITH THE SEED: THE CARDS: each row of YtldfjimgfnjdjaaGreatDoorRows.lean that lists a variable, with what it lists TIED to the program's text (the seventh form; the later family's looks); each row that meets fmt, with fmt's text TOLD by the authors' own Lean function (tested against real Go, not proved from fmt's source: count such statements apart). THE CARD IS WHAT COUNTS. Prove the row's statement (the work); the ties are given (YtldfjimgfnjdjaaGreatDoorTie.lean); close each card by the builder's one call (the guide's Derived/Test/ToyasCard.lean, 'card_holds'). Laid BY PROGRAM, IN A SANDBOX (cutbox-door.mjs). By AI agents, Wed Nov 11 2026. No macro, syntax, notation, axiom, sorry.
-/
import Derived.Test.YtldfjimgfnjdjaaGreatDoorRows
import GoSem.ClaimSeven
namespace Go.Proofs.YtldfjimgfnjdjaaGreatDoor
namespace Rows

/-- THE TIED CARD OF 'legatelaw12.ClientBounds'. -/
def clientBoundsCard : Claim7 := { stood := { row := clientBoundsRow, standIns := [], harness := (true, "a0798a144b673da0f98aec6a33c0d730257128302e469591ab2bf9fa1a6cd5db"), looks := false }, kinds := [], alts := [], laidByText := true, laidKinds := [.data, .pinned], laidTests := true, laidLooks := .later }
def ClientBoundsCardSaid : Prop := Claim7.holds Tryz.pinned (.plain (OpenSpec.ofChange clientBoundsSpec)) clientBoundsCard

/-- THE TIED CARD OF 'legatelaw12.ClientLoops'. -/
def clientLoopsCard : Claim7 := { stood := { row := clientLoopsRow, standIns := [], harness := (true, "a0798a144b673da0f98aec6a33c0d730257128302e469591ab2bf9fa1a6cd5db"), looks := false }, kinds := [], alts := [], laidByText := true, laidKinds := [.data, .pinned], laidTests := true, laidLooks := .later }
def ClientLoopsCardSaid : Prop := Claim7.holds Tryz.pinned (.plain (OpenSpec.ofChange clientLoopsSpec)) clientLoopsCard

/-- THE TIED CARD OF 'legatelaw12.ClientStays'. -/
def clientStaysCard : Claim7 := { stood := { row := clientStaysRow, standIns := [], harness := (true, "a0798a144b673da0f98aec6a33c0d730257128302e469591ab2bf9fa1a6cd5db"), looks := false }, kinds := [], alts := [], laidByText := true, laidKinds := [.data, .pinned], laidTests := true, laidLooks := .later }
def ClientStaysCardSaid : Prop := Claim7.holds Tryz.pinned (.plain (OpenSpec.ofChange clientStaysSpec)) clientStaysCard

/-- THE TIED CARD OF 'legatelaw12.ClientCaches'. -/
def clientCachesCard : Claim7 := { stood := { row := clientCachesRow, standIns := [], harness := (true, "a0798a144b673da0f98aec6a33c0d730257128302e469591ab2bf9fa1a6cd5db"), looks := false }, kinds := [], alts := [], laidByText := true, laidKinds := [.data, .pinned], laidTests := true, laidLooks := .later }
def ClientCachesCardSaid : Prop := Claim7.holds Tryz.pinned (.plain (OpenSpec.ofChange clientCachesSpec)) clientCachesCard

/-- THE TIED CARD OF 'legatelaw12.ClientFirst'. -/
def clientFirstCard : Claim7 := { stood := { row := clientFirstRow, standIns := [], harness := (true, "a0798a144b673da0f98aec6a33c0d730257128302e469591ab2bf9fa1a6cd5db"), looks := false }, kinds := [], alts := [], laidByText := true, laidKinds := [.data, .pinned], laidTests := true, laidLooks := .later }
def ClientFirstCardSaid : Prop := Claim7.holds Tryz.pinned (.plain (OpenSpec.ofChange clientFirstSpec)) clientFirstCard

/-- THE TIED CARD OF 'legatelaw12.ClientFails'. -/
def clientFailsCard : Claim7 := { stood := { row := clientFailsRow, standIns := [], harness := (true, "a0798a144b673da0f98aec6a33c0d730257128302e469591ab2bf9fa1a6cd5db"), looks := false }, kinds := [], alts := [], laidByText := true, laidKinds := [.data, .pinned], laidTests := true, laidLooks := .later }
def ClientFailsCardSaid : Prop := Claim7.holds Tryz.pinned (.plain (OpenSpec.ofChange clientFailsSpec)) clientFailsCard

/-- THE TIED CARD OF 'legatelaw12.ClientRequests'. -/
def clientRequestsCard : Claim7 := { stood := { row := clientRequestsRow, standIns := [], harness := (true, "a0798a144b673da0f98aec6a33c0d730257128302e469591ab2bf9fa1a6cd5db"), looks := false }, kinds := [], alts := [], laidByText := true, laidKinds := [.data, .pinned], laidTests := true, laidLooks := .later }
def ClientRequestsCardSaid : Prop := Claim7.holds Tryz.pinned (.plain (OpenSpec.ofChange clientRequestsSpec)) clientRequestsCard

/-- THE TIED CARD OF 'legatelaw12.ClientAsks'. -/
def clientAsksCard : Claim7 := { stood := { row := clientAsksRow, standIns := [], harness := (true, "a0798a144b673da0f98aec6a33c0d730257128302e469591ab2bf9fa1a6cd5db"), looks := false }, kinds := [], alts := [], laidByText := true, laidKinds := [.data, .pinned], laidTests := true, laidLooks := .later }
def ClientAsksCardSaid : Prop := Claim7.holds Tryz.pinned (.plain (OpenSpec.ofChange clientAsksSpec)) clientAsksCard

/-- THE TIED CARD OF 'legatelaw12.ClientPlays'. -/
def clientPlaysCard : Claim7 := { stood := { row := clientPlaysRow, standIns := [], harness := (true, "a0798a144b673da0f98aec6a33c0d730257128302e469591ab2bf9fa1a6cd5db"), looks := false }, kinds := [], alts := [], laidByText := true, laidKinds := [.data, .pinned], laidTests := true, laidLooks := .later }
def ClientPlaysCardSaid : Prop := Claim7.holds Tryz.pinned (.plain (OpenSpec.ofChange clientPlaysSpec)) clientPlaysCard

/-- THE TIED CARD OF 'legatelaw12.ClientNew'. -/
def clientNewCard : Claim7 := { stood := { row := clientNewRow, standIns := [], harness := (true, "a0798a144b673da0f98aec6a33c0d730257128302e469591ab2bf9fa1a6cd5db"), looks := false }, kinds := [], alts := [], laidByText := true, laidKinds := [.data, .pinned], laidTests := true, laidLooks := .later }
def ClientNewCardSaid : Prop := Claim7.holds Tryz.pinned (.plain (OpenSpec.ofChange clientNewSpec)) clientNewCard

/-- THE SECOND FORM's CARD OF 'legatelaw12.ClientBounds'. -/
def clientBoundsUptoCard : Claim7 := { stood := { row := clientBoundsUptoRow, standIns := [], harness := (true, "a0798a144b673da0f98aec6a33c0d730257128302e469591ab2bf9fa1a6cd5db"), looks := false }, kinds := [], alts := [], laidByText := true, laidKinds := [.data, .pinned], laidTests := true, laidLooks := .later }
def ClientBoundsUptoCardSaid : Prop := Claim7.holds Tryz.pinned (.plain (OpenSpec.upto clientBoundsSpec)) clientBoundsUptoCard

/-- THE SECOND FORM's CARD OF 'legatelaw12.ClientLoops'. -/
def clientLoopsUptoCard : Claim7 := { stood := { row := clientLoopsUptoRow, standIns := [], harness := (true, "a0798a144b673da0f98aec6a33c0d730257128302e469591ab2bf9fa1a6cd5db"), looks := false }, kinds := [], alts := [], laidByText := true, laidKinds := [.data, .pinned], laidTests := true, laidLooks := .later }
def ClientLoopsUptoCardSaid : Prop := Claim7.holds Tryz.pinned (.plain (OpenSpec.upto clientLoopsSpec)) clientLoopsUptoCard

/-- THE SECOND FORM's CARD OF 'legatelaw12.ClientStays'. -/
def clientStaysUptoCard : Claim7 := { stood := { row := clientStaysUptoRow, standIns := [], harness := (true, "a0798a144b673da0f98aec6a33c0d730257128302e469591ab2bf9fa1a6cd5db"), looks := false }, kinds := [], alts := [], laidByText := true, laidKinds := [.data, .pinned], laidTests := true, laidLooks := .later }
def ClientStaysUptoCardSaid : Prop := Claim7.holds Tryz.pinned (.plain (OpenSpec.upto clientStaysSpec)) clientStaysUptoCard

/-- THE SECOND FORM's CARD OF 'legatelaw12.ClientCaches'. -/
def clientCachesUptoCard : Claim7 := { stood := { row := clientCachesUptoRow, standIns := [], harness := (true, "a0798a144b673da0f98aec6a33c0d730257128302e469591ab2bf9fa1a6cd5db"), looks := false }, kinds := [], alts := [], laidByText := true, laidKinds := [.data, .pinned], laidTests := true, laidLooks := .later }
def ClientCachesUptoCardSaid : Prop := Claim7.holds Tryz.pinned (.plain (OpenSpec.upto clientCachesSpec)) clientCachesUptoCard

/-- THE SECOND FORM's CARD OF 'legatelaw12.ClientFirst'. -/
def clientFirstUptoCard : Claim7 := { stood := { row := clientFirstUptoRow, standIns := [], harness := (true, "a0798a144b673da0f98aec6a33c0d730257128302e469591ab2bf9fa1a6cd5db"), looks := false }, kinds := [], alts := [], laidByText := true, laidKinds := [.data, .pinned], laidTests := true, laidLooks := .later }
def ClientFirstUptoCardSaid : Prop := Claim7.holds Tryz.pinned (.plain (OpenSpec.upto clientFirstSpec)) clientFirstUptoCard

/-- THE SECOND FORM's CARD OF 'legatelaw12.ClientFails'. -/
def clientFailsUptoCard : Claim7 := { stood := { row := clientFailsUptoRow, standIns := [], harness := (true, "a0798a144b673da0f98aec6a33c0d730257128302e469591ab2bf9fa1a6cd5db"), looks := false }, kinds := [], alts := [], laidByText := true, laidKinds := [.data, .pinned], laidTests := true, laidLooks := .later }
def ClientFailsUptoCardSaid : Prop := Claim7.holds Tryz.pinned (.plain (OpenSpec.upto clientFailsSpec)) clientFailsUptoCard

/-- THE SECOND FORM's CARD OF 'legatelaw12.ClientRequests'. -/
def clientRequestsUptoCard : Claim7 := { stood := { row := clientRequestsUptoRow, standIns := [], harness := (true, "a0798a144b673da0f98aec6a33c0d730257128302e469591ab2bf9fa1a6cd5db"), looks := false }, kinds := [], alts := [], laidByText := true, laidKinds := [.data, .pinned], laidTests := true, laidLooks := .later }
def ClientRequestsUptoCardSaid : Prop := Claim7.holds Tryz.pinned (.plain (OpenSpec.upto clientRequestsSpec)) clientRequestsUptoCard

/-- THE SECOND FORM's CARD OF 'legatelaw12.ClientAsks'. -/
def clientAsksUptoCard : Claim7 := { stood := { row := clientAsksUptoRow, standIns := [], harness := (true, "a0798a144b673da0f98aec6a33c0d730257128302e469591ab2bf9fa1a6cd5db"), looks := false }, kinds := [], alts := [], laidByText := true, laidKinds := [.data, .pinned], laidTests := true, laidLooks := .later }
def ClientAsksUptoCardSaid : Prop := Claim7.holds Tryz.pinned (.plain (OpenSpec.upto clientAsksSpec)) clientAsksUptoCard

/-- THE SECOND FORM's CARD OF 'legatelaw12.ClientPlays'. -/
def clientPlaysUptoCard : Claim7 := { stood := { row := clientPlaysUptoRow, standIns := [], harness := (true, "a0798a144b673da0f98aec6a33c0d730257128302e469591ab2bf9fa1a6cd5db"), looks := false }, kinds := [], alts := [], laidByText := true, laidKinds := [.data, .pinned], laidTests := true, laidLooks := .later }
def ClientPlaysUptoCardSaid : Prop := Claim7.holds Tryz.pinned (.plain (OpenSpec.upto clientPlaysSpec)) clientPlaysUptoCard

/-- THE SECOND FORM's CARD OF 'legatelaw12.ClientNew'. -/
def clientNewUptoCard : Claim7 := { stood := { row := clientNewUptoRow, standIns := [], harness := (true, "a0798a144b673da0f98aec6a33c0d730257128302e469591ab2bf9fa1a6cd5db"), looks := false }, kinds := [], alts := [], laidByText := true, laidKinds := [.data, .pinned], laidTests := true, laidLooks := .later }
def ClientNewUptoCardSaid : Prop := Claim7.holds Tryz.pinned (.plain (OpenSpec.upto clientNewSpec)) clientNewUptoCard
end Rows
end Go.Proofs.YtldfjimgfnjdjaaGreatDoor
