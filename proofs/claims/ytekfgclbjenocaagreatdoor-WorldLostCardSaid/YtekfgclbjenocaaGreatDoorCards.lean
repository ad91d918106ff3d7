/-
  DERIVED. GIVEN WITH THE SEED: THE CARDS: each row of YtekfgclbjenocaaGreatDoorRows.lean that lists a variable, with what it lists TIED to the program's text (the seventh form; the later family's looks); each row that meets fmt, with fmt's text TOLD by the authors' own Lean function (tested against real Go, not proved from fmt's source: count such statements apart). THE CARD IS WHAT COUNTS. Prove the row's statement (the work); the ties are given (YtekfgclbjenocaaGreatDoorTie.lean); close each card by the builder's one call (the guide's Derived/Test/ToyasCard.lean, 'card_holds'). Laid BY PROGRAM, IN A SANDBOX (cutbox-door.mjs). By AI agents, Wed Nov 11 2026. No macro, syntax, notation, axiom, sorry.
-/
import Derived.Test.YtekfgclbjenocaaGreatDoorRows
import GoSem.ClaimSeven
namespace Go.Proofs.YtekfgclbjenocaaGreatDoor
namespace Rows

/-- THE TIED CARD OF 'legatelaw16.WorldLeaks'. -/
def worldLeaksCard : Claim7 := { stood := { row := worldLeaksRow, standIns := [], harness := (true, "675625997fc596a314cda4622505face431a3b6b12395e481d998f427e7dce83"), looks := false }, kinds := [], alts := [], laidByText := true, laidKinds := [.data, .pinned], laidTests := true, laidLooks := .later }
def WorldLeaksCardSaid : Prop := Claim7.holds Tryz.pinned (.plain (OpenSpec.ofChange worldLeaksSpec)) worldLeaksCard

/-- THE TIED CARD OF 'legatelaw16.WorldLost'. -/
def worldLostCard : Claim7 := { stood := { row := worldLostRow, standIns := [], harness := (true, "675625997fc596a314cda4622505face431a3b6b12395e481d998f427e7dce83"), looks := false }, kinds := [], alts := [], laidByText := true, laidKinds := [.data, .pinned], laidTests := true, laidLooks := .later }
def WorldLostCardSaid : Prop := Claim7.holds Tryz.pinned (.plain (OpenSpec.ofChange worldLostSpec)) worldLostCard

/-- THE TIED CARD OF 'legatelaw16.WorldOfNothing'. -/
def worldOfNothingCard : Claim7 := { stood := { row := worldOfNothingRow, standIns := [], harness := (true, "675625997fc596a314cda4622505face431a3b6b12395e481d998f427e7dce83"), looks := false }, kinds := [], alts := [], laidByText := true, laidKinds := [.data, .pinned], laidTests := true, laidLooks := .later }
def WorldOfNothingCardSaid : Prop := Claim7.holds Tryz.pinned (.plain (OpenSpec.ofChange worldOfNothingSpec)) worldOfNothingCard

/-- THE SECOND FORM's CARD OF 'legatelaw16.WorldLeaks'. -/
def worldLeaksUptoCard : Claim7 := { stood := { row := worldLeaksUptoRow, standIns := [], harness := (true, "675625997fc596a314cda4622505face431a3b6b12395e481d998f427e7dce83"), looks := false }, kinds := [], alts := [], laidByText := true, laidKinds := [.data, .pinned], laidTests := true, laidLooks := .later }
def WorldLeaksUptoCardSaid : Prop := Claim7.holds Tryz.pinned (.plain (OpenSpec.upto worldLeaksSpec)) worldLeaksUptoCard

/-- THE SECOND FORM's CARD OF 'legatelaw16.WorldLost'. -/
def worldLostUptoCard : Claim7 := { stood := { row := worldLostUptoRow, standIns := [], harness := (true, "675625997fc596a314cda4622505face431a3b6b12395e481d998f427e7dce83"), looks := false }, kinds := [], alts := [], laidByText := true, laidKinds := [.data, .pinned], laidTests := true, laidLooks := .later }
def WorldLostUptoCardSaid : Prop := Claim7.holds Tryz.pinned (.plain (OpenSpec.upto worldLostSpec)) worldLostUptoCard

/-- THE SECOND FORM's CARD OF 'legatelaw16.WorldOfNothing'. -/
def worldOfNothingUptoCard : Claim7 := { stood := { row := worldOfNothingUptoRow, standIns := [], harness := (true, "675625997fc596a314cda4622505face431a3b6b12395e481d998f427e7dce83"), looks := false }, kinds := [], alts := [], laidByText := true, laidKinds := [.data, .pinned], laidTests := true, laidLooks := .later }
def WorldOfNothingUptoCardSaid : Prop := Claim7.holds Tryz.pinned (.plain (OpenSpec.upto worldOfNothingSpec)) worldOfNothingUptoCard
end Rows
end Go.Proofs.YtekfgclbjenocaaGreatDoor
