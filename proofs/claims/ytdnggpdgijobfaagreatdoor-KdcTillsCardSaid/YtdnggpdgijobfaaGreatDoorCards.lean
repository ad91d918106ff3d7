/-
  DERIVED. GIVEN WITH THE SEED: THE CARDS: each row of YtdnggpdgijobfaaGreatDoorRows.lean that lists a variable, with what it lists TIED to the program's text (the seventh form; the later family's looks); each row that meets fmt, with fmt's text TOLD by the authors' own Lean function (tested against real Go, not proved from fmt's source: count such statements apart). THE CARD IS WHAT COUNTS. Prove the row's statement (the work); the ties are given (YtdnggpdgijobfaaGreatDoorTie.lean); close each card by the builder's one call (the guide's Derived/Test/ToyasCard.lean, 'card_holds'). Laid BY PROGRAM, IN A SANDBOX (cutbox-door.mjs). By AI agents, Wed Nov 11 2026. No macro, syntax, notation, axiom, sorry.
-/
import Derived.Test.YtdnggpdgijobfaaGreatDoorRows
import GoSem.ClaimSeven
namespace Go.Proofs.YtdnggpdgijobfaaGreatDoor
namespace Rows

/-- THE TIED CARD OF 'legatelaw10.KdcFirst'. -/
def kdcFirstCard : Claim7 := { stood := { row := kdcFirstRow, standIns := [], harness := (true, "485df97083f2a848746c463c7befe76b033b0d0ba34540856cde784224e0a8d8"), looks := false }, kinds := [], alts := [], laidByText := true, laidKinds := [.data, .pinned], laidTests := true, laidLooks := .later }
def KdcFirstCardSaid : Prop := Claim7.holds Tryz.pinned (.plain (OpenSpec.ofChange kdcFirstSpec)) kdcFirstCard

/-- THE TIED CARD OF 'legatelaw10.KdcNonces'. -/
def kdcNoncesCard : Claim7 := { stood := { row := kdcNoncesRow, standIns := [], harness := (true, "485df97083f2a848746c463c7befe76b033b0d0ba34540856cde784224e0a8d8"), looks := false }, kinds := [], alts := [], laidByText := true, laidKinds := [.data, .pinned], laidTests := true, laidLooks := .later }
def KdcNoncesCardSaid : Prop := Claim7.holds Tryz.pinned (.plain (OpenSpec.ofChange kdcNoncesSpec)) kdcNoncesCard

/-- THE TIED CARD OF 'legatelaw10.KdcUnknown'. -/
def kdcUnknownCard : Claim7 := { stood := { row := kdcUnknownRow, standIns := [], harness := (true, "485df97083f2a848746c463c7befe76b033b0d0ba34540856cde784224e0a8d8"), looks := false }, kinds := [], alts := [], laidByText := true, laidKinds := [.data, .pinned], laidTests := true, laidLooks := .later }
def KdcUnknownCardSaid : Prop := Claim7.holds Tryz.pinned (.plain (OpenSpec.ofChange kdcUnknownSpec)) kdcUnknownCard

/-- THE TIED CARD OF 'legatelaw10.KdcFurther'. -/
def kdcFurtherCard : Claim7 := { stood := { row := kdcFurtherRow, standIns := [], harness := (true, "485df97083f2a848746c463c7befe76b033b0d0ba34540856cde784224e0a8d8"), looks := false }, kinds := [], alts := [], laidByText := true, laidKinds := [.data, .pinned], laidTests := true, laidLooks := .later }
def KdcFurtherCardSaid : Prop := Claim7.holds Tryz.pinned (.plain (OpenSpec.ofChange kdcFurtherSpec)) kdcFurtherCard

/-- THE TIED CARD OF 'legatelaw10.KdcRoutes'. -/
def kdcRoutesCard : Claim7 := { stood := { row := kdcRoutesRow, standIns := [], harness := (true, "485df97083f2a848746c463c7befe76b033b0d0ba34540856cde784224e0a8d8"), looks := false }, kinds := [], alts := [], laidByText := true, laidKinds := [.data, .pinned], laidTests := true, laidLooks := .later }
def KdcRoutesCardSaid : Prop := Claim7.holds Tryz.pinned (.plain (OpenSpec.ofChange kdcRoutesSpec)) kdcRoutesCard

/-- THE TIED CARD OF 'legatelaw10.KdcSkews'. -/
def kdcSkewsCard : Claim7 := { stood := { row := kdcSkewsRow, standIns := [], harness := (true, "485df97083f2a848746c463c7befe76b033b0d0ba34540856cde784224e0a8d8"), looks := false }, kinds := [], alts := [], laidByText := true, laidKinds := [.data, .pinned], laidTests := true, laidLooks := .later }
def KdcSkewsCardSaid : Prop := Claim7.holds Tryz.pinned (.plain (OpenSpec.ofChange kdcSkewsSpec)) kdcSkewsCard

/-- THE TIED CARD OF 'legatelaw10.KdcRefuses'. -/
def kdcRefusesCard : Claim7 := { stood := { row := kdcRefusesRow, standIns := [], harness := (true, "485df97083f2a848746c463c7befe76b033b0d0ba34540856cde784224e0a8d8"), looks := false }, kinds := [], alts := [], laidByText := true, laidKinds := [.data, .pinned], laidTests := true, laidLooks := .later }
def KdcRefusesCardSaid : Prop := Claim7.holds Tryz.pinned (.plain (OpenSpec.ofChange kdcRefusesSpec)) kdcRefusesCard

/-- THE TIED CARD OF 'legatelaw10.KdcHops'. -/
def kdcHopsCard : Claim7 := { stood := { row := kdcHopsRow, standIns := [], harness := (true, "485df97083f2a848746c463c7befe76b033b0d0ba34540856cde784224e0a8d8"), looks := false }, kinds := [], alts := [], laidByText := true, laidKinds := [.data, .pinned], laidTests := true, laidLooks := .later }
def KdcHopsCardSaid : Prop := Claim7.holds Tryz.pinned (.plain (OpenSpec.ofChange kdcHopsSpec)) kdcHopsCard

/-- THE TIED CARD OF 'legatelaw10.KdcTills'. -/
def kdcTillsCard : Claim7 := { stood := { row := kdcTillsRow, standIns := [], harness := (true, "485df97083f2a848746c463c7befe76b033b0d0ba34540856cde784224e0a8d8"), looks := false }, kinds := [], alts := [], laidByText := true, laidKinds := [.data, .pinned], laidTests := true, laidLooks := .later }
def KdcTillsCardSaid : Prop := Claim7.holds Tryz.pinned (.plain (OpenSpec.ofChange kdcTillsSpec)) kdcTillsCard

/-- THE TIED CARD OF 'legatelaw10.KdcPlays'. -/
def kdcPlaysCard : Claim7 := { stood := { row := kdcPlaysRow, standIns := [], harness := (true, "485df97083f2a848746c463c7befe76b033b0d0ba34540856cde784224e0a8d8"), looks := false }, kinds := [], alts := [], laidByText := true, laidKinds := [.data, .pinned], laidTests := true, laidLooks := .later }
def KdcPlaysCardSaid : Prop := Claim7.holds Tryz.pinned (.plain (OpenSpec.ofChange kdcPlaysSpec)) kdcPlaysCard

/-- THE TIED CARD OF 'legatelaw10.KdcHandles'. -/
def kdcHandlesCard : Claim7 := { stood := { row := kdcHandlesRow, standIns := [], harness := (true, "485df97083f2a848746c463c7befe76b033b0d0ba34540856cde784224e0a8d8"), looks := false }, kinds := [], alts := [], laidByText := true, laidKinds := [.data, .pinned], laidTests := true, laidLooks := .later }
def KdcHandlesCardSaid : Prop := Claim7.holds Tryz.pinned (.plain (OpenSpec.ofChange kdcHandlesSpec)) kdcHandlesCard

/-- THE TIED CARD OF 'legatelaw10.KdcOfNothing'. -/
def kdcOfNothingCard : Claim7 := { stood := { row := kdcOfNothingRow, standIns := [], harness := (true, "485df97083f2a848746c463c7befe76b033b0d0ba34540856cde784224e0a8d8"), looks := false }, kinds := [], alts := [], laidByText := true, laidKinds := [.data, .pinned], laidTests := true, laidLooks := .later }
def KdcOfNothingCardSaid : Prop := Claim7.holds Tryz.pinned (.plain (OpenSpec.ofChange kdcOfNothingSpec)) kdcOfNothingCard

/-- THE SECOND FORM's CARD OF 'legatelaw10.KdcFirst'. -/
def kdcFirstUptoCard : Claim7 := { stood := { row := kdcFirstUptoRow, standIns := [], harness := (true, "485df97083f2a848746c463c7befe76b033b0d0ba34540856cde784224e0a8d8"), looks := false }, kinds := [], alts := [], laidByText := true, laidKinds := [.data, .pinned], laidTests := true, laidLooks := .later }
def KdcFirstUptoCardSaid : Prop := Claim7.holds Tryz.pinned (.plain (OpenSpec.upto kdcFirstSpec)) kdcFirstUptoCard

/-- THE SECOND FORM's CARD OF 'legatelaw10.KdcNonces'. -/
def kdcNoncesUptoCard : Claim7 := { stood := { row := kdcNoncesUptoRow, standIns := [], harness := (true, "485df97083f2a848746c463c7befe76b033b0d0ba34540856cde784224e0a8d8"), looks := false }, kinds := [], alts := [], laidByText := true, laidKinds := [.data, .pinned], laidTests := true, laidLooks := .later }
def KdcNoncesUptoCardSaid : Prop := Claim7.holds Tryz.pinned (.plain (OpenSpec.upto kdcNoncesSpec)) kdcNoncesUptoCard

/-- THE SECOND FORM's CARD OF 'legatelaw10.KdcUnknown'. -/
def kdcUnknownUptoCard : Claim7 := { stood := { row := kdcUnknownUptoRow, standIns := [], harness := (true, "485df97083f2a848746c463c7befe76b033b0d0ba34540856cde784224e0a8d8"), looks := false }, kinds := [], alts := [], laidByText := true, laidKinds := [.data, .pinned], laidTests := true, laidLooks := .later }
def KdcUnknownUptoCardSaid : Prop := Claim7.holds Tryz.pinned (.plain (OpenSpec.upto kdcUnknownSpec)) kdcUnknownUptoCard

/-- THE SECOND FORM's CARD OF 'legatelaw10.KdcFurther'. -/
def kdcFurtherUptoCard : Claim7 := { stood := { row := kdcFurtherUptoRow, standIns := [], harness := (true, "485df97083f2a848746c463c7befe76b033b0d0ba34540856cde784224e0a8d8"), looks := false }, kinds := [], alts := [], laidByText := true, laidKinds := [.data, .pinned], laidTests := true, laidLooks := .later }
def KdcFurtherUptoCardSaid : Prop := Claim7.holds Tryz.pinned (.plain (OpenSpec.upto kdcFurtherSpec)) kdcFurtherUptoCard

/-- THE SECOND FORM's CARD OF 'legatelaw10.KdcRoutes'. -/
def kdcRoutesUptoCard : Claim7 := { stood := { row := kdcRoutesUptoRow, standIns := [], harness := (true, "485df97083f2a848746c463c7befe76b033b0d0ba34540856cde784224e0a8d8"), looks := false }, kinds := [], alts := [], laidByText := true, laidKinds := [.data, .pinned], laidTests := true, laidLooks := .later }
def KdcRoutesUptoCardSaid : Prop := Claim7.holds Tryz.pinned (.plain (OpenSpec.upto kdcRoutesSpec)) kdcRoutesUptoCard

/-- THE SECOND FORM's CARD OF 'legatelaw10.KdcSkews'. -/
def kdcSkewsUptoCard : Claim7 := { stood := { row := kdcSkewsUptoRow, standIns := [], harness := (true, "485df97083f2a848746c463c7befe76b033b0d0ba34540856cde784224e0a8d8"), looks := false }, kinds := [], alts := [], laidByText := true, laidKinds := [.data, .pinned], laidTests := true, laidLooks := .later }
def KdcSkewsUptoCardSaid : Prop := Claim7.holds Tryz.pinned (.plain (OpenSpec.upto kdcSkewsSpec)) kdcSkewsUptoCard

/-- THE SECOND FORM's CARD OF 'legatelaw10.KdcRefuses'. -/
def kdcRefusesUptoCard : Claim7 := { stood := { row := kdcRefusesUptoRow, standIns := [], harness := (true, "485df97083f2a848746c463c7befe76b033b0d0ba34540856cde784224e0a8d8"), looks := false }, kinds := [], alts := [], laidByText := true, laidKinds := [.data, .pinned], laidTests := true, laidLooks := .later }
def KdcRefusesUptoCardSaid : Prop := Claim7.holds Tryz.pinned (.plain (OpenSpec.upto kdcRefusesSpec)) kdcRefusesUptoCard

/-- THE SECOND FORM's CARD OF 'legatelaw10.KdcHops'. -/
def kdcHopsUptoCard : Claim7 := { stood := { row := kdcHopsUptoRow, standIns := [], harness := (true, "485df97083f2a848746c463c7befe76b033b0d0ba34540856cde784224e0a8d8"), looks := false }, kinds := [], alts := [], laidByText := true, laidKinds := [.data, .pinned], laidTests := true, laidLooks := .later }
def KdcHopsUptoCardSaid : Prop := Claim7.holds Tryz.pinned (.plain (OpenSpec.upto kdcHopsSpec)) kdcHopsUptoCard

/-- THE SECOND FORM's CARD OF 'legatelaw10.KdcTills'. -/
def kdcTillsUptoCard : Claim7 := { stood := { row := kdcTillsUptoRow, standIns := [], harness := (true, "485df97083f2a848746c463c7befe76b033b0d0ba34540856cde784224e0a8d8"), looks := false }, kinds := [], alts := [], laidByText := true, laidKinds := [.data, .pinned], laidTests := true, laidLooks := .later }
def KdcTillsUptoCardSaid : Prop := Claim7.holds Tryz.pinned (.plain (OpenSpec.upto kdcTillsSpec)) kdcTillsUptoCard

/-- THE SECOND FORM's CARD OF 'legatelaw10.KdcPlays'. -/
def kdcPlaysUptoCard : Claim7 := { stood := { row := kdcPlaysUptoRow, standIns := [], harness := (true, "485df97083f2a848746c463c7befe76b033b0d0ba34540856cde784224e0a8d8"), looks := false }, kinds := [], alts := [], laidByText := true, laidKinds := [.data, .pinned], laidTests := true, laidLooks := .later }
def KdcPlaysUptoCardSaid : Prop := Claim7.holds Tryz.pinned (.plain (OpenSpec.upto kdcPlaysSpec)) kdcPlaysUptoCard

/-- THE SECOND FORM's CARD OF 'legatelaw10.KdcHandles'. -/
def kdcHandlesUptoCard : Claim7 := { stood := { row := kdcHandlesUptoRow, standIns := [], harness := (true, "485df97083f2a848746c463c7befe76b033b0d0ba34540856cde784224e0a8d8"), looks := false }, kinds := [], alts := [], laidByText := true, laidKinds := [.data, .pinned], laidTests := true, laidLooks := .later }
def KdcHandlesUptoCardSaid : Prop := Claim7.holds Tryz.pinned (.plain (OpenSpec.upto kdcHandlesSpec)) kdcHandlesUptoCard

/-- THE SECOND FORM's CARD OF 'legatelaw10.KdcOfNothing'. -/
def kdcOfNothingUptoCard : Claim7 := { stood := { row := kdcOfNothingUptoRow, standIns := [], harness := (true, "485df97083f2a848746c463c7befe76b033b0d0ba34540856cde784224e0a8d8"), looks := false }, kinds := [], alts := [], laidByText := true, laidKinds := [.data, .pinned], laidTests := true, laidLooks := .later }
def KdcOfNothingUptoCardSaid : Prop := Claim7.holds Tryz.pinned (.plain (OpenSpec.upto kdcOfNothingSpec)) kdcOfNothingUptoCard
end Rows
end Go.Proofs.YtdnggpdgijobfaaGreatDoor
