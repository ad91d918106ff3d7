/-
  NARROWER THAN 'FOR EVERY INPUT', by the rows' own cells (each row's printed sentence says how): RingFull: laid · RingNumbers: laid · RingKeys: laid · RingOfNothing: laid · MsgOthers: laid · MsgBounds: laid · MsgTexts: laid.
  DERIVED. THE GIVEN ROWS OF THIS SEAT. 7 by the template 'for every input the law returns true; each argument reads behind the call as it read before'; 0 by the template 'total and deterministic' (their statements: YtbejjlmdmakdfaaDoorTotals.lean).
  GIVEN WITH THE SEED: the statements are not yours to turn. If you find one false, say at which input.
  Laid BY PROGRAM, IN A SANDBOX (cutbox-rows.mjs): the forced cells as the released guide's own fill.sh prints them over the translation 3a3b37b5d60b848c… (all of the seat's roots in one cut). By AI agents, Wed Nov 11 2026. No macro, syntax, notation, axiom, sorry.
-/
import Derived.Test.YtbejjlmdmakdfaaDoorChecked
import GoSem.PinnedTables
import GoSem.Claim
import GoSem.ClaimJoined
import GoSem.ClaimMapViews
import Derived.JoinedTies
import Derived.KernelRfl
namespace Go.Proofs.YtbejjlmdmakdfaaDoor
/- THE CELL 'sum', in the pinned program and in every row, IS THE sha256 OF THE DUMP (.gsa) THAT YtbejjlmdmakdfaaDoorProg.lean LOADS. Nothing in Lean hashes anything: it is a label: what it is worth is what the hold of that sum in a sandbox is worth. -/
noncomputable def Tryd.pinned : Pinned := { name := "ytbejjlmdmakdfaadoor", sum := "3a3b37b5d60b848c1f23b79bf8ccd66fb1183a4abd2b2a11de15f1f1bbee6817", checked := Tryd.checked }
namespace Rows
def none {H : Type} : Left H := { results := [], args := [] }

/- WHAT THE LISTED PACKAGE-LEVEL VARIABLES READ AS WHEN THE CALL BEGINS. Each datum BY PROGRAM (the guide's laid-datum.mjs) off the statement by which the dump's own 'gosem.cut.vars' lays the variable. In a bare row this is a premise. The card (YtbejjlmdmakdfaaDoorCards.lean) ties it to the program's text. -/
def laid_unicode_utf8_acceptRanges {H : Type} : DataW H := .agg [.agg [.lit (.int .u8 128), .lit (.int .u8 191)], .agg [.lit (.int .u8 160), .lit (.int .u8 191)], .agg [.lit (.int .u8 128), .lit (.int .u8 159)], .agg [.lit (.int .u8 144), .lit (.int .u8 191)], .agg [.lit (.int .u8 128), .lit (.int .u8 143)], .agg [.lit (.int .u8 0), .lit (.int .u8 0)], .agg [.lit (.int .u8 0), .lit (.int .u8 0)], .agg [.lit (.int .u8 0), .lit (.int .u8 0)], .agg [.lit (.int .u8 0), .lit (.int .u8 0)], .agg [.lit (.int .u8 0), .lit (.int .u8 0)], .agg [.lit (.int .u8 0), .lit (.int .u8 0)], .agg [.lit (.int .u8 0), .lit (.int .u8 0)], .agg [.lit (.int .u8 0), .lit (.int .u8 0)], .agg [.lit (.int .u8 0), .lit (.int .u8 0)], .agg [.lit (.int .u8 0), .lit (.int .u8 0)], .agg [.lit (.int .u8 0), .lit (.int .u8 0)]]
/-- One of Go's own tables, pinned by name: the form's constant. -/
def laid_unicode_utf8_first : DataW Unit := Go.Pinned.utf8First

/-- 'legatelaw9.RingFull': WHATEVER THE INPUT: true; the input reads as it did. -/
def ringFullSpec : ChangeSpec := { name := "ringFull", fn := fun _ => fun
  | [d1, d2] => { results := [.lit (.bool true)], args := [d1, d2] }
  | _ => none }
def ringFullRow : OpenClaim := { program := "ytbejjlmdmakdfaadoor", sum := "3a3b37b5d60b848c1f23b79bf8ccd66fb1183a4abd2b2a11de15f1f1bbee6817", func := "legate/legatelaw9.RingFull", spec := "ringFull", inPlace := ["internal/bytealg.CountString", "internal/bytealg.IndexByteString", "internal/bytealg.IndexString"], unfollowed := true, recurses := true, named := ["unicode/utf8.first", "unicode/utf8.acceptRanges", "internal/bytealg.MaxLen"], apart := false, laid := [("unicode/utf8.acceptRanges", laid_unicode_utf8_acceptRanges), ("unicode/utf8.first", laid_unicode_utf8_first)] }
def RingFullSaid : Prop := ringFullRow.holds Tryd.pinned (OpenSpec.ofChange ringFullSpec)

/-- ITS FALSE NEIGHBOUR: 'it returns false'. Refute it at one input. -/
def ringFullWrong : ChangeSpec := { name := "ringFull", fn := fun _ => fun
  | [d1, d2] => { results := [.lit (.bool false)], args := [d1, d2] }
  | _ => none }
def RingFullWrongFalsely : Prop := ringFullRow.holds Tryd.pinned (OpenSpec.ofChange ringFullWrong)

/-- 'legatelaw9.RingNumbers': WHATEVER THE INPUT: true; the input reads as it did. -/
def ringNumbersSpec : ChangeSpec := { name := "ringNumbers", fn := fun _ => fun
  | [d] => { results := [.lit (.bool true)], args := [d] }
  | _ => none }
def ringNumbersRow : OpenClaim := { program := "ytbejjlmdmakdfaadoor", sum := "3a3b37b5d60b848c1f23b79bf8ccd66fb1183a4abd2b2a11de15f1f1bbee6817", func := "legate/legatelaw9.RingNumbers", spec := "ringNumbers", inPlace := ["internal/bytealg.CountString", "internal/bytealg.IndexByteString", "internal/bytealg.IndexString"], unfollowed := true, recurses := true, named := ["unicode/utf8.first", "unicode/utf8.acceptRanges", "internal/bytealg.MaxLen"], apart := false, laid := [("unicode/utf8.acceptRanges", laid_unicode_utf8_acceptRanges), ("unicode/utf8.first", laid_unicode_utf8_first)] }
def RingNumbersSaid : Prop := ringNumbersRow.holds Tryd.pinned (OpenSpec.ofChange ringNumbersSpec)

/-- ITS FALSE NEIGHBOUR: 'it returns false'. Refute it at one input. -/
def ringNumbersWrong : ChangeSpec := { name := "ringNumbers", fn := fun _ => fun
  | [d] => { results := [.lit (.bool false)], args := [d] }
  | _ => none }
def RingNumbersWrongFalsely : Prop := ringNumbersRow.holds Tryd.pinned (OpenSpec.ofChange ringNumbersWrong)

/-- 'legatelaw9.RingKeys': WHATEVER THE INPUT: true; the input reads as it did. -/
def ringKeysSpec : ChangeSpec := { name := "ringKeys", fn := fun _ => fun
  | [d] => { results := [.lit (.bool true)], args := [d] }
  | _ => none }
def ringKeysRow : OpenClaim := { program := "ytbejjlmdmakdfaadoor", sum := "3a3b37b5d60b848c1f23b79bf8ccd66fb1183a4abd2b2a11de15f1f1bbee6817", func := "legate/legatelaw9.RingKeys", spec := "ringKeys", inPlace := ["internal/bytealg.CountString", "internal/bytealg.IndexByteString", "internal/bytealg.IndexString"], unfollowed := true, recurses := true, named := ["unicode/utf8.first", "unicode/utf8.acceptRanges", "internal/bytealg.MaxLen"], apart := false, laid := [("unicode/utf8.acceptRanges", laid_unicode_utf8_acceptRanges), ("unicode/utf8.first", laid_unicode_utf8_first)] }
def RingKeysSaid : Prop := ringKeysRow.holds Tryd.pinned (OpenSpec.ofChange ringKeysSpec)

/-- ITS FALSE NEIGHBOUR: 'it returns false'. Refute it at one input. -/
def ringKeysWrong : ChangeSpec := { name := "ringKeys", fn := fun _ => fun
  | [d] => { results := [.lit (.bool false)], args := [d] }
  | _ => none }
def RingKeysWrongFalsely : Prop := ringKeysRow.holds Tryd.pinned (OpenSpec.ofChange ringKeysWrong)

/-- 'legatelaw9.RingOfNothing': WHATEVER THE INPUT: true; the input reads as it did. -/
def ringOfNothingSpec : ChangeSpec := { name := "ringOfNothing", fn := fun _ => fun
  | [d1, d2] => { results := [.lit (.bool true)], args := [d1, d2] }
  | _ => none }
def ringOfNothingRow : OpenClaim := { program := "ytbejjlmdmakdfaadoor", sum := "3a3b37b5d60b848c1f23b79bf8ccd66fb1183a4abd2b2a11de15f1f1bbee6817", func := "legate/legatelaw9.RingOfNothing", spec := "ringOfNothing", inPlace := ["internal/bytealg.CountString", "internal/bytealg.IndexByteString", "internal/bytealg.IndexString"], unfollowed := true, recurses := true, named := ["unicode/utf8.first", "unicode/utf8.acceptRanges", "internal/bytealg.MaxLen"], apart := false, laid := [("unicode/utf8.acceptRanges", laid_unicode_utf8_acceptRanges), ("unicode/utf8.first", laid_unicode_utf8_first)] }
def RingOfNothingSaid : Prop := ringOfNothingRow.holds Tryd.pinned (OpenSpec.ofChange ringOfNothingSpec)

/-- ITS FALSE NEIGHBOUR: 'it returns false'. Refute it at one input. -/
def ringOfNothingWrong : ChangeSpec := { name := "ringOfNothing", fn := fun _ => fun
  | [d1, d2] => { results := [.lit (.bool false)], args := [d1, d2] }
  | _ => none }
def RingOfNothingWrongFalsely : Prop := ringOfNothingRow.holds Tryd.pinned (OpenSpec.ofChange ringOfNothingWrong)

/-- 'legatelaw8.MsgOthers': WHATEVER THE INPUT: true; the input reads as it did. -/
def msgOthersSpec : ChangeSpec := { name := "msgOthers", fn := fun _ => fun
  | [d1, d2] => { results := [.lit (.bool true)], args := [d1, d2] }
  | _ => none }
def msgOthersRow : OpenClaim := { program := "ytbejjlmdmakdfaadoor", sum := "3a3b37b5d60b848c1f23b79bf8ccd66fb1183a4abd2b2a11de15f1f1bbee6817", func := "legate/legatelaw8.MsgOthers", spec := "msgOthers", inPlace := ["internal/bytealg.CountString", "internal/bytealg.IndexByteString", "internal/bytealg.IndexString"], unfollowed := true, recurses := true, named := ["unicode/utf8.first", "unicode/utf8.acceptRanges", "internal/bytealg.MaxLen"], apart := false, laid := [("unicode/utf8.acceptRanges", laid_unicode_utf8_acceptRanges), ("unicode/utf8.first", laid_unicode_utf8_first)] }
def MsgOthersSaid : Prop := msgOthersRow.holds Tryd.pinned (OpenSpec.ofChange msgOthersSpec)

/-- ITS FALSE NEIGHBOUR: 'it returns false'. Refute it at one input. -/
def msgOthersWrong : ChangeSpec := { name := "msgOthers", fn := fun _ => fun
  | [d1, d2] => { results := [.lit (.bool false)], args := [d1, d2] }
  | _ => none }
def MsgOthersWrongFalsely : Prop := msgOthersRow.holds Tryd.pinned (OpenSpec.ofChange msgOthersWrong)

/-- 'legatelaw8.MsgBounds': WHATEVER THE INPUT: true; the input reads as it did. -/
def msgBoundsSpec : ChangeSpec := { name := "msgBounds", fn := fun _ => fun
  | [d1, d2, d3, d4] => { results := [.lit (.bool true)], args := [d1, d2, d3, d4] }
  | _ => none }
def msgBoundsRow : OpenClaim := { program := "ytbejjlmdmakdfaadoor", sum := "3a3b37b5d60b848c1f23b79bf8ccd66fb1183a4abd2b2a11de15f1f1bbee6817", func := "legate/legatelaw8.MsgBounds", spec := "msgBounds", inPlace := ["internal/bytealg.CountString", "internal/bytealg.IndexByteString", "internal/bytealg.IndexString"], unfollowed := true, recurses := true, named := ["unicode/utf8.first", "unicode/utf8.acceptRanges", "internal/bytealg.MaxLen"], apart := false, laid := [("unicode/utf8.acceptRanges", laid_unicode_utf8_acceptRanges), ("unicode/utf8.first", laid_unicode_utf8_first)] }
def MsgBoundsSaid : Prop := msgBoundsRow.holds Tryd.pinned (OpenSpec.ofChange msgBoundsSpec)

/-- ITS FALSE NEIGHBOUR: 'it returns false'. Refute it at one input. -/
def msgBoundsWrong : ChangeSpec := { name := "msgBounds", fn := fun _ => fun
  | [d1, d2, d3, d4] => { results := [.lit (.bool false)], args := [d1, d2, d3, d4] }
  | _ => none }
def MsgBoundsWrongFalsely : Prop := msgBoundsRow.holds Tryd.pinned (OpenSpec.ofChange msgBoundsWrong)

/-- 'legatelaw8.MsgTexts': WHATEVER THE INPUT: true; the input reads as it did. -/
def msgTextsSpec : ChangeSpec := { name := "msgTexts", fn := fun _ => fun
  | [d] => { results := [.lit (.bool true)], args := [d] }
  | _ => none }
def msgTextsRow : OpenClaim := { program := "ytbejjlmdmakdfaadoor", sum := "3a3b37b5d60b848c1f23b79bf8ccd66fb1183a4abd2b2a11de15f1f1bbee6817", func := "legate/legatelaw8.MsgTexts", spec := "msgTexts", inPlace := ["internal/bytealg.CountString", "internal/bytealg.IndexByteString", "internal/bytealg.IndexString"], unfollowed := true, recurses := true, named := ["unicode/utf8.first", "unicode/utf8.acceptRanges", "internal/bytealg.MaxLen"], apart := false, laid := [("unicode/utf8.acceptRanges", laid_unicode_utf8_acceptRanges), ("unicode/utf8.first", laid_unicode_utf8_first)] }
def MsgTextsSaid : Prop := msgTextsRow.holds Tryd.pinned (OpenSpec.ofChange msgTextsSpec)

/-- ITS FALSE NEIGHBOUR: 'it returns false'. Refute it at one input. -/
def msgTextsWrong : ChangeSpec := { name := "msgTexts", fn := fun _ => fun
  | [d] => { results := [.lit (.bool false)], args := [d] }
  | _ => none }
def MsgTextsWrongFalsely : Prop := msgTextsRow.holds Tryd.pinned (OpenSpec.ofChange msgTextsWrong)

/- THE SECOND FORM. 'bulk': how many values and letters a reading holds, each counted each time it is reached (what is shared counts as often as it is met; a slice's spare places count too). A statement '..UptoSaid' is the law's where the arguments, and the package variables that the reading takes, are together of bulk at most 1048576: NARROWER than '..Said'. Prove '..Said' where nothing that the law and all that it calls make is longer than what came in: it says more and counts as full. Else prove '..UptoSaid'. A law counts once. -/
mutual
def uptoBulk {H : Type} : DataW H → Nat
  | .lit (.string bytes) => bytes.length + 1
  | .lit _ => 1
  | .nil => 1
  | .ptr d => uptoBulk d + 1
  | .slice elems spare => uptoBulkAll elems + uptoBulkAll spare + 1
  | .agg parts => uptoBulkAll parts + 1
  | .iface _ d => uptoBulk d + 1
  | .map entries => uptoBulkEntries entries + 1
  | .held _ => 1
def uptoBulkAll {H : Type} : List (DataW H) → Nat
  | [] => 0
  | d :: r => uptoBulk d + uptoBulkAll r
def uptoBulkEntries {H : Type} : List (Lit × DataW H) → Nat
  | [] => 0
  | x :: r => uptoBulkEntry x + uptoBulkEntries r
def uptoBulkEntry {H : Type} : Lit × DataW H → Nat
  | (.string bytes, d) => bytes.length + uptoBulk d + 1
  | (_, d) => uptoBulk d + 1
 end
def uptoSmall : (H : Type) → List (DataW H) → Bool := fun _ ds => decide (uptoBulkAll ds ≤ 1048576)
def OpenSpec.upto (s : _root_.Go.ChangeSpec) : _root_.Go.OpenSpec := { _root_.Go.OpenSpec.ofChange s with cond := some uptoSmall }

/-- 'legatelaw9.RingFull', WHERE WHAT IT READS IS OF BULK AT MOST 1048576: true; the input reads as it did. -/
def ringFullUptoRow : OpenClaim := { program := "ytbejjlmdmakdfaadoor", sum := "3a3b37b5d60b848c1f23b79bf8ccd66fb1183a4abd2b2a11de15f1f1bbee6817", func := "legate/legatelaw9.RingFull", spec := "ringFull", inPlace := ["internal/bytealg.CountString", "internal/bytealg.IndexByteString", "internal/bytealg.IndexString"], unfollowed := true, recurses := true, named := ["unicode/utf8.first", "unicode/utf8.acceptRanges", "internal/bytealg.MaxLen"], apart := false, laid := [("unicode/utf8.acceptRanges", laid_unicode_utf8_acceptRanges), ("unicode/utf8.first", laid_unicode_utf8_first)], narrowed := true }
def RingFullUptoSaid : Prop := ringFullUptoRow.holds Tryd.pinned (OpenSpec.upto ringFullSpec)

/-- 'legatelaw9.RingNumbers', WHERE WHAT IT READS IS OF BULK AT MOST 1048576: true; the input reads as it did. -/
def ringNumbersUptoRow : OpenClaim := { program := "ytbejjlmdmakdfaadoor", sum := "3a3b37b5d60b848c1f23b79bf8ccd66fb1183a4abd2b2a11de15f1f1bbee6817", func := "legate/legatelaw9.RingNumbers", spec := "ringNumbers", inPlace := ["internal/bytealg.CountString", "internal/bytealg.IndexByteString", "internal/bytealg.IndexString"], unfollowed := true, recurses := true, named := ["unicode/utf8.first", "unicode/utf8.acceptRanges", "internal/bytealg.MaxLen"], apart := false, laid := [("unicode/utf8.acceptRanges", laid_unicode_utf8_acceptRanges), ("unicode/utf8.first", laid_unicode_utf8_first)], narrowed := true }
def RingNumbersUptoSaid : Prop := ringNumbersUptoRow.holds Tryd.pinned (OpenSpec.upto ringNumbersSpec)

/-- 'legatelaw9.RingKeys', WHERE WHAT IT READS IS OF BULK AT MOST 1048576: true; the input reads as it did. -/
def ringKeysUptoRow : OpenClaim := { program := "ytbejjlmdmakdfaadoor", sum := "3a3b37b5d60b848c1f23b79bf8ccd66fb1183a4abd2b2a11de15f1f1bbee6817", func := "legate/legatelaw9.RingKeys", spec := "ringKeys", inPlace := ["internal/bytealg.CountString", "internal/bytealg.IndexByteString", "internal/bytealg.IndexString"], unfollowed := true, recurses := true, named := ["unicode/utf8.first", "unicode/utf8.acceptRanges", "internal/bytealg.MaxLen"], apart := false, laid := [("unicode/utf8.acceptRanges", laid_unicode_utf8_acceptRanges), ("unicode/utf8.first", laid_unicode_utf8_first)], narrowed := true }
def RingKeysUptoSaid : Prop := ringKeysUptoRow.holds Tryd.pinned (OpenSpec.upto ringKeysSpec)

/-- 'legatelaw9.RingOfNothing', WHERE WHAT IT READS IS OF BULK AT MOST 1048576: true; the input reads as it did. -/
def ringOfNothingUptoRow : OpenClaim := { program := "ytbejjlmdmakdfaadoor", sum := "3a3b37b5d60b848c1f23b79bf8ccd66fb1183a4abd2b2a11de15f1f1bbee6817", func := "legate/legatelaw9.RingOfNothing", spec := "ringOfNothing", inPlace := ["internal/bytealg.CountString", "internal/bytealg.IndexByteString", "internal/bytealg.IndexString"], unfollowed := true, recurses := true, named := ["unicode/utf8.first", "unicode/utf8.acceptRanges", "internal/bytealg.MaxLen"], apart := false, laid := [("unicode/utf8.acceptRanges", laid_unicode_utf8_acceptRanges), ("unicode/utf8.first", laid_unicode_utf8_first)], narrowed := true }
def RingOfNothingUptoSaid : Prop := ringOfNothingUptoRow.holds Tryd.pinned (OpenSpec.upto ringOfNothingSpec)

/-- 'legatelaw8.MsgOthers', WHERE WHAT IT READS IS OF BULK AT MOST 1048576: true; the input reads as it did. -/
def msgOthersUptoRow : OpenClaim := { program := "ytbejjlmdmakdfaadoor", sum := "3a3b37b5d60b848c1f23b79bf8ccd66fb1183a4abd2b2a11de15f1f1bbee6817", func := "legate/legatelaw8.MsgOthers", spec := "msgOthers", inPlace := ["internal/bytealg.CountString", "internal/bytealg.IndexByteString", "internal/bytealg.IndexString"], unfollowed := true, recurses := true, named := ["unicode/utf8.first", "unicode/utf8.acceptRanges", "internal/bytealg.MaxLen"], apart := false, laid := [("unicode/utf8.acceptRanges", laid_unicode_utf8_acceptRanges), ("unicode/utf8.first", laid_unicode_utf8_first)], narrowed := true }
def MsgOthersUptoSaid : Prop := msgOthersUptoRow.holds Tryd.pinned (OpenSpec.upto msgOthersSpec)

/-- 'legatelaw8.MsgBounds', WHERE WHAT IT READS IS OF BULK AT MOST 1048576: true; the input reads as it did. -/
def msgBoundsUptoRow : OpenClaim := { program := "ytbejjlmdmakdfaadoor", sum := "3a3b37b5d60b848c1f23b79bf8ccd66fb1183a4abd2b2a11de15f1f1bbee6817", func := "legate/legatelaw8.MsgBounds", spec := "msgBounds", inPlace := ["internal/bytealg.CountString", "internal/bytealg.IndexByteString", "internal/bytealg.IndexString"], unfollowed := true, recurses := true, named := ["unicode/utf8.first", "unicode/utf8.acceptRanges", "internal/bytealg.MaxLen"], apart := false, laid := [("unicode/utf8.acceptRanges", laid_unicode_utf8_acceptRanges), ("unicode/utf8.first", laid_unicode_utf8_first)], narrowed := true }
def MsgBoundsUptoSaid : Prop := msgBoundsUptoRow.holds Tryd.pinned (OpenSpec.upto msgBoundsSpec)

/-- 'legatelaw8.MsgTexts', WHERE WHAT IT READS IS OF BULK AT MOST 1048576: true; the input reads as it did. -/
def msgTextsUptoRow : OpenClaim := { program := "ytbejjlmdmakdfaadoor", sum := "3a3b37b5d60b848c1f23b79bf8ccd66fb1183a4abd2b2a11de15f1f1bbee6817", func := "legate/legatelaw8.MsgTexts", spec := "msgTexts", inPlace := ["internal/bytealg.CountString", "internal/bytealg.IndexByteString", "internal/bytealg.IndexString"], unfollowed := true, recurses := true, named := ["unicode/utf8.first", "unicode/utf8.acceptRanges", "internal/bytealg.MaxLen"], apart := false, laid := [("unicode/utf8.acceptRanges", laid_unicode_utf8_acceptRanges), ("unicode/utf8.first", laid_unicode_utf8_first)], narrowed := true }
def MsgTextsUptoSaid : Prop := msgTextsUptoRow.holds Tryd.pinned (OpenSpec.upto msgTextsSpec)

end Rows
end Go.Proofs.YtbejjlmdmakdfaaDoor
