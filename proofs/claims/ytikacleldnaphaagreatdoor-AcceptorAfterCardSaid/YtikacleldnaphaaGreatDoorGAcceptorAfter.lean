import Derived.Test.YtikacleldnaphaaGreatDoorCards
import Derived.Test.YtikacleldnaphaaGreatDoorTie
import Derived.WalkKit
import Derived.ProofKit
import Derived.OpenShut
import Derived.Deep.DeepHandedRow
import Derived.Lib.LaidTab
import Derived.ClosedOfChecked
set_option linter.all false
set_option maxRecDepth 100000
namespace Go.Proofs.YtikacleldnaphaaGreatDoor
open Go Go.RowKit
theorem and_l {a b:Bool} (h:(a&&b)=true):a=true:=(Bool.and_eq_true_iff.1 h).1
theorem and_r {a b:Bool} (h:(a&&b)=true):b=true:=(Bool.and_eq_true_iff.1 h).2
theorem and2 {a b:Bool} (h:a=true) (k:b=true):(a&&b)=true:=Bool.and_eq_true_iff.2 ⟨h,k⟩
theorem cl1:Tryz.checked.prog.types=Tryz.checked.src.types:=by kernel_rfl
theorem cl2:(Tryz.checked.prog.globals.all (fun g=>decide (g.type<Tryz.checked.prog.types.size))&&Tryz.checked.prog.funcs.all (fun f=>f.params.all fun t=>decide (t<Tryz.checked.prog.types.size)))=true:=by kernel_rfl
theorem laidOut2:laidOutB Tryz.checked.prog=true∧mapsRowed Tryz.checked.prog=true∧True :=
 have H:=ClosedOfChecked.allSpec_of Tryz.checked.wellFormed cl1
 ⟨ClosedOfChecked.laidOutB_of H cl2,ClosedOfChecked.mapsRowed_of H,trivial⟩
theorem acceptorAfter_keys:(Rows.acceptorAfterRow.plainKeys==Tryz.pinned.checked.prog.plainKeys)=true:=by kernel_rfl
theorem acceptorAfter_g0:((Rows.acceptorAfterRow.inPlace==Tryz.pinned.checked.prog.inPlace 8))=true:=by kernel_rfl
theorem acceptorAfter_g1:((Rows.acceptorAfterRow.unfollowed==Tryz.pinned.checked.prog.unfollowed 8))=true:=by kernel_rfl
theorem acceptorAfter_g2:((Rows.acceptorAfterRow.recurses==Tryz.pinned.checked.prog.recurses 8))=true:=by kernel_rfl
theorem acceptorAfter_g3:((Rows.acceptorAfterRow.named==Tryz.pinned.checked.prog.varsNamed 8))=true:=by kernel_rfl
theorem acceptorAfter_g4:(Rows.acceptorAfterRow.wf (OpenSpec.ofChange (OpenSpec.ofChange Rows.acceptorAfterSpec).bare)&&Tryz.f8.params.all (Tryz.pinned.checked.prog.readableRec ·)&&namedTie Tryz.pinned.checked.prog Rows.acceptorAfterRow.named (OpenSpec.ofChange Rows.acceptorAfterSpec).bare.vars&&(Rows.acceptorAfterRow.stops==[])&&(Tryz.pinned.checked.prog.stops==[])&&(Rows.acceptorAfterRow.knobs==[])&&(Tryz.pinned.checked.prog.stopKnobs==[]))=true:=by kernel_rfl
theorem acceptorAfter_g5:((Rows.acceptorAfterRow.maps==(Tryz.f8.params.toList++(OpenSpec.ofChange Rows.acceptorAfterSpec).bare.plain.varTypes Tryz.pinned.checked.prog).any (Tryz.pinned.checked.prog.mapsRec ·))&&(Rows.acceptorAfterRow.ifaces==(Tryz.f8.params.toList++(OpenSpec.ofChange Rows.acceptorAfterSpec).bare.plain.varTypes Tryz.pinned.checked.prog).any (Tryz.pinned.checked.prog.ifacesRec ·))&&(Rows.acceptorAfterRow.mapsOut==Tryz.pinned.checked.prog.mapsAmong Tryz.f8.resultTypes.toList)&&(Rows.acceptorAfterRow.loops==(Tryz.f8.params.toList++(OpenSpec.ofChange Rows.acceptorAfterSpec).bare.plain.varTypes Tryz.pinned.checked.prog).any (Tryz.pinned.checked.prog.loopsFrom ·))&&(Rows.acceptorAfterRow.wideKeys==(Tryz.f8.params.toList++(OpenSpec.ofChange Rows.acceptorAfterSpec).bare.plain.varTypes Tryz.pinned.checked.prog++Tryz.f8.resultTypes.toList).any (Tryz.pinned.checked.prog.wideKeysFrom ·))&&(OpenSpec.ofChange Rows.acceptorAfterSpec).bare.vars.all (Tryz.pinned.checked.prog.varReadable ·)&&Tryz.f8.resultTypes.all (fun t=>Tryz.pinned.checked.prog.readableRec t&&decide (t<Tryz.pinned.checked.prog.types.size))&&(Rows.acceptorAfterRow.ifacesOut==Tryz.f8.resultTypes.toList.any (Tryz.pinned.checked.prog.ifacesRec ·))&&(Rows.acceptorAfterRow.loopsOut==Tryz.f8.resultTypes.toList.any (Tryz.pinned.checked.prog.loopsFrom ·)))=true:=by kernel_rfl
theorem acceptorAfter_g6:(Rows.acceptorAfterRow.shortTexts.isNone&&Tryz.pinned.checked.prog.stopsHeard&&Tryz.pinned.checked.prog.mayEnter&&(Rows.acceptorAfterRow.lifted==Tryz.pinned.checked.prog.liftsFinal)&&(Tryz.pinned.checked.prog.make==some Rows.acceptorAfterRow.make)&&(Rows.acceptorAfterRow.kinds==(if Rows.acceptorAfterRow.domain.isEmpty then [] else Tryz.f8.params.toList.map fun t=>match Tryz.pinned.checked.prog.underlying t with | some (.int k)=>some k | _=>none))&&(Rows.acceptorAfterRow.pinned==Rows.acceptorAfterRow.pinnedBy)&&(Rows.acceptorAfterRow.veiled==(Tryz.f8.params.toList++(OpenSpec.ofChange Rows.acceptorAfterSpec).bare.plain.varTypes Tryz.pinned.checked.prog++Tryz.f8.resultTypes.toList).any (Tryz.pinned.checked.prog.veiledRec ·))&&Rows.acceptorAfterRow.veiledFits Tryz.pinned.checked.prog Tryz.f8.params.toList (Tryz.f8.params.toList++(OpenSpec.ofChange Rows.acceptorAfterSpec).bare.plain.varTypes Tryz.pinned.checked.prog++Tryz.f8.resultTypes.toList))=true:=by kernel_rfl
theorem acceptorAfter_joined:joinedFacts Tryz.pinned.checked.prog 8 Tryz.f8 (OpenSpec.ofChange Rows.acceptorAfterSpec).bare Rows.acceptorAfterRow=true:=(and2 (and2 (and2 (and2 (and2 (and2 (and2 (and2 (and2 (and2 (and2 (and2 (and2 (and2 (and2 (and2 (and2 (and2 (and2 (and2 (and2 (and2 (and2 (and2 (and2 (and2 (and2 (and2 (and2 (and2 (and2 (and_l (and_l (and_l (and_l (and_l (and_l acceptorAfter_g4)))))) laidOut2.1) laidOut2.2.1) (and_r (and_l (and_l (and_l (and_l (and_l acceptorAfter_g4))))))) (and_r (and_l (and_l (and_l (and_l acceptorAfter_g4)))))) (and_r (and_l (and_l (and_l acceptorAfter_g4))))) (and_r (and_l (and_l acceptorAfter_g4)))) (and_r (and_l acceptorAfter_g4))) (and_r acceptorAfter_g4)) acceptorAfter_g0) acceptorAfter_g1) acceptorAfter_g2) acceptorAfter_g3) (and_l (and_l (and_l (and_l (and_l (and_l (and_l (and_l acceptorAfter_g5))))))))) (and_r (and_l (and_l (and_l (and_l (and_l (and_l (and_l acceptorAfter_g5))))))))) (and_r (and_l (and_l (and_l (and_l (and_l (and_l acceptorAfter_g5)))))))) (and_r (and_l (and_l (and_l (and_l (and_l acceptorAfter_g5))))))) (and_r (and_l (and_l (and_l (and_l acceptorAfter_g5)))))) (and_r (and_l (and_l (and_l acceptorAfter_g5))))) (and_r (and_l (and_l acceptorAfter_g5)))) (and_r (and_l acceptorAfter_g5))) (and_r acceptorAfter_g5)) (acceptorAfter_keys)) (and_l (and_l (and_l (and_l (and_l (and_l (and_l (and_l acceptorAfter_g6))))))))) (and_r (and_l (and_l (and_l (and_l (and_l (and_l (and_l acceptorAfter_g6))))))))) (and_r (and_l (and_l (and_l (and_l (and_l (and_l acceptorAfter_g6)))))))) (and_r (and_l (and_l (and_l (and_l (and_l acceptorAfter_g6))))))) (and_r (and_l (and_l (and_l (and_l acceptorAfter_g6)))))) (and_r (and_l (and_l (and_l acceptorAfter_g6))))) (and_r (and_l (and_l acceptorAfter_g6)))) (and_r (and_l acceptorAfter_g6))) (and_r acceptorAfter_g6))
theorem acceptorAfter_named:Tryz.pinned.checked.prog.funcNamed Rows.acceptorAfterRow.func=some 8:=by kernel_rfl
theorem acceptorAfter_inst:Tryz.f8.isInstance Tryz.pinned.checked.prog Rows.acceptorAfterRow.origin Rows.acceptorAfterRow.targs:=of_decide_eq_true (by kernel_rfl)
theorem acceptorAfter_wrap:Tryz.f8.isWrapper Tryz.pinned.checked.prog Rows.acceptorAfterRow.wrapper Rows.acceptorAfterRow.mainSum:=by unfold Func.isWrapper;first | (rw [if_pos (by decide +kernel)];kernel_rfl) | (rw [if_neg (by decide +kernel)];exact ⟨rfl,rfl⟩)
theorem acceptorAfter_wfText:Rows.acceptorAfterRow.wfByText (OpenSpec.ofChange Rows.acceptorAfterSpec)=true:=by kernel_rfl
theorem acceptorAfter_main : Tryz.pinned.checked.prog.mainIs = some (true, ("1202481b1bec9c63fbf0ae0e25ec1e0efd40745f5d40642812ab35183bbeca7b" : String).toList) := by kernel_rfl
theorem acceptorAfter_hn : Tryz.prog.funcNamed "legate/legatelaw14.AcceptorAfter" = some 8 := by kernel_rfl
theorem acceptorAfter_hall:(Tryz.f8.params.toList.all fun t=>Tryz.prog.wantsStandIn t==false)=true:=by kernel_rfl
theorem acceptorAfter_goes:false=Rows.acceptorAfterRow.goesBy Tryz.pinned.checked.prog:=by kernel_rfl
end Go.Proofs.YtikacleldnaphaaGreatDoor
