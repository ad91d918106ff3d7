import Derived.Test.YtikacleldnaphaaGreatDoorCards
import Derived.Test.YtikacleldnaphaaGreatDoorTie
import Derived.WalkKit
import Derived.ProofKit
import Derived.OpenShut
import Derived.Deep.DeepHandedRow
import Derived.Lib.LaidTab
import Derived.ClosedOfChecked
set_option linter.all false
set_option maxRecDepth 100000
namespace Go.Proofs.YtikacleldnaphaaGreatDoor
open Go Go.RowKit
theorem and_l {a b:Bool} (h:(a&&b)=true):a=true:=(Bool.and_eq_true_iff.1 h).1
theorem and_r {a b:Bool} (h:(a&&b)=true):b=true:=(Bool.and_eq_true_iff.1 h).2
theorem and2 {a b:Bool} (h:a=true) (k:b=true):(a&&b)=true:=Bool.and_eq_true_iff.2 ⟨h,k⟩
theorem cl1:Tryz.checked.prog.types=Tryz.checked.src.types:=by kernel_rfl
theorem cl2:(Tryz.checked.prog.globals.all (fun g=>decide (g.type<Tryz.checked.prog.types.size))&&Tryz.checked.prog.funcs.all (fun f=>f.params.all fun t=>decide (t<Tryz.checked.prog.types.size)))=true:=by kernel_rfl
theorem laidOut2:laidOutB Tryz.checked.prog=true∧mapsRowed Tryz.checked.prog=true∧True :=
 have H:=ClosedOfChecked.allSpec_of Tryz.checked.wellFormed cl1
 ⟨ClosedOfChecked.laidOutB_of H cl2,ClosedOfChecked.mapsRowed_of H,trivial⟩
theorem acceptorErrs_keys:(Rows.acceptorErrsRow.plainKeys==Tryz.pinned.checked.prog.plainKeys)=true:=by kernel_rfl
theorem acceptorErrs_g0:((Rows.acceptorErrsRow.inPlace==Tryz.pinned.checked.prog.inPlace 5))=true:=by kernel_rfl
theorem acceptorErrs_g1:((Rows.acceptorErrsRow.unfollowed==Tryz.pinned.checked.prog.unfollowed 5))=true:=by kernel_rfl
theorem acceptorErrs_g2:((Rows.acceptorErrsRow.recurses==Tryz.pinned.checked.prog.recurses 5))=true:=by kernel_rfl
theorem acceptorErrs_g3:((Rows.acceptorErrsRow.named==Tryz.pinned.checked.prog.varsNamed 5))=true:=by kernel_rfl
theorem acceptorErrs_g4:(Rows.acceptorErrsRow.wf (OpenSpec.ofChange (OpenSpec.ofChange Rows.acceptorErrsSpec).bare)&&Tryz.f5.params.all (Tryz.pinned.checked.prog.readableRec ·)&&namedTie Tryz.pinned.checked.prog Rows.acceptorErrsRow.named (OpenSpec.ofChange Rows.acceptorErrsSpec).bare.vars&&(Rows.acceptorErrsRow.stops==[])&&(Tryz.pinned.checked.prog.stops==[])&&(Rows.acceptorErrsRow.knobs==[])&&(Tryz.pinned.checked.prog.stopKnobs==[]))=true:=by kernel_rfl
theorem acceptorErrs_g5:((Rows.acceptorErrsRow.maps==(Tryz.f5.params.toList++(OpenSpec.ofChange Rows.acceptorErrsSpec).bare.plain.varTypes Tryz.pinned.checked.prog).any (Tryz.pinned.checked.prog.mapsRec ·))&&(Rows.acceptorErrsRow.ifaces==(Tryz.f5.params.toList++(OpenSpec.ofChange Rows.acceptorErrsSpec).bare.plain.varTypes Tryz.pinned.checked.prog).any (Tryz.pinned.checked.prog.ifacesRec ·))&&(Rows.acceptorErrsRow.mapsOut==Tryz.pinned.checked.prog.mapsAmong Tryz.f5.resultTypes.toList)&&(Rows.acceptorErrsRow.loops==(Tryz.f5.params.toList++(OpenSpec.ofChange Rows.acceptorErrsSpec).bare.plain.varTypes Tryz.pinned.checked.prog).any (Tryz.pinned.checked.prog.loopsFrom ·))&&(Rows.acceptorErrsRow.wideKeys==(Tryz.f5.params.toList++(OpenSpec.ofChange Rows.acceptorErrsSpec).bare.plain.varTypes Tryz.pinned.checked.prog++Tryz.f5.resultTypes.toList).any (Tryz.pinned.checked.prog.wideKeysFrom ·))&&(OpenSpec.ofChange Rows.acceptorErrsSpec).bare.vars.all (Tryz.pinned.checked.prog.varReadable ·)&&Tryz.f5.resultTypes.all (fun t=>Tryz.pinned.checked.prog.readableRec t&&decide (t<Tryz.pinned.checked.prog.types.size))&&(Rows.acceptorErrsRow.ifacesOut==Tryz.f5.resultTypes.toList.any (Tryz.pinned.checked.prog.ifacesRec ·))&&(Rows.acceptorErrsRow.loopsOut==Tryz.f5.resultTypes.toList.any (Tryz.pinned.checked.prog.loopsFrom ·)))=true:=by kernel_rfl
theorem acceptorErrs_g6:(Rows.acceptorErrsRow.shortTexts.isNone&&Tryz.pinned.checked.prog.stopsHeard&&Tryz.pinned.checked.prog.mayEnter&&(Rows.acceptorErrsRow.lifted==Tryz.pinned.checked.prog.liftsFinal)&&(Tryz.pinned.checked.prog.make==some Rows.acceptorErrsRow.make)&&(Rows.acceptorErrsRow.kinds==(if Rows.acceptorErrsRow.domain.isEmpty then [] else Tryz.f5.params.toList.map fun t=>match Tryz.pinned.checked.prog.underlying t with | some (.int k)=>some k | _=>none))&&(Rows.acceptorErrsRow.pinned==Rows.acceptorErrsRow.pinnedBy)&&(Rows.acceptorErrsRow.veiled==(Tryz.f5.params.toList++(OpenSpec.ofChange Rows.acceptorErrsSpec).bare.plain.varTypes Tryz.pinned.checked.prog++Tryz.f5.resultTypes.toList).any (Tryz.pinned.checked.prog.veiledRec ·))&&Rows.acceptorErrsRow.veiledFits Tryz.pinned.checked.prog Tryz.f5.params.toList (Tryz.f5.params.toList++(OpenSpec.ofChange Rows.acceptorErrsSpec).bare.plain.varTypes Tryz.pinned.checked.prog++Tryz.f5.resultTypes.toList))=true:=by kernel_rfl
theorem acceptorErrs_joined:joinedFacts Tryz.pinned.checked.prog 5 Tryz.f5 (OpenSpec.ofChange Rows.acceptorErrsSpec).bare Rows.acceptorErrsRow=true:=(and2 (and2 (and2 (and2 (and2 (and2 (and2 (and2 (and2 (and2 (and2 (and2 (and2 (and2 (and2 (and2 (and2 (and2 (and2 (and2 (and2 (and2 (and2 (and2 (and2 (and2 (and2 (and2 (and2 (and2 (and2 (and_l (and_l (and_l (and_l (and_l (and_l acceptorErrs_g4)))))) laidOut2.1) laidOut2.2.1) (and_r (and_l (and_l (and_l (and_l (and_l acceptorErrs_g4))))))) (and_r (and_l (and_l (and_l (and_l acceptorErrs_g4)))))) (and_r (and_l (and_l (and_l acceptorErrs_g4))))) (and_r (and_l (and_l acceptorErrs_g4)))) (and_r (and_l acceptorErrs_g4))) (and_r acceptorErrs_g4)) acceptorErrs_g0) acceptorErrs_g1) acceptorErrs_g2) acceptorErrs_g3) (and_l (and_l (and_l (and_l (and_l (and_l (and_l (and_l acceptorErrs_g5))))))))) (and_r (and_l (and_l (and_l (and_l (and_l (and_l (and_l acceptorErrs_g5))))))))) (and_r (and_l (and_l (and_l (and_l (and_l (and_l acceptorErrs_g5)))))))) (and_r (and_l (and_l (and_l (and_l (and_l acceptorErrs_g5))))))) (and_r (and_l (and_l (and_l (and_l acceptorErrs_g5)))))) (and_r (and_l (and_l (and_l acceptorErrs_g5))))) (and_r (and_l (and_l acceptorErrs_g5)))) (and_r (and_l acceptorErrs_g5))) (and_r acceptorErrs_g5)) (acceptorErrs_keys)) (and_l (and_l (and_l (and_l (and_l (and_l (and_l (and_l acceptorErrs_g6))))))))) (and_r (and_l (and_l (and_l (and_l (and_l (and_l (and_l acceptorErrs_g6))))))))) (and_r (and_l (and_l (and_l (and_l (and_l (and_l acceptorErrs_g6)))))))) (and_r (and_l (and_l (and_l (and_l (and_l acceptorErrs_g6))))))) (and_r (and_l (and_l (and_l (and_l acceptorErrs_g6)))))) (and_r (and_l (and_l (and_l acceptorErrs_g6))))) (and_r (and_l (and_l acceptorErrs_g6)))) (and_r (and_l acceptorErrs_g6))) (and_r acceptorErrs_g6))
theorem acceptorErrs_named:Tryz.pinned.checked.prog.funcNamed Rows.acceptorErrsRow.func=some 5:=by kernel_rfl
theorem acceptorErrs_inst:Tryz.f5.isInstance Tryz.pinned.checked.prog Rows.acceptorErrsRow.origin Rows.acceptorErrsRow.targs:=of_decide_eq_true (by kernel_rfl)
theorem acceptorErrs_wrap:Tryz.f5.isWrapper Tryz.pinned.checked.prog Rows.acceptorErrsRow.wrapper Rows.acceptorErrsRow.mainSum:=by unfold Func.isWrapper;first | (rw [if_pos (by decide +kernel)];kernel_rfl) | (rw [if_neg (by decide +kernel)];exact ⟨rfl,rfl⟩)
theorem acceptorErrs_wfText:Rows.acceptorErrsRow.wfByText (OpenSpec.ofChange Rows.acceptorErrsSpec)=true:=by kernel_rfl
theorem acceptorErrs_main : Tryz.pinned.checked.prog.mainIs = some (true, ("1202481b1bec9c63fbf0ae0e25ec1e0efd40745f5d40642812ab35183bbeca7b" : String).toList) := by kernel_rfl
theorem acceptorErrs_hn : Tryz.prog.funcNamed "legate/legatelaw14.AcceptorErrs" = some 5 := by kernel_rfl
theorem acceptorErrs_hall:(Tryz.f5.params.toList.all fun t=>Tryz.prog.wantsStandIn t==false)=true:=by kernel_rfl
theorem acceptorErrs_goes:false=Rows.acceptorErrsRow.goesBy Tryz.pinned.checked.prog:=by kernel_rfl
end Go.Proofs.YtikacleldnaphaaGreatDoor
