import Derived.Test.YtikacleldnaphaaGreatDoorCards
import Derived.Test.YtikacleldnaphaaGreatDoorTie
import Derived.WalkKit
import Derived.ProofKit
import Derived.OpenShut
import Derived.Deep.DeepHandedRow
import Derived.Lib.LaidTab
import Derived.ClosedOfChecked
set_option linter.all false
set_option maxRecDepth 100000
namespace Go.Proofs.YtikacleldnaphaaGreatDoor
open Go Go.RowKit
theorem and_l {a b:Bool} (h:(a&&b)=true):a=true:=(Bool.and_eq_true_iff.1 h).1
theorem and_r {a b:Bool} (h:(a&&b)=true):b=true:=(Bool.and_eq_true_iff.1 h).2
theorem and2 {a b:Bool} (h:a=true) (k:b=true):(a&&b)=true:=Bool.and_eq_true_iff.2 ⟨h,k⟩
theorem cl1:Tryz.checked.prog.types=Tryz.checked.src.types:=by kernel_rfl
theorem cl2:(Tryz.checked.prog.globals.all (fun g=>decide (g.type<Tryz.checked.prog.types.size))&&Tryz.checked.prog.funcs.all (fun f=>f.params.all fun t=>decide (t<Tryz.checked.prog.types.size)))=true:=by kernel_rfl
theorem laidOut2:laidOutB Tryz.checked.prog=true∧mapsRowed Tryz.checked.prog=true∧True :=
 have H:=ClosedOfChecked.allSpec_of Tryz.checked.wellFormed cl1
 ⟨ClosedOfChecked.laidOutB_of H cl2,ClosedOfChecked.mapsRowed_of H,trivial⟩
theorem acceptorTells_keys:(Rows.acceptorTellsRow.plainKeys==Tryz.pinned.checked.prog.plainKeys)=true:=by kernel_rfl
theorem acceptorTells_g0:((Rows.acceptorTellsRow.inPlace==Tryz.pinned.checked.prog.inPlace 3))=true:=by kernel_rfl
theorem acceptorTells_g1:((Rows.acceptorTellsRow.unfollowed==Tryz.pinned.checked.prog.unfollowed 3))=true:=by kernel_rfl
theorem acceptorTells_g2:((Rows.acceptorTellsRow.recurses==Tryz.pinned.checked.prog.recurses 3))=true:=by kernel_rfl
theorem acceptorTells_g3:((Rows.acceptorTellsRow.named==Tryz.pinned.checked.prog.varsNamed 3))=true:=by kernel_rfl
theorem acceptorTells_g4:(Rows.acceptorTellsRow.wf (OpenSpec.ofChange (OpenSpec.ofChange Rows.acceptorTellsSpec).bare)&&Tryz.f3.params.all (Tryz.pinned.checked.prog.readableRec ·)&&namedTie Tryz.pinned.checked.prog Rows.acceptorTellsRow.named (OpenSpec.ofChange Rows.acceptorTellsSpec).bare.vars&&(Rows.acceptorTellsRow.stops==[])&&(Tryz.pinned.checked.prog.stops==[])&&(Rows.acceptorTellsRow.knobs==[])&&(Tryz.pinned.checked.prog.stopKnobs==[]))=true:=by kernel_rfl
theorem acceptorTells_g5:((Rows.acceptorTellsRow.maps==(Tryz.f3.params.toList++(OpenSpec.ofChange Rows.acceptorTellsSpec).bare.plain.varTypes Tryz.pinned.checked.prog).any (Tryz.pinned.checked.prog.mapsRec ·))&&(Rows.acceptorTellsRow.ifaces==(Tryz.f3.params.toList++(OpenSpec.ofChange Rows.acceptorTellsSpec).bare.plain.varTypes Tryz.pinned.checked.prog).any (Tryz.pinned.checked.prog.ifacesRec ·))&&(Rows.acceptorTellsRow.mapsOut==Tryz.pinned.checked.prog.mapsAmong Tryz.f3.resultTypes.toList)&&(Rows.acceptorTellsRow.loops==(Tryz.f3.params.toList++(OpenSpec.ofChange Rows.acceptorTellsSpec).bare.plain.varTypes Tryz.pinned.checked.prog).any (Tryz.pinned.checked.prog.loopsFrom ·))&&(Rows.acceptorTellsRow.wideKeys==(Tryz.f3.params.toList++(OpenSpec.ofChange Rows.acceptorTellsSpec).bare.plain.varTypes Tryz.pinned.checked.prog++Tryz.f3.resultTypes.toList).any (Tryz.pinned.checked.prog.wideKeysFrom ·))&&(OpenSpec.ofChange Rows.acceptorTellsSpec).bare.vars.all (Tryz.pinned.checked.prog.varReadable ·)&&Tryz.f3.resultTypes.all (fun t=>Tryz.pinned.checked.prog.readableRec t&&decide (t<Tryz.pinned.checked.prog.types.size))&&(Rows.acceptorTellsRow.ifacesOut==Tryz.f3.resultTypes.toList.any (Tryz.pinned.checked.prog.ifacesRec ·))&&(Rows.acceptorTellsRow.loopsOut==Tryz.f3.resultTypes.toList.any (Tryz.pinned.checked.prog.loopsFrom ·)))=true:=by kernel_rfl
theorem acceptorTells_g6:(Rows.acceptorTellsRow.shortTexts.isNone&&Tryz.pinned.checked.prog.stopsHeard&&Tryz.pinned.checked.prog.mayEnter&&(Rows.acceptorTellsRow.lifted==Tryz.pinned.checked.prog.liftsFinal)&&(Tryz.pinned.checked.prog.make==some Rows.acceptorTellsRow.make)&&(Rows.acceptorTellsRow.kinds==(if Rows.acceptorTellsRow.domain.isEmpty then [] else Tryz.f3.params.toList.map fun t=>match Tryz.pinned.checked.prog.underlying t with | some (.int k)=>some k | _=>none))&&(Rows.acceptorTellsRow.pinned==Rows.acceptorTellsRow.pinnedBy)&&(Rows.acceptorTellsRow.veiled==(Tryz.f3.params.toList++(OpenSpec.ofChange Rows.acceptorTellsSpec).bare.plain.varTypes Tryz.pinned.checked.prog++Tryz.f3.resultTypes.toList).any (Tryz.pinned.checked.prog.veiledRec ·))&&Rows.acceptorTellsRow.veiledFits Tryz.pinned.checked.prog Tryz.f3.params.toList (Tryz.f3.params.toList++(OpenSpec.ofChange Rows.acceptorTellsSpec).bare.plain.varTypes Tryz.pinned.checked.prog++Tryz.f3.resultTypes.toList))=true:=by kernel_rfl
theorem acceptorTells_joined:joinedFacts Tryz.pinned.checked.prog 3 Tryz.f3 (OpenSpec.ofChange Rows.acceptorTellsSpec).bare Rows.acceptorTellsRow=true:=(and2 (and2 (and2 (and2 (and2 (and2 (and2 (and2 (and2 (and2 (and2 (and2 (and2 (and2 (and2 (and2 (and2 (and2 (and2 (and2 (and2 (and2 (and2 (and2 (and2 (and2 (and2 (and2 (and2 (and2 (and2 (and_l (and_l (and_l (and_l (and_l (and_l acceptorTells_g4)))))) laidOut2.1) laidOut2.2.1) (and_r (and_l (and_l (and_l (and_l (and_l acceptorTells_g4))))))) (and_r (and_l (and_l (and_l (and_l acceptorTells_g4)))))) (and_r (and_l (and_l (and_l acceptorTells_g4))))) (and_r (and_l (and_l acceptorTells_g4)))) (and_r (and_l acceptorTells_g4))) (and_r acceptorTells_g4)) acceptorTells_g0) acceptorTells_g1) acceptorTells_g2) acceptorTells_g3) (and_l (and_l (and_l (and_l (and_l (and_l (and_l (and_l acceptorTells_g5))))))))) (and_r (and_l (and_l (and_l (and_l (and_l (and_l (and_l acceptorTells_g5))))))))) (and_r (and_l (and_l (and_l (and_l (and_l (and_l acceptorTells_g5)))))))) (and_r (and_l (and_l (and_l (and_l (and_l acceptorTells_g5))))))) (and_r (and_l (and_l (and_l (and_l acceptorTells_g5)))))) (and_r (and_l (and_l (and_l acceptorTells_g5))))) (and_r (and_l (and_l acceptorTells_g5)))) (and_r (and_l acceptorTells_g5))) (and_r acceptorTells_g5)) (acceptorTells_keys)) (and_l (and_l (and_l (and_l (and_l (and_l (and_l (and_l acceptorTells_g6))))))))) (and_r (and_l (and_l (and_l (and_l (and_l (and_l (and_l acceptorTells_g6))))))))) (and_r (and_l (and_l (and_l (and_l (and_l (and_l acceptorTells_g6)))))))) (and_r (and_l (and_l (and_l (and_l (and_l acceptorTells_g6))))))) (and_r (and_l (and_l (and_l (and_l acceptorTells_g6)))))) (and_r (and_l (and_l (and_l acceptorTells_g6))))) (and_r (and_l (and_l acceptorTells_g6)))) (and_r (and_l acceptorTells_g6))) (and_r acceptorTells_g6))
theorem acceptorTells_named:Tryz.pinned.checked.prog.funcNamed Rows.acceptorTellsRow.func=some 3:=by kernel_rfl
theorem acceptorTells_inst:Tryz.f3.isInstance Tryz.pinned.checked.prog Rows.acceptorTellsRow.origin Rows.acceptorTellsRow.targs:=of_decide_eq_true (by kernel_rfl)
theorem acceptorTells_wrap:Tryz.f3.isWrapper Tryz.pinned.checked.prog Rows.acceptorTellsRow.wrapper Rows.acceptorTellsRow.mainSum:=by unfold Func.isWrapper;first | (rw [if_pos (by decide +kernel)];kernel_rfl) | (rw [if_neg (by decide +kernel)];exact ⟨rfl,rfl⟩)
theorem acceptorTells_wfText:Rows.acceptorTellsRow.wfByText (OpenSpec.ofChange Rows.acceptorTellsSpec)=true:=by kernel_rfl
theorem acceptorTells_main : Tryz.pinned.checked.prog.mainIs = some (true, ("1202481b1bec9c63fbf0ae0e25ec1e0efd40745f5d40642812ab35183bbeca7b" : String).toList) := by kernel_rfl
theorem acceptorTells_hn : Tryz.prog.funcNamed "legate/legatelaw14.AcceptorTells" = some 3 := by kernel_rfl
theorem acceptorTells_hall:(Tryz.f3.params.toList.all fun t=>Tryz.prog.wantsStandIn t==false)=true:=by kernel_rfl
theorem acceptorTells_goes:false=Rows.acceptorTellsRow.goesBy Tryz.pinned.checked.prog:=by kernel_rfl
end Go.Proofs.YtikacleldnaphaaGreatDoor
