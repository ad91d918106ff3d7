import Derived.Test.YtikacleldnaphaaGreatDoorCards
import Derived.Test.YtikacleldnaphaaGreatDoorTie
import Derived.WalkKit
import Derived.ProofKit
import Derived.OpenShut
import Derived.Deep.DeepHandedRow
import Derived.Lib.LaidTab
import Derived.ClosedOfChecked
set_option linter.all false
set_option maxRecDepth 100000
namespace Go.Proofs.YtikacleldnaphaaGreatDoor
open Go Go.RowKit
theorem and_l {a b:Bool} (h:(a&&b)=true):a=true:=(Bool.and_eq_true_iff.1 h).1
theorem and_r {a b:Bool} (h:(a&&b)=true):b=true:=(Bool.and_eq_true_iff.1 h).2
theorem and2 {a b:Bool} (h:a=true) (k:b=true):(a&&b)=true:=Bool.and_eq_true_iff.2 ⟨h,k⟩
theorem cl1:Tryz.checked.prog.types=Tryz.checked.src.types:=by kernel_rfl
theorem cl2:(Tryz.checked.prog.globals.all (fun g=>decide (g.type<Tryz.checked.prog.types.size))&&Tryz.checked.prog.funcs.all (fun f=>f.params.all fun t=>decide (t<Tryz.checked.prog.types.size)))=true:=by kernel_rfl
theorem laidOut2:laidOutB Tryz.checked.prog=true∧mapsRowed Tryz.checked.prog=true∧True :=
 have H:=ClosedOfChecked.allSpec_of Tryz.checked.wellFormed cl1
 ⟨ClosedOfChecked.laidOutB_of H cl2,ClosedOfChecked.mapsRowed_of H,trivial⟩
theorem acceptorKeys_keys:(Rows.acceptorKeysRow.plainKeys==Tryz.pinned.checked.prog.plainKeys)=true:=by kernel_rfl
theorem acceptorKeys_g0:((Rows.acceptorKeysRow.inPlace==Tryz.pinned.checked.prog.inPlace 6))=true:=by kernel_rfl
theorem acceptorKeys_g1:((Rows.acceptorKeysRow.unfollowed==Tryz.pinned.checked.prog.unfollowed 6))=true:=by kernel_rfl
theorem acceptorKeys_g2:((Rows.acceptorKeysRow.recurses==Tryz.pinned.checked.prog.recurses 6))=true:=by kernel_rfl
theorem acceptorKeys_g3:((Rows.acceptorKeysRow.named==Tryz.pinned.checked.prog.varsNamed 6))=true:=by kernel_rfl
theorem acceptorKeys_g4:(Rows.acceptorKeysRow.wf (OpenSpec.ofChange (OpenSpec.ofChange Rows.acceptorKeysSpec).bare)&&Tryz.f6.params.all (Tryz.pinned.checked.prog.readableRec ·)&&namedTie Tryz.pinned.checked.prog Rows.acceptorKeysRow.named (OpenSpec.ofChange Rows.acceptorKeysSpec).bare.vars&&(Rows.acceptorKeysRow.stops==[])&&(Tryz.pinned.checked.prog.stops==[])&&(Rows.acceptorKeysRow.knobs==[])&&(Tryz.pinned.checked.prog.stopKnobs==[]))=true:=by kernel_rfl
theorem acceptorKeys_g5:((Rows.acceptorKeysRow.maps==(Tryz.f6.params.toList++(OpenSpec.ofChange Rows.acceptorKeysSpec).bare.plain.varTypes Tryz.pinned.checked.prog).any (Tryz.pinned.checked.prog.mapsRec ·))&&(Rows.acceptorKeysRow.ifaces==(Tryz.f6.params.toList++(OpenSpec.ofChange Rows.acceptorKeysSpec).bare.plain.varTypes Tryz.pinned.checked.prog).any (Tryz.pinned.checked.prog.ifacesRec ·))&&(Rows.acceptorKeysRow.mapsOut==Tryz.pinned.checked.prog.mapsAmong Tryz.f6.resultTypes.toList)&&(Rows.acceptorKeysRow.loops==(Tryz.f6.params.toList++(OpenSpec.ofChange Rows.acceptorKeysSpec).bare.plain.varTypes Tryz.pinned.checked.prog).any (Tryz.pinned.checked.prog.loopsFrom ·))&&(Rows.acceptorKeysRow.wideKeys==(Tryz.f6.params.toList++(OpenSpec.ofChange Rows.acceptorKeysSpec).bare.plain.varTypes Tryz.pinned.checked.prog++Tryz.f6.resultTypes.toList).any (Tryz.pinned.checked.prog.wideKeysFrom ·))&&(OpenSpec.ofChange Rows.acceptorKeysSpec).bare.vars.all (Tryz.pinned.checked.prog.varReadable ·)&&Tryz.f6.resultTypes.all (fun t=>Tryz.pinned.checked.prog.readableRec t&&decide (t<Tryz.pinned.checked.prog.types.size))&&(Rows.acceptorKeysRow.ifacesOut==Tryz.f6.resultTypes.toList.any (Tryz.pinned.checked.prog.ifacesRec ·))&&(Rows.acceptorKeysRow.loopsOut==Tryz.f6.resultTypes.toList.any (Tryz.pinned.checked.prog.loopsFrom ·)))=true:=by kernel_rfl
theorem acceptorKeys_g6:(Rows.acceptorKeysRow.shortTexts.isNone&&Tryz.pinned.checked.prog.stopsHeard&&Tryz.pinned.checked.prog.mayEnter&&(Rows.acceptorKeysRow.lifted==Tryz.pinned.checked.prog.liftsFinal)&&(Tryz.pinned.checked.prog.make==some Rows.acceptorKeysRow.make)&&(Rows.acceptorKeysRow.kinds==(if Rows.acceptorKeysRow.domain.isEmpty then [] else Tryz.f6.params.toList.map fun t=>match Tryz.pinned.checked.prog.underlying t with | some (.int k)=>some k | _=>none))&&(Rows.acceptorKeysRow.pinned==Rows.acceptorKeysRow.pinnedBy)&&(Rows.acceptorKeysRow.veiled==(Tryz.f6.params.toList++(OpenSpec.ofChange Rows.acceptorKeysSpec).bare.plain.varTypes Tryz.pinned.checked.prog++Tryz.f6.resultTypes.toList).any (Tryz.pinned.checked.prog.veiledRec ·))&&Rows.acceptorKeysRow.veiledFits Tryz.pinned.checked.prog Tryz.f6.params.toList (Tryz.f6.params.toList++(OpenSpec.ofChange Rows.acceptorKeysSpec).bare.plain.varTypes Tryz.pinned.checked.prog++Tryz.f6.resultTypes.toList))=true:=by kernel_rfl
theorem acceptorKeys_joined:joinedFacts Tryz.pinned.checked.prog 6 Tryz.f6 (OpenSpec.ofChange Rows.acceptorKeysSpec).bare Rows.acceptorKeysRow=true:=(and2 (and2 (and2 (and2 (and2 (and2 (and2 (and2 (and2 (and2 (and2 (and2 (and2 (and2 (and2 (and2 (and2 (and2 (and2 (and2 (and2 (and2 (and2 (and2 (and2 (and2 (and2 (and2 (and2 (and2 (and2 (and_l (and_l (and_l (and_l (and_l (and_l acceptorKeys_g4)))))) laidOut2.1) laidOut2.2.1) (and_r (and_l (and_l (and_l (and_l (and_l acceptorKeys_g4))))))) (and_r (and_l (and_l (and_l (and_l acceptorKeys_g4)))))) (and_r (and_l (and_l (and_l acceptorKeys_g4))))) (and_r (and_l (and_l acceptorKeys_g4)))) (and_r (and_l acceptorKeys_g4))) (and_r acceptorKeys_g4)) acceptorKeys_g0) acceptorKeys_g1) acceptorKeys_g2) acceptorKeys_g3) (and_l (and_l (and_l (and_l (and_l (and_l (and_l (and_l acceptorKeys_g5))))))))) (and_r (and_l (and_l (and_l (and_l (and_l (and_l (and_l acceptorKeys_g5))))))))) (and_r (and_l (and_l (and_l (and_l (and_l (and_l acceptorKeys_g5)))))))) (and_r (and_l (and_l (and_l (and_l (and_l acceptorKeys_g5))))))) (and_r (and_l (and_l (and_l (and_l acceptorKeys_g5)))))) (and_r (and_l (and_l (and_l acceptorKeys_g5))))) (and_r (and_l (and_l acceptorKeys_g5)))) (and_r (and_l acceptorKeys_g5))) (and_r acceptorKeys_g5)) (acceptorKeys_keys)) (and_l (and_l (and_l (and_l (and_l (and_l (and_l (and_l acceptorKeys_g6))))))))) (and_r (and_l (and_l (and_l (and_l (and_l (and_l (and_l acceptorKeys_g6))))))))) (and_r (and_l (and_l (and_l (and_l (and_l (and_l acceptorKeys_g6)))))))) (and_r (and_l (and_l (and_l (and_l (and_l acceptorKeys_g6))))))) (and_r (and_l (and_l (and_l (and_l acceptorKeys_g6)))))) (and_r (and_l (and_l (and_l acceptorKeys_g6))))) (and_r (and_l (and_l acceptorKeys_g6)))) (and_r (and_l acceptorKeys_g6))) (and_r acceptorKeys_g6))
theorem acceptorKeys_named:Tryz.pinned.checked.prog.funcNamed Rows.acceptorKeysRow.func=some 6:=by kernel_rfl
theorem acceptorKeys_inst:Tryz.f6.isInstance Tryz.pinned.checked.prog Rows.acceptorKeysRow.origin Rows.acceptorKeysRow.targs:=of_decide_eq_true (by kernel_rfl)
theorem acceptorKeys_wrap:Tryz.f6.isWrapper Tryz.pinned.checked.prog Rows.acceptorKeysRow.wrapper Rows.acceptorKeysRow.mainSum:=by unfold Func.isWrapper;first | (rw [if_pos (by decide +kernel)];kernel_rfl) | (rw [if_neg (by decide +kernel)];exact ⟨rfl,rfl⟩)
theorem acceptorKeys_wfText:Rows.acceptorKeysRow.wfByText (OpenSpec.ofChange Rows.acceptorKeysSpec)=true:=by kernel_rfl
theorem acceptorKeys_main : Tryz.pinned.checked.prog.mainIs = some (true, ("1202481b1bec9c63fbf0ae0e25ec1e0efd40745f5d40642812ab35183bbeca7b" : String).toList) := by kernel_rfl
theorem acceptorKeys_hn : Tryz.prog.funcNamed "legate/legatelaw14.AcceptorKeys" = some 6 := by kernel_rfl
theorem acceptorKeys_hall:(Tryz.f6.params.toList.all fun t=>Tryz.prog.wantsStandIn t==false)=true:=by kernel_rfl
theorem acceptorKeys_goes:false=Rows.acceptorKeysRow.goesBy Tryz.pinned.checked.prog:=by kernel_rfl
end Go.Proofs.YtikacleldnaphaaGreatDoor
