import Derived.Test.YtldfjimgfnjdjaaGreatDoorCards
import Derived.Test.YtldfjimgfnjdjaaGreatDoorTie
import Derived.WalkKit
import Derived.ProofKit
import Derived.OpenShut
import Derived.Deep.DeepHandedRow
import Derived.Lib.LaidTab
import Derived.ClosedOfChecked
set_option linter.all false
set_option maxRecDepth 100000
namespace Go.Proofs.YtldfjimgfnjdjaaGreatDoor
open Go Go.RowKit
theorem and_l {a b:Bool} (h:(a&&b)=true):a=true:=(Bool.and_eq_true_iff.1 h).1
theorem and_r {a b:Bool} (h:(a&&b)=true):b=true:=(Bool.and_eq_true_iff.1 h).2
theorem and2 {a b:Bool} (h:a=true) (k:b=true):(a&&b)=true:=Bool.and_eq_true_iff.2 ⟨h,k⟩
theorem cl1:Tryz.checked.prog.types=Tryz.checked.src.types:=by kernel_rfl
theorem cl2:(Tryz.checked.prog.globals.all (fun g=>decide (g.type<Tryz.checked.prog.types.size))&&Tryz.checked.prog.funcs.all (fun f=>f.params.all fun t=>decide (t<Tryz.checked.prog.types.size)))=true:=by kernel_rfl
theorem laidOut2:laidOutB Tryz.checked.prog=true∧mapsRowed Tryz.checked.prog=true∧True :=
 have H:=ClosedOfChecked.allSpec_of Tryz.checked.wellFormed cl1
 ⟨ClosedOfChecked.laidOutB_of H cl2,ClosedOfChecked.mapsRowed_of H,trivial⟩
theorem clientFails_keys:(Rows.clientFailsRow.plainKeys==Tryz.pinned.checked.prog.plainKeys)=true:=by kernel_rfl
theorem clientFails_g0:((Rows.clientFailsRow.inPlace==Tryz.pinned.checked.prog.inPlace 8))=true:=by kernel_rfl
theorem clientFails_g1:((Rows.clientFailsRow.unfollowed==Tryz.pinned.checked.prog.unfollowed 8))=true:=by kernel_rfl
theorem clientFails_g2:((Rows.clientFailsRow.recurses==Tryz.pinned.checked.prog.recurses 8))=true:=by kernel_rfl
theorem clientFails_g3:((Rows.clientFailsRow.named==Tryz.pinned.checked.prog.varsNamed 8))=true:=by kernel_rfl
theorem clientFails_g4:(Rows.clientFailsRow.wf (OpenSpec.ofChange (OpenSpec.ofChange Rows.clientFailsSpec).bare)&&Tryz.f8.params.all (Tryz.pinned.checked.prog.readableRec ·)&&namedTie Tryz.pinned.checked.prog Rows.clientFailsRow.named (OpenSpec.ofChange Rows.clientFailsSpec).bare.vars&&(Rows.clientFailsRow.stops==[])&&(Tryz.pinned.checked.prog.stops==[])&&(Rows.clientFailsRow.knobs==[])&&(Tryz.pinned.checked.prog.stopKnobs==[]))=true:=by kernel_rfl
theorem clientFails_g5:((Rows.clientFailsRow.maps==(Tryz.f8.params.toList++(OpenSpec.ofChange Rows.clientFailsSpec).bare.plain.varTypes Tryz.pinned.checked.prog).any (Tryz.pinned.checked.prog.mapsRec ·))&&(Rows.clientFailsRow.ifaces==(Tryz.f8.params.toList++(OpenSpec.ofChange Rows.clientFailsSpec).bare.plain.varTypes Tryz.pinned.checked.prog).any (Tryz.pinned.checked.prog.ifacesRec ·))&&(Rows.clientFailsRow.mapsOut==Tryz.pinned.checked.prog.mapsAmong Tryz.f8.resultTypes.toList)&&(Rows.clientFailsRow.loops==(Tryz.f8.params.toList++(OpenSpec.ofChange Rows.clientFailsSpec).bare.plain.varTypes Tryz.pinned.checked.prog).any (Tryz.pinned.checked.prog.loopsFrom ·))&&(Rows.clientFailsRow.wideKeys==(Tryz.f8.params.toList++(OpenSpec.ofChange Rows.clientFailsSpec).bare.plain.varTypes Tryz.pinned.checked.prog++Tryz.f8.resultTypes.toList).any (Tryz.pinned.checked.prog.wideKeysFrom ·))&&(OpenSpec.ofChange Rows.clientFailsSpec).bare.vars.all (Tryz.pinned.checked.prog.varReadable ·)&&Tryz.f8.resultTypes.all (fun t=>Tryz.pinned.checked.prog.readableRec t&&decide (t<Tryz.pinned.checked.prog.types.size))&&(Rows.clientFailsRow.ifacesOut==Tryz.f8.resultTypes.toList.any (Tryz.pinned.checked.prog.ifacesRec ·))&&(Rows.clientFailsRow.loopsOut==Tryz.f8.resultTypes.toList.any (Tryz.pinned.checked.prog.loopsFrom ·)))=true:=by kernel_rfl
theorem clientFails_g6:(Rows.clientFailsRow.shortTexts.isNone&&Tryz.pinned.checked.prog.stopsHeard&&Tryz.pinned.checked.prog.mayEnter&&(Rows.clientFailsRow.lifted==Tryz.pinned.checked.prog.liftsFinal)&&(Tryz.pinned.checked.prog.make==some Rows.clientFailsRow.make)&&(Rows.clientFailsRow.kinds==(if Rows.clientFailsRow.domain.isEmpty then [] else Tryz.f8.params.toList.map fun t=>match Tryz.pinned.checked.prog.underlying t with | some (.int k)=>some k | _=>none))&&(Rows.clientFailsRow.pinned==Rows.clientFailsRow.pinnedBy)&&(Rows.clientFailsRow.veiled==(Tryz.f8.params.toList++(OpenSpec.ofChange Rows.clientFailsSpec).bare.plain.varTypes Tryz.pinned.checked.prog++Tryz.f8.resultTypes.toList).any (Tryz.pinned.checked.prog.veiledRec ·))&&Rows.clientFailsRow.veiledFits Tryz.pinned.checked.prog Tryz.f8.params.toList (Tryz.f8.params.toList++(OpenSpec.ofChange Rows.clientFailsSpec).bare.plain.varTypes Tryz.pinned.checked.prog++Tryz.f8.resultTypes.toList))=true:=by kernel_rfl
theorem clientFails_joined:joinedFacts Tryz.pinned.checked.prog 8 Tryz.f8 (OpenSpec.ofChange Rows.clientFailsSpec).bare Rows.clientFailsRow=true:=(and2 (and2 (and2 (and2 (and2 (and2 (and2 (and2 (and2 (and2 (and2 (and2 (and2 (and2 (and2 (and2 (and2 (and2 (and2 (and2 (and2 (and2 (and2 (and2 (and2 (and2 (and2 (and2 (and2 (and2 (and2 (and_l (and_l (and_l (and_l (and_l (and_l clientFails_g4)))))) laidOut2.1) laidOut2.2.1) (and_r (and_l (and_l (and_l (and_l (and_l clientFails_g4))))))) (and_r (and_l (and_l (and_l (and_l clientFails_g4)))))) (and_r (and_l (and_l (and_l clientFails_g4))))) (and_r (and_l (and_l clientFails_g4)))) (and_r (and_l clientFails_g4))) (and_r clientFails_g4)) clientFails_g0) clientFails_g1) clientFails_g2) clientFails_g3) (and_l (and_l (and_l (and_l (and_l (and_l (and_l (and_l clientFails_g5))))))))) (and_r (and_l (and_l (and_l (and_l (and_l (and_l (and_l clientFails_g5))))))))) (and_r (and_l (and_l (and_l (and_l (and_l (and_l clientFails_g5)))))))) (and_r (and_l (and_l (and_l (and_l (and_l clientFails_g5))))))) (and_r (and_l (and_l (and_l (and_l clientFails_g5)))))) (and_r (and_l (and_l (and_l clientFails_g5))))) (and_r (and_l (and_l clientFails_g5)))) (and_r (and_l clientFails_g5))) (and_r clientFails_g5)) (clientFails_keys)) (and_l (and_l (and_l (and_l (and_l (and_l (and_l (and_l clientFails_g6))))))))) (and_r (and_l (and_l (and_l (and_l (and_l (and_l (and_l clientFails_g6))))))))) (and_r (and_l (and_l (and_l (and_l (and_l (and_l clientFails_g6)))))))) (and_r (and_l (and_l (and_l (and_l (and_l clientFails_g6))))))) (and_r (and_l (and_l (and_l (and_l clientFails_g6)))))) (and_r (and_l (and_l (and_l clientFails_g6))))) (and_r (and_l (and_l clientFails_g6)))) (and_r (and_l clientFails_g6))) (and_r clientFails_g6))
theorem clientFails_named:Tryz.pinned.checked.prog.funcNamed Rows.clientFailsRow.func=some 8:=by kernel_rfl
theorem clientFails_inst:Tryz.f8.isInstance Tryz.pinned.checked.prog Rows.clientFailsRow.origin Rows.clientFailsRow.targs:=of_decide_eq_true (by kernel_rfl)
theorem clientFails_wrap:Tryz.f8.isWrapper Tryz.pinned.checked.prog Rows.clientFailsRow.wrapper Rows.clientFailsRow.mainSum:=by unfold Func.isWrapper;first | (rw [if_pos (by decide +kernel)];kernel_rfl) | (rw [if_neg (by decide +kernel)];exact ⟨rfl,rfl⟩)
theorem clientFails_wfText:Rows.clientFailsRow.wfByText (OpenSpec.ofChange Rows.clientFailsSpec)=true:=by kernel_rfl
theorem clientFails_main : Tryz.pinned.checked.prog.mainIs = some (true, ("a0798a144b673da0f98aec6a33c0d730257128302e469591ab2bf9fa1a6cd5db" : String).toList) := by kernel_rfl
theorem clientFails_hn : Tryz.prog.funcNamed "legate/legatelaw12.ClientFails" = some 8 := by kernel_rfl
theorem clientFails_hall:(Tryz.f8.params.toList.all fun t=>Tryz.prog.wantsStandIn t==false)=true:=by kernel_rfl
theorem clientFails_goes:false=Rows.clientFailsRow.goesBy Tryz.pinned.checked.prog:=by kernel_rfl
end Go.Proofs.YtldfjimgfnjdjaaGreatDoor
