import Derived.Test.YtldfjimgfnjdjaaGreatDoorCards
import Derived.Test.YtldfjimgfnjdjaaGreatDoorTie
import Derived.WalkKit
import Derived.ProofKit
import Derived.OpenShut
import Derived.Deep.DeepHandedRow
import Derived.Lib.LaidTab
import Derived.ClosedOfChecked
set_option linter.all false
set_option maxRecDepth 100000
namespace Go.Proofs.YtldfjimgfnjdjaaGreatDoor
open Go Go.RowKit
theorem and_l {a b:Bool} (h:(a&&b)=true):a=true:=(Bool.and_eq_true_iff.1 h).1
theorem and_r {a b:Bool} (h:(a&&b)=true):b=true:=(Bool.and_eq_true_iff.1 h).2
theorem and2 {a b:Bool} (h:a=true) (k:b=true):(a&&b)=true:=Bool.and_eq_true_iff.2 ⟨h,k⟩
theorem cl1:Tryz.checked.prog.types=Tryz.checked.src.types:=by kernel_rfl
theorem cl2:(Tryz.checked.prog.globals.all (fun g=>decide (g.type<Tryz.checked.prog.types.size))&&Tryz.checked.prog.funcs.all (fun f=>f.params.all fun t=>decide (t<Tryz.checked.prog.types.size)))=true:=by kernel_rfl
theorem laidOut2:laidOutB Tryz.checked.prog=true∧mapsRowed Tryz.checked.prog=true∧True :=
 have H:=ClosedOfChecked.allSpec_of Tryz.checked.wellFormed cl1
 ⟨ClosedOfChecked.laidOutB_of H cl2,ClosedOfChecked.mapsRowed_of H,trivial⟩
theorem clientStays_keys:(Rows.clientStaysRow.plainKeys==Tryz.pinned.checked.prog.plainKeys)=true:=by kernel_rfl
theorem clientStays_g0:((Rows.clientStaysRow.inPlace==Tryz.pinned.checked.prog.inPlace 5))=true:=by kernel_rfl
theorem clientStays_g1:((Rows.clientStaysRow.unfollowed==Tryz.pinned.checked.prog.unfollowed 5))=true:=by kernel_rfl
theorem clientStays_g2:((Rows.clientStaysRow.recurses==Tryz.pinned.checked.prog.recurses 5))=true:=by kernel_rfl
theorem clientStays_g3:((Rows.clientStaysRow.named==Tryz.pinned.checked.prog.varsNamed 5))=true:=by kernel_rfl
theorem clientStays_g4:(Rows.clientStaysRow.wf (OpenSpec.ofChange (OpenSpec.ofChange Rows.clientStaysSpec).bare)&&Tryz.f5.params.all (Tryz.pinned.checked.prog.readableRec ·)&&namedTie Tryz.pinned.checked.prog Rows.clientStaysRow.named (OpenSpec.ofChange Rows.clientStaysSpec).bare.vars&&(Rows.clientStaysRow.stops==[])&&(Tryz.pinned.checked.prog.stops==[])&&(Rows.clientStaysRow.knobs==[])&&(Tryz.pinned.checked.prog.stopKnobs==[]))=true:=by kernel_rfl
theorem clientStays_g5:((Rows.clientStaysRow.maps==(Tryz.f5.params.toList++(OpenSpec.ofChange Rows.clientStaysSpec).bare.plain.varTypes Tryz.pinned.checked.prog).any (Tryz.pinned.checked.prog.mapsRec ·))&&(Rows.clientStaysRow.ifaces==(Tryz.f5.params.toList++(OpenSpec.ofChange Rows.clientStaysSpec).bare.plain.varTypes Tryz.pinned.checked.prog).any (Tryz.pinned.checked.prog.ifacesRec ·))&&(Rows.clientStaysRow.mapsOut==Tryz.pinned.checked.prog.mapsAmong Tryz.f5.resultTypes.toList)&&(Rows.clientStaysRow.loops==(Tryz.f5.params.toList++(OpenSpec.ofChange Rows.clientStaysSpec).bare.plain.varTypes Tryz.pinned.checked.prog).any (Tryz.pinned.checked.prog.loopsFrom ·))&&(Rows.clientStaysRow.wideKeys==(Tryz.f5.params.toList++(OpenSpec.ofChange Rows.clientStaysSpec).bare.plain.varTypes Tryz.pinned.checked.prog++Tryz.f5.resultTypes.toList).any (Tryz.pinned.checked.prog.wideKeysFrom ·))&&(OpenSpec.ofChange Rows.clientStaysSpec).bare.vars.all (Tryz.pinned.checked.prog.varReadable ·)&&Tryz.f5.resultTypes.all (fun t=>Tryz.pinned.checked.prog.readableRec t&&decide (t<Tryz.pinned.checked.prog.types.size))&&(Rows.clientStaysRow.ifacesOut==Tryz.f5.resultTypes.toList.any (Tryz.pinned.checked.prog.ifacesRec ·))&&(Rows.clientStaysRow.loopsOut==Tryz.f5.resultTypes.toList.any (Tryz.pinned.checked.prog.loopsFrom ·)))=true:=by kernel_rfl
theorem clientStays_g6:(Rows.clientStaysRow.shortTexts.isNone&&Tryz.pinned.checked.prog.stopsHeard&&Tryz.pinned.checked.prog.mayEnter&&(Rows.clientStaysRow.lifted==Tryz.pinned.checked.prog.liftsFinal)&&(Tryz.pinned.checked.prog.make==some Rows.clientStaysRow.make)&&(Rows.clientStaysRow.kinds==(if Rows.clientStaysRow.domain.isEmpty then [] else Tryz.f5.params.toList.map fun t=>match Tryz.pinned.checked.prog.underlying t with | some (.int k)=>some k | _=>none))&&(Rows.clientStaysRow.pinned==Rows.clientStaysRow.pinnedBy)&&(Rows.clientStaysRow.veiled==(Tryz.f5.params.toList++(OpenSpec.ofChange Rows.clientStaysSpec).bare.plain.varTypes Tryz.pinned.checked.prog++Tryz.f5.resultTypes.toList).any (Tryz.pinned.checked.prog.veiledRec ·))&&Rows.clientStaysRow.veiledFits Tryz.pinned.checked.prog Tryz.f5.params.toList (Tryz.f5.params.toList++(OpenSpec.ofChange Rows.clientStaysSpec).bare.plain.varTypes Tryz.pinned.checked.prog++Tryz.f5.resultTypes.toList))=true:=by kernel_rfl
theorem clientStays_joined:joinedFacts Tryz.pinned.checked.prog 5 Tryz.f5 (OpenSpec.ofChange Rows.clientStaysSpec).bare Rows.clientStaysRow=true:=(and2 (and2 (and2 (and2 (and2 (and2 (and2 (and2 (and2 (and2 (and2 (and2 (and2 (and2 (and2 (and2 (and2 (and2 (and2 (and2 (and2 (and2 (and2 (and2 (and2 (and2 (and2 (and2 (and2 (and2 (and2 (and_l (and_l (and_l (and_l (and_l (and_l clientStays_g4)))))) laidOut2.1) laidOut2.2.1) (and_r (and_l (and_l (and_l (and_l (and_l clientStays_g4))))))) (and_r (and_l (and_l (and_l (and_l clientStays_g4)))))) (and_r (and_l (and_l (and_l clientStays_g4))))) (and_r (and_l (and_l clientStays_g4)))) (and_r (and_l clientStays_g4))) (and_r clientStays_g4)) clientStays_g0) clientStays_g1) clientStays_g2) clientStays_g3) (and_l (and_l (and_l (and_l (and_l (and_l (and_l (and_l clientStays_g5))))))))) (and_r (and_l (and_l (and_l (and_l (and_l (and_l (and_l clientStays_g5))))))))) (and_r (and_l (and_l (and_l (and_l (and_l (and_l clientStays_g5)))))))) (and_r (and_l (and_l (and_l (and_l (and_l clientStays_g5))))))) (and_r (and_l (and_l (and_l (and_l clientStays_g5)))))) (and_r (and_l (and_l (and_l clientStays_g5))))) (and_r (and_l (and_l clientStays_g5)))) (and_r (and_l clientStays_g5))) (and_r clientStays_g5)) (clientStays_keys)) (and_l (and_l (and_l (and_l (and_l (and_l (and_l (and_l clientStays_g6))))))))) (and_r (and_l (and_l (and_l (and_l (and_l (and_l (and_l clientStays_g6))))))))) (and_r (and_l (and_l (and_l (and_l (and_l (and_l clientStays_g6)))))))) (and_r (and_l (and_l (and_l (and_l (and_l clientStays_g6))))))) (and_r (and_l (and_l (and_l (and_l clientStays_g6)))))) (and_r (and_l (and_l (and_l clientStays_g6))))) (and_r (and_l (and_l clientStays_g6)))) (and_r (and_l clientStays_g6))) (and_r clientStays_g6))
theorem clientStays_named:Tryz.pinned.checked.prog.funcNamed Rows.clientStaysRow.func=some 5:=by kernel_rfl
theorem clientStays_inst:Tryz.f5.isInstance Tryz.pinned.checked.prog Rows.clientStaysRow.origin Rows.clientStaysRow.targs:=of_decide_eq_true (by kernel_rfl)
theorem clientStays_wrap:Tryz.f5.isWrapper Tryz.pinned.checked.prog Rows.clientStaysRow.wrapper Rows.clientStaysRow.mainSum:=by unfold Func.isWrapper;first | (rw [if_pos (by decide +kernel)];kernel_rfl) | (rw [if_neg (by decide +kernel)];exact ⟨rfl,rfl⟩)
theorem clientStays_wfText:Rows.clientStaysRow.wfByText (OpenSpec.ofChange Rows.clientStaysSpec)=true:=by kernel_rfl
theorem clientStays_main : Tryz.pinned.checked.prog.mainIs = some (true, ("a0798a144b673da0f98aec6a33c0d730257128302e469591ab2bf9fa1a6cd5db" : String).toList) := by kernel_rfl
theorem clientStays_hn : Tryz.prog.funcNamed "legate/legatelaw12.ClientStays" = some 5 := by kernel_rfl
theorem clientStays_hall:(Tryz.f5.params.toList.all fun t=>Tryz.prog.wantsStandIn t==false)=true:=by kernel_rfl
theorem clientStays_goes:false=Rows.clientStaysRow.goesBy Tryz.pinned.checked.prog:=by kernel_rfl
end Go.Proofs.YtldfjimgfnjdjaaGreatDoor
