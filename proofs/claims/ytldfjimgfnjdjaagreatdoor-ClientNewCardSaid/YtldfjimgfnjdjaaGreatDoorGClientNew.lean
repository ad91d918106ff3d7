import Derived.Test.YtldfjimgfnjdjaaGreatDoorCards
import Derived.Test.YtldfjimgfnjdjaaGreatDoorTie
import Derived.WalkKit
import Derived.ProofKit
import Derived.OpenShut
import Derived.Deep.DeepHandedRow
import Derived.Lib.LaidTab
import Derived.ClosedOfChecked
set_option linter.all false
set_option maxRecDepth 100000
namespace Go.Proofs.YtldfjimgfnjdjaaGreatDoor
open Go Go.RowKit
theorem and_l {a b:Bool} (h:(a&&b)=true):a=true:=(Bool.and_eq_true_iff.1 h).1
theorem and_r {a b:Bool} (h:(a&&b)=true):b=true:=(Bool.and_eq_true_iff.1 h).2
theorem and2 {a b:Bool} (h:a=true) (k:b=true):(a&&b)=true:=Bool.and_eq_true_iff.2 ⟨h,k⟩
theorem cl1:Tryz.checked.prog.types=Tryz.checked.src.types:=by kernel_rfl
theorem cl2:(Tryz.checked.prog.globals.all (fun g=>decide (g.type<Tryz.checked.prog.types.size))&&Tryz.checked.prog.funcs.all (fun f=>f.params.all fun t=>decide (t<Tryz.checked.prog.types.size)))=true:=by kernel_rfl
theorem laidOut2:laidOutB Tryz.checked.prog=true∧mapsRowed Tryz.checked.prog=true∧True :=
 have H:=ClosedOfChecked.allSpec_of Tryz.checked.wellFormed cl1
 ⟨ClosedOfChecked.laidOutB_of H cl2,ClosedOfChecked.mapsRowed_of H,trivial⟩
theorem clientNew_keys:(Rows.clientNewRow.plainKeys==Tryz.pinned.checked.prog.plainKeys)=true:=by kernel_rfl
theorem clientNew_g0:((Rows.clientNewRow.inPlace==Tryz.pinned.checked.prog.inPlace 12))=true:=by kernel_rfl
theorem clientNew_g1:((Rows.clientNewRow.unfollowed==Tryz.pinned.checked.prog.unfollowed 12))=true:=by kernel_rfl
theorem clientNew_g2:((Rows.clientNewRow.recurses==Tryz.pinned.checked.prog.recurses 12))=true:=by kernel_rfl
theorem clientNew_g3:((Rows.clientNewRow.named==Tryz.pinned.checked.prog.varsNamed 12))=true:=by kernel_rfl
theorem clientNew_g4:(Rows.clientNewRow.wf (OpenSpec.ofChange (OpenSpec.ofChange Rows.clientNewSpec).bare)&&Tryz.f12.params.all (Tryz.pinned.checked.prog.readableRec ·)&&namedTie Tryz.pinned.checked.prog Rows.clientNewRow.named (OpenSpec.ofChange Rows.clientNewSpec).bare.vars&&(Rows.clientNewRow.stops==[])&&(Tryz.pinned.checked.prog.stops==[])&&(Rows.clientNewRow.knobs==[])&&(Tryz.pinned.checked.prog.stopKnobs==[]))=true:=by kernel_rfl
theorem clientNew_g5:((Rows.clientNewRow.maps==(Tryz.f12.params.toList++(OpenSpec.ofChange Rows.clientNewSpec).bare.plain.varTypes Tryz.pinned.checked.prog).any (Tryz.pinned.checked.prog.mapsRec ·))&&(Rows.clientNewRow.ifaces==(Tryz.f12.params.toList++(OpenSpec.ofChange Rows.clientNewSpec).bare.plain.varTypes Tryz.pinned.checked.prog).any (Tryz.pinned.checked.prog.ifacesRec ·))&&(Rows.clientNewRow.mapsOut==Tryz.pinned.checked.prog.mapsAmong Tryz.f12.resultTypes.toList)&&(Rows.clientNewRow.loops==(Tryz.f12.params.toList++(OpenSpec.ofChange Rows.clientNewSpec).bare.plain.varTypes Tryz.pinned.checked.prog).any (Tryz.pinned.checked.prog.loopsFrom ·))&&(Rows.clientNewRow.wideKeys==(Tryz.f12.params.toList++(OpenSpec.ofChange Rows.clientNewSpec).bare.plain.varTypes Tryz.pinned.checked.prog++Tryz.f12.resultTypes.toList).any (Tryz.pinned.checked.prog.wideKeysFrom ·))&&(OpenSpec.ofChange Rows.clientNewSpec).bare.vars.all (Tryz.pinned.checked.prog.varReadable ·)&&Tryz.f12.resultTypes.all (fun t=>Tryz.pinned.checked.prog.readableRec t&&decide (t<Tryz.pinned.checked.prog.types.size))&&(Rows.clientNewRow.ifacesOut==Tryz.f12.resultTypes.toList.any (Tryz.pinned.checked.prog.ifacesRec ·))&&(Rows.clientNewRow.loopsOut==Tryz.f12.resultTypes.toList.any (Tryz.pinned.checked.prog.loopsFrom ·)))=true:=by kernel_rfl
theorem clientNew_g6:(Rows.clientNewRow.shortTexts.isNone&&Tryz.pinned.checked.prog.stopsHeard&&Tryz.pinned.checked.prog.mayEnter&&(Rows.clientNewRow.lifted==Tryz.pinned.checked.prog.liftsFinal)&&(Tryz.pinned.checked.prog.make==some Rows.clientNewRow.make)&&(Rows.clientNewRow.kinds==(if Rows.clientNewRow.domain.isEmpty then [] else Tryz.f12.params.toList.map fun t=>match Tryz.pinned.checked.prog.underlying t with | some (.int k)=>some k | _=>none))&&(Rows.clientNewRow.pinned==Rows.clientNewRow.pinnedBy)&&(Rows.clientNewRow.veiled==(Tryz.f12.params.toList++(OpenSpec.ofChange Rows.clientNewSpec).bare.plain.varTypes Tryz.pinned.checked.prog++Tryz.f12.resultTypes.toList).any (Tryz.pinned.checked.prog.veiledRec ·))&&Rows.clientNewRow.veiledFits Tryz.pinned.checked.prog Tryz.f12.params.toList (Tryz.f12.params.toList++(OpenSpec.ofChange Rows.clientNewSpec).bare.plain.varTypes Tryz.pinned.checked.prog++Tryz.f12.resultTypes.toList))=true:=by kernel_rfl
theorem clientNew_joined:joinedFacts Tryz.pinned.checked.prog 12 Tryz.f12 (OpenSpec.ofChange Rows.clientNewSpec).bare Rows.clientNewRow=true:=(and2 (and2 (and2 (and2 (and2 (and2 (and2 (and2 (and2 (and2 (and2 (and2 (and2 (and2 (and2 (and2 (and2 (and2 (and2 (and2 (and2 (and2 (and2 (and2 (and2 (and2 (and2 (and2 (and2 (and2 (and2 (and_l (and_l (and_l (and_l (and_l (and_l clientNew_g4)))))) laidOut2.1) laidOut2.2.1) (and_r (and_l (and_l (and_l (and_l (and_l clientNew_g4))))))) (and_r (and_l (and_l (and_l (and_l clientNew_g4)))))) (and_r (and_l (and_l (and_l clientNew_g4))))) (and_r (and_l (and_l clientNew_g4)))) (and_r (and_l clientNew_g4))) (and_r clientNew_g4)) clientNew_g0) clientNew_g1) clientNew_g2) clientNew_g3) (and_l (and_l (and_l (and_l (and_l (and_l (and_l (and_l clientNew_g5))))))))) (and_r (and_l (and_l (and_l (and_l (and_l (and_l (and_l clientNew_g5))))))))) (and_r (and_l (and_l (and_l (and_l (and_l (and_l clientNew_g5)))))))) (and_r (and_l (and_l (and_l (and_l (and_l clientNew_g5))))))) (and_r (and_l (and_l (and_l (and_l clientNew_g5)))))) (and_r (and_l (and_l (and_l clientNew_g5))))) (and_r (and_l (and_l clientNew_g5)))) (and_r (and_l clientNew_g5))) (and_r clientNew_g5)) (clientNew_keys)) (and_l (and_l (and_l (and_l (and_l (and_l (and_l (and_l clientNew_g6))))))))) (and_r (and_l (and_l (and_l (and_l (and_l (and_l (and_l clientNew_g6))))))))) (and_r (and_l (and_l (and_l (and_l (and_l (and_l clientNew_g6)))))))) (and_r (and_l (and_l (and_l (and_l (and_l clientNew_g6))))))) (and_r (and_l (and_l (and_l (and_l clientNew_g6)))))) (and_r (and_l (and_l (and_l clientNew_g6))))) (and_r (and_l (and_l clientNew_g6)))) (and_r (and_l clientNew_g6))) (and_r clientNew_g6))
theorem clientNew_named:Tryz.pinned.checked.prog.funcNamed Rows.clientNewRow.func=some 12:=by kernel_rfl
theorem clientNew_inst:Tryz.f12.isInstance Tryz.pinned.checked.prog Rows.clientNewRow.origin Rows.clientNewRow.targs:=of_decide_eq_true (by kernel_rfl)
theorem clientNew_wrap:Tryz.f12.isWrapper Tryz.pinned.checked.prog Rows.clientNewRow.wrapper Rows.clientNewRow.mainSum:=by unfold Func.isWrapper;first | (rw [if_pos (by decide +kernel)];kernel_rfl) | (rw [if_neg (by decide +kernel)];exact ⟨rfl,rfl⟩)
theorem clientNew_wfText:Rows.clientNewRow.wfByText (OpenSpec.ofChange Rows.clientNewSpec)=true:=by kernel_rfl
theorem clientNew_main : Tryz.pinned.checked.prog.mainIs = some (true, ("a0798a144b673da0f98aec6a33c0d730257128302e469591ab2bf9fa1a6cd5db" : String).toList) := by kernel_rfl
theorem clientNew_hn : Tryz.prog.funcNamed "legate/legatelaw12.ClientNew" = some 12 := by kernel_rfl
theorem clientNew_hall:(Tryz.f12.params.toList.all fun t=>Tryz.prog.wantsStandIn t==false)=true:=by kernel_rfl
theorem clientNew_goes:false=Rows.clientNewRow.goesBy Tryz.pinned.checked.prog:=by kernel_rfl
end Go.Proofs.YtldfjimgfnjdjaaGreatDoor
