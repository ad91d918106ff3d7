import Derived.Test.YtldfjimgfnjdjaaGreatDoorCards
import Derived.Test.YtldfjimgfnjdjaaGreatDoorTie
import Derived.WalkKit
import Derived.ProofKit
import Derived.OpenShut
import Derived.Deep.DeepHandedRow
import Derived.Lib.LaidTab
import Derived.ClosedOfChecked
set_option linter.all false
set_option maxRecDepth 100000
namespace Go.Proofs.YtldfjimgfnjdjaaGreatDoor
open Go Go.RowKit
theorem and_l {a b:Bool} (h:(a&&b)=true):a=true:=(Bool.and_eq_true_iff.1 h).1
theorem and_r {a b:Bool} (h:(a&&b)=true):b=true:=(Bool.and_eq_true_iff.1 h).2
theorem and2 {a b:Bool} (h:a=true) (k:b=true):(a&&b)=true:=Bool.and_eq_true_iff.2 ⟨h,k⟩
theorem cl1:Tryz.checked.prog.types=Tryz.checked.src.types:=by kernel_rfl
theorem cl2:(Tryz.checked.prog.globals.all (fun g=>decide (g.type<Tryz.checked.prog.types.size))&&Tryz.checked.prog.funcs.all (fun f=>f.params.all fun t=>decide (t<Tryz.checked.prog.types.size)))=true:=by kernel_rfl
theorem laidOut2:laidOutB Tryz.checked.prog=true∧mapsRowed Tryz.checked.prog=true∧True :=
 have H:=ClosedOfChecked.allSpec_of Tryz.checked.wellFormed cl1
 ⟨ClosedOfChecked.laidOutB_of H cl2,ClosedOfChecked.mapsRowed_of H,trivial⟩
theorem clientAsks_keys:(Rows.clientAsksRow.plainKeys==Tryz.pinned.checked.prog.plainKeys)=true:=by kernel_rfl
theorem clientAsks_g0:((Rows.clientAsksRow.inPlace==Tryz.pinned.checked.prog.inPlace 10))=true:=by kernel_rfl
theorem clientAsks_g1:((Rows.clientAsksRow.unfollowed==Tryz.pinned.checked.prog.unfollowed 10))=true:=by kernel_rfl
theorem clientAsks_g2:((Rows.clientAsksRow.recurses==Tryz.pinned.checked.prog.recurses 10))=true:=by kernel_rfl
theorem clientAsks_g3:((Rows.clientAsksRow.named==Tryz.pinned.checked.prog.varsNamed 10))=true:=by kernel_rfl
theorem clientAsks_g4:(Rows.clientAsksRow.wf (OpenSpec.ofChange (OpenSpec.ofChange Rows.clientAsksSpec).bare)&&Tryz.f10.params.all (Tryz.pinned.checked.prog.readableRec ·)&&namedTie Tryz.pinned.checked.prog Rows.clientAsksRow.named (OpenSpec.ofChange Rows.clientAsksSpec).bare.vars&&(Rows.clientAsksRow.stops==[])&&(Tryz.pinned.checked.prog.stops==[])&&(Rows.clientAsksRow.knobs==[])&&(Tryz.pinned.checked.prog.stopKnobs==[]))=true:=by kernel_rfl
theorem clientAsks_g5:((Rows.clientAsksRow.maps==(Tryz.f10.params.toList++(OpenSpec.ofChange Rows.clientAsksSpec).bare.plain.varTypes Tryz.pinned.checked.prog).any (Tryz.pinned.checked.prog.mapsRec ·))&&(Rows.clientAsksRow.ifaces==(Tryz.f10.params.toList++(OpenSpec.ofChange Rows.clientAsksSpec).bare.plain.varTypes Tryz.pinned.checked.prog).any (Tryz.pinned.checked.prog.ifacesRec ·))&&(Rows.clientAsksRow.mapsOut==Tryz.pinned.checked.prog.mapsAmong Tryz.f10.resultTypes.toList)&&(Rows.clientAsksRow.loops==(Tryz.f10.params.toList++(OpenSpec.ofChange Rows.clientAsksSpec).bare.plain.varTypes Tryz.pinned.checked.prog).any (Tryz.pinned.checked.prog.loopsFrom ·))&&(Rows.clientAsksRow.wideKeys==(Tryz.f10.params.toList++(OpenSpec.ofChange Rows.clientAsksSpec).bare.plain.varTypes Tryz.pinned.checked.prog++Tryz.f10.resultTypes.toList).any (Tryz.pinned.checked.prog.wideKeysFrom ·))&&(OpenSpec.ofChange Rows.clientAsksSpec).bare.vars.all (Tryz.pinned.checked.prog.varReadable ·)&&Tryz.f10.resultTypes.all (fun t=>Tryz.pinned.checked.prog.readableRec t&&decide (t<Tryz.pinned.checked.prog.types.size))&&(Rows.clientAsksRow.ifacesOut==Tryz.f10.resultTypes.toList.any (Tryz.pinned.checked.prog.ifacesRec ·))&&(Rows.clientAsksRow.loopsOut==Tryz.f10.resultTypes.toList.any (Tryz.pinned.checked.prog.loopsFrom ·)))=true:=by kernel_rfl
theorem clientAsks_g6:(Rows.clientAsksRow.shortTexts.isNone&&Tryz.pinned.checked.prog.stopsHeard&&Tryz.pinned.checked.prog.mayEnter&&(Rows.clientAsksRow.lifted==Tryz.pinned.checked.prog.liftsFinal)&&(Tryz.pinned.checked.prog.make==some Rows.clientAsksRow.make)&&(Rows.clientAsksRow.kinds==(if Rows.clientAsksRow.domain.isEmpty then [] else Tryz.f10.params.toList.map fun t=>match Tryz.pinned.checked.prog.underlying t with | some (.int k)=>some k | _=>none))&&(Rows.clientAsksRow.pinned==Rows.clientAsksRow.pinnedBy)&&(Rows.clientAsksRow.veiled==(Tryz.f10.params.toList++(OpenSpec.ofChange Rows.clientAsksSpec).bare.plain.varTypes Tryz.pinned.checked.prog++Tryz.f10.resultTypes.toList).any (Tryz.pinned.checked.prog.veiledRec ·))&&Rows.clientAsksRow.veiledFits Tryz.pinned.checked.prog Tryz.f10.params.toList (Tryz.f10.params.toList++(OpenSpec.ofChange Rows.clientAsksSpec).bare.plain.varTypes Tryz.pinned.checked.prog++Tryz.f10.resultTypes.toList))=true:=by kernel_rfl
theorem clientAsks_joined:joinedFacts Tryz.pinned.checked.prog 10 Tryz.f10 (OpenSpec.ofChange Rows.clientAsksSpec).bare Rows.clientAsksRow=true:=(and2 (and2 (and2 (and2 (and2 (and2 (and2 (and2 (and2 (and2 (and2 (and2 (and2 (and2 (and2 (and2 (and2 (and2 (and2 (and2 (and2 (and2 (and2 (and2 (and2 (and2 (and2 (and2 (and2 (and2 (and2 (and_l (and_l (and_l (and_l (and_l (and_l clientAsks_g4)))))) laidOut2.1) laidOut2.2.1) (and_r (and_l (and_l (and_l (and_l (and_l clientAsks_g4))))))) (and_r (and_l (and_l (and_l (and_l clientAsks_g4)))))) (and_r (and_l (and_l (and_l clientAsks_g4))))) (and_r (and_l (and_l clientAsks_g4)))) (and_r (and_l clientAsks_g4))) (and_r clientAsks_g4)) clientAsks_g0) clientAsks_g1) clientAsks_g2) clientAsks_g3) (and_l (and_l (and_l (and_l (and_l (and_l (and_l (and_l clientAsks_g5))))))))) (and_r (and_l (and_l (and_l (and_l (and_l (and_l (and_l clientAsks_g5))))))))) (and_r (and_l (and_l (and_l (and_l (and_l (and_l clientAsks_g5)))))))) (and_r (and_l (and_l (and_l (and_l (and_l clientAsks_g5))))))) (and_r (and_l (and_l (and_l (and_l clientAsks_g5)))))) (and_r (and_l (and_l (and_l clientAsks_g5))))) (and_r (and_l (and_l clientAsks_g5)))) (and_r (and_l clientAsks_g5))) (and_r clientAsks_g5)) (clientAsks_keys)) (and_l (and_l (and_l (and_l (and_l (and_l (and_l (and_l clientAsks_g6))))))))) (and_r (and_l (and_l (and_l (and_l (and_l (and_l (and_l clientAsks_g6))))))))) (and_r (and_l (and_l (and_l (and_l (and_l (and_l clientAsks_g6)))))))) (and_r (and_l (and_l (and_l (and_l (and_l clientAsks_g6))))))) (and_r (and_l (and_l (and_l (and_l clientAsks_g6)))))) (and_r (and_l (and_l (and_l clientAsks_g6))))) (and_r (and_l (and_l clientAsks_g6)))) (and_r (and_l clientAsks_g6))) (and_r clientAsks_g6))
theorem clientAsks_named:Tryz.pinned.checked.prog.funcNamed Rows.clientAsksRow.func=some 10:=by kernel_rfl
theorem clientAsks_inst:Tryz.f10.isInstance Tryz.pinned.checked.prog Rows.clientAsksRow.origin Rows.clientAsksRow.targs:=of_decide_eq_true (by kernel_rfl)
theorem clientAsks_wrap:Tryz.f10.isWrapper Tryz.pinned.checked.prog Rows.clientAsksRow.wrapper Rows.clientAsksRow.mainSum:=by unfold Func.isWrapper;first | (rw [if_pos (by decide +kernel)];kernel_rfl) | (rw [if_neg (by decide +kernel)];exact ⟨rfl,rfl⟩)
theorem clientAsks_wfText:Rows.clientAsksRow.wfByText (OpenSpec.ofChange Rows.clientAsksSpec)=true:=by kernel_rfl
theorem clientAsks_main : Tryz.pinned.checked.prog.mainIs = some (true, ("a0798a144b673da0f98aec6a33c0d730257128302e469591ab2bf9fa1a6cd5db" : String).toList) := by kernel_rfl
theorem clientAsks_hn : Tryz.prog.funcNamed "legate/legatelaw12.ClientAsks" = some 10 := by kernel_rfl
theorem clientAsks_hall:(Tryz.f10.params.toList.all fun t=>Tryz.prog.wantsStandIn t==false)=true:=by kernel_rfl
theorem clientAsks_goes:false=Rows.clientAsksRow.goesBy Tryz.pinned.checked.prog:=by kernel_rfl
end Go.Proofs.YtldfjimgfnjdjaaGreatDoor
