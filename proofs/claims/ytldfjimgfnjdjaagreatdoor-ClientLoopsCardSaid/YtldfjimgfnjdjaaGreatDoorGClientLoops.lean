import Derived.Test.YtldfjimgfnjdjaaGreatDoorCards
import Derived.Test.YtldfjimgfnjdjaaGreatDoorTie
import Derived.WalkKit
import Derived.ProofKit
import Derived.OpenShut
import Derived.Deep.DeepHandedRow
import Derived.Lib.LaidTab
import Derived.ClosedOfChecked
set_option linter.all false
set_option maxRecDepth 100000
namespace Go.Proofs.YtldfjimgfnjdjaaGreatDoor
open Go Go.RowKit
theorem and_l {a b:Bool} (h:(a&&b)=true):a=true:=(Bool.and_eq_true_iff.1 h).1
theorem and_r {a b:Bool} (h:(a&&b)=true):b=true:=(Bool.and_eq_true_iff.1 h).2
theorem and2 {a b:Bool} (h:a=true) (k:b=true):(a&&b)=true:=Bool.and_eq_true_iff.2 ⟨h,k⟩
theorem cl1:Tryz.checked.prog.types=Tryz.checked.src.types:=by kernel_rfl
theorem cl2:(Tryz.checked.prog.globals.all (fun g=>decide (g.type<Tryz.checked.prog.types.size))&&Tryz.checked.prog.funcs.all (fun f=>f.params.all fun t=>decide (t<Tryz.checked.prog.types.size)))=true:=by kernel_rfl
theorem laidOut2:laidOutB Tryz.checked.prog=true∧mapsRowed Tryz.checked.prog=true∧True :=
 have H:=ClosedOfChecked.allSpec_of Tryz.checked.wellFormed cl1
 ⟨ClosedOfChecked.laidOutB_of H cl2,ClosedOfChecked.mapsRowed_of H,trivial⟩
theorem clientLoops_keys:(Rows.clientLoopsRow.plainKeys==Tryz.pinned.checked.prog.plainKeys)=true:=by kernel_rfl
theorem clientLoops_g0:((Rows.clientLoopsRow.inPlace==Tryz.pinned.checked.prog.inPlace 4))=true:=by kernel_rfl
theorem clientLoops_g1:((Rows.clientLoopsRow.unfollowed==Tryz.pinned.checked.prog.unfollowed 4))=true:=by kernel_rfl
theorem clientLoops_g2:((Rows.clientLoopsRow.recurses==Tryz.pinned.checked.prog.recurses 4))=true:=by kernel_rfl
theorem clientLoops_g3:((Rows.clientLoopsRow.named==Tryz.pinned.checked.prog.varsNamed 4))=true:=by kernel_rfl
theorem clientLoops_g4:(Rows.clientLoopsRow.wf (OpenSpec.ofChange (OpenSpec.ofChange Rows.clientLoopsSpec).bare)&&Tryz.f4.params.all (Tryz.pinned.checked.prog.readableRec ·)&&namedTie Tryz.pinned.checked.prog Rows.clientLoopsRow.named (OpenSpec.ofChange Rows.clientLoopsSpec).bare.vars&&(Rows.clientLoopsRow.stops==[])&&(Tryz.pinned.checked.prog.stops==[])&&(Rows.clientLoopsRow.knobs==[])&&(Tryz.pinned.checked.prog.stopKnobs==[]))=true:=by kernel_rfl
theorem clientLoops_g5:((Rows.clientLoopsRow.maps==(Tryz.f4.params.toList++(OpenSpec.ofChange Rows.clientLoopsSpec).bare.plain.varTypes Tryz.pinned.checked.prog).any (Tryz.pinned.checked.prog.mapsRec ·))&&(Rows.clientLoopsRow.ifaces==(Tryz.f4.params.toList++(OpenSpec.ofChange Rows.clientLoopsSpec).bare.plain.varTypes Tryz.pinned.checked.prog).any (Tryz.pinned.checked.prog.ifacesRec ·))&&(Rows.clientLoopsRow.mapsOut==Tryz.pinned.checked.prog.mapsAmong Tryz.f4.resultTypes.toList)&&(Rows.clientLoopsRow.loops==(Tryz.f4.params.toList++(OpenSpec.ofChange Rows.clientLoopsSpec).bare.plain.varTypes Tryz.pinned.checked.prog).any (Tryz.pinned.checked.prog.loopsFrom ·))&&(Rows.clientLoopsRow.wideKeys==(Tryz.f4.params.toList++(OpenSpec.ofChange Rows.clientLoopsSpec).bare.plain.varTypes Tryz.pinned.checked.prog++Tryz.f4.resultTypes.toList).any (Tryz.pinned.checked.prog.wideKeysFrom ·))&&(OpenSpec.ofChange Rows.clientLoopsSpec).bare.vars.all (Tryz.pinned.checked.prog.varReadable ·)&&Tryz.f4.resultTypes.all (fun t=>Tryz.pinned.checked.prog.readableRec t&&decide (t<Tryz.pinned.checked.prog.types.size))&&(Rows.clientLoopsRow.ifacesOut==Tryz.f4.resultTypes.toList.any (Tryz.pinned.checked.prog.ifacesRec ·))&&(Rows.clientLoopsRow.loopsOut==Tryz.f4.resultTypes.toList.any (Tryz.pinned.checked.prog.loopsFrom ·)))=true:=by kernel_rfl
theorem clientLoops_g6:(Rows.clientLoopsRow.shortTexts.isNone&&Tryz.pinned.checked.prog.stopsHeard&&Tryz.pinned.checked.prog.mayEnter&&(Rows.clientLoopsRow.lifted==Tryz.pinned.checked.prog.liftsFinal)&&(Tryz.pinned.checked.prog.make==some Rows.clientLoopsRow.make)&&(Rows.clientLoopsRow.kinds==(if Rows.clientLoopsRow.domain.isEmpty then [] else Tryz.f4.params.toList.map fun t=>match Tryz.pinned.checked.prog.underlying t with | some (.int k)=>some k | _=>none))&&(Rows.clientLoopsRow.pinned==Rows.clientLoopsRow.pinnedBy)&&(Rows.clientLoopsRow.veiled==(Tryz.f4.params.toList++(OpenSpec.ofChange Rows.clientLoopsSpec).bare.plain.varTypes Tryz.pinned.checked.prog++Tryz.f4.resultTypes.toList).any (Tryz.pinned.checked.prog.veiledRec ·))&&Rows.clientLoopsRow.veiledFits Tryz.pinned.checked.prog Tryz.f4.params.toList (Tryz.f4.params.toList++(OpenSpec.ofChange Rows.clientLoopsSpec).bare.plain.varTypes Tryz.pinned.checked.prog++Tryz.f4.resultTypes.toList))=true:=by kernel_rfl
theorem clientLoops_joined:joinedFacts Tryz.pinned.checked.prog 4 Tryz.f4 (OpenSpec.ofChange Rows.clientLoopsSpec).bare Rows.clientLoopsRow=true:=(and2 (and2 (and2 (and2 (and2 (and2 (and2 (and2 (and2 (and2 (and2 (and2 (and2 (and2 (and2 (and2 (and2 (and2 (and2 (and2 (and2 (and2 (and2 (and2 (and2 (and2 (and2 (and2 (and2 (and2 (and2 (and_l (and_l (and_l (and_l (and_l (and_l clientLoops_g4)))))) laidOut2.1) laidOut2.2.1) (and_r (and_l (and_l (and_l (and_l (and_l clientLoops_g4))))))) (and_r (and_l (and_l (and_l (and_l clientLoops_g4)))))) (and_r (and_l (and_l (and_l clientLoops_g4))))) (and_r (and_l (and_l clientLoops_g4)))) (and_r (and_l clientLoops_g4))) (and_r clientLoops_g4)) clientLoops_g0) clientLoops_g1) clientLoops_g2) clientLoops_g3) (and_l (and_l (and_l (and_l (and_l (and_l (and_l (and_l clientLoops_g5))))))))) (and_r (and_l (and_l (and_l (and_l (and_l (and_l (and_l clientLoops_g5))))))))) (and_r (and_l (and_l (and_l (and_l (and_l (and_l clientLoops_g5)))))))) (and_r (and_l (and_l (and_l (and_l (and_l clientLoops_g5))))))) (and_r (and_l (and_l (and_l (and_l clientLoops_g5)))))) (and_r (and_l (and_l (and_l clientLoops_g5))))) (and_r (and_l (and_l clientLoops_g5)))) (and_r (and_l clientLoops_g5))) (and_r clientLoops_g5)) (clientLoops_keys)) (and_l (and_l (and_l (and_l (and_l (and_l (and_l (and_l clientLoops_g6))))))))) (and_r (and_l (and_l (and_l (and_l (and_l (and_l (and_l clientLoops_g6))))))))) (and_r (and_l (and_l (and_l (and_l (and_l (and_l clientLoops_g6)))))))) (and_r (and_l (and_l (and_l (and_l (and_l clientLoops_g6))))))) (and_r (and_l (and_l (and_l (and_l clientLoops_g6)))))) (and_r (and_l (and_l (and_l clientLoops_g6))))) (and_r (and_l (and_l clientLoops_g6)))) (and_r (and_l clientLoops_g6))) (and_r clientLoops_g6))
theorem clientLoops_named:Tryz.pinned.checked.prog.funcNamed Rows.clientLoopsRow.func=some 4:=by kernel_rfl
theorem clientLoops_inst:Tryz.f4.isInstance Tryz.pinned.checked.prog Rows.clientLoopsRow.origin Rows.clientLoopsRow.targs:=of_decide_eq_true (by kernel_rfl)
theorem clientLoops_wrap:Tryz.f4.isWrapper Tryz.pinned.checked.prog Rows.clientLoopsRow.wrapper Rows.clientLoopsRow.mainSum:=by unfold Func.isWrapper;first | (rw [if_pos (by decide +kernel)];kernel_rfl) | (rw [if_neg (by decide +kernel)];exact ⟨rfl,rfl⟩)
theorem clientLoops_wfText:Rows.clientLoopsRow.wfByText (OpenSpec.ofChange Rows.clientLoopsSpec)=true:=by kernel_rfl
theorem clientLoops_main : Tryz.pinned.checked.prog.mainIs = some (true, ("a0798a144b673da0f98aec6a33c0d730257128302e469591ab2bf9fa1a6cd5db" : String).toList) := by kernel_rfl
theorem clientLoops_hn : Tryz.prog.funcNamed "legate/legatelaw12.ClientLoops" = some 4 := by kernel_rfl
theorem clientLoops_hall:(Tryz.f4.params.toList.all fun t=>Tryz.prog.wantsStandIn t==false)=true:=by kernel_rfl
theorem clientLoops_goes:false=Rows.clientLoopsRow.goesBy Tryz.pinned.checked.prog:=by kernel_rfl
end Go.Proofs.YtldfjimgfnjdjaaGreatDoor
