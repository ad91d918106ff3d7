import Derived.Test.YtldfjimgfnjdjaaGreatDoorCards
import Derived.Test.YtldfjimgfnjdjaaGreatDoorTie
import Derived.WalkKit
import Derived.ProofKit
import Derived.OpenShut
import Derived.Deep.DeepHandedRow
import Derived.Lib.LaidTab
import Derived.ClosedOfChecked
set_option linter.all false
set_option maxRecDepth 100000
namespace Go.Proofs.YtldfjimgfnjdjaaGreatDoor
open Go Go.RowKit
theorem and_l {a b:Bool} (h:(a&&b)=true):a=true:=(Bool.and_eq_true_iff.1 h).1
theorem and_r {a b:Bool} (h:(a&&b)=true):b=true:=(Bool.and_eq_true_iff.1 h).2
theorem and2 {a b:Bool} (h:a=true) (k:b=true):(a&&b)=true:=Bool.and_eq_true_iff.2 ⟨h,k⟩
theorem cl1:Tryz.checked.prog.types=Tryz.checked.src.types:=by kernel_rfl
theorem cl2:(Tryz.checked.prog.globals.all (fun g=>decide (g.type<Tryz.checked.prog.types.size))&&Tryz.checked.prog.funcs.all (fun f=>f.params.all fun t=>decide (t<Tryz.checked.prog.types.size)))=true:=by kernel_rfl
theorem laidOut2:laidOutB Tryz.checked.prog=true∧mapsRowed Tryz.checked.prog=true∧True :=
 have H:=ClosedOfChecked.allSpec_of Tryz.checked.wellFormed cl1
 ⟨ClosedOfChecked.laidOutB_of H cl2,ClosedOfChecked.mapsRowed_of H,trivial⟩
theorem clientBounds_keys:(Rows.clientBoundsRow.plainKeys==Tryz.pinned.checked.prog.plainKeys)=true:=by kernel_rfl
theorem clientBounds_g0:((Rows.clientBoundsRow.inPlace==Tryz.pinned.checked.prog.inPlace 3))=true:=by kernel_rfl
theorem clientBounds_g1:((Rows.clientBoundsRow.unfollowed==Tryz.pinned.checked.prog.unfollowed 3))=true:=by kernel_rfl
theorem clientBounds_g2:((Rows.clientBoundsRow.recurses==Tryz.pinned.checked.prog.recurses 3))=true:=by kernel_rfl
theorem clientBounds_g3:((Rows.clientBoundsRow.named==Tryz.pinned.checked.prog.varsNamed 3))=true:=by kernel_rfl
theorem clientBounds_g4:(Rows.clientBoundsRow.wf (OpenSpec.ofChange (OpenSpec.ofChange Rows.clientBoundsSpec).bare)&&Tryz.f3.params.all (Tryz.pinned.checked.prog.readableRec ·)&&namedTie Tryz.pinned.checked.prog Rows.clientBoundsRow.named (OpenSpec.ofChange Rows.clientBoundsSpec).bare.vars&&(Rows.clientBoundsRow.stops==[])&&(Tryz.pinned.checked.prog.stops==[])&&(Rows.clientBoundsRow.knobs==[])&&(Tryz.pinned.checked.prog.stopKnobs==[]))=true:=by kernel_rfl
theorem clientBounds_g5:((Rows.clientBoundsRow.maps==(Tryz.f3.params.toList++(OpenSpec.ofChange Rows.clientBoundsSpec).bare.plain.varTypes Tryz.pinned.checked.prog).any (Tryz.pinned.checked.prog.mapsRec ·))&&(Rows.clientBoundsRow.ifaces==(Tryz.f3.params.toList++(OpenSpec.ofChange Rows.clientBoundsSpec).bare.plain.varTypes Tryz.pinned.checked.prog).any (Tryz.pinned.checked.prog.ifacesRec ·))&&(Rows.clientBoundsRow.mapsOut==Tryz.pinned.checked.prog.mapsAmong Tryz.f3.resultTypes.toList)&&(Rows.clientBoundsRow.loops==(Tryz.f3.params.toList++(OpenSpec.ofChange Rows.clientBoundsSpec).bare.plain.varTypes Tryz.pinned.checked.prog).any (Tryz.pinned.checked.prog.loopsFrom ·))&&(Rows.clientBoundsRow.wideKeys==(Tryz.f3.params.toList++(OpenSpec.ofChange Rows.clientBoundsSpec).bare.plain.varTypes Tryz.pinned.checked.prog++Tryz.f3.resultTypes.toList).any (Tryz.pinned.checked.prog.wideKeysFrom ·))&&(OpenSpec.ofChange Rows.clientBoundsSpec).bare.vars.all (Tryz.pinned.checked.prog.varReadable ·)&&Tryz.f3.resultTypes.all (fun t=>Tryz.pinned.checked.prog.readableRec t&&decide (t<Tryz.pinned.checked.prog.types.size))&&(Rows.clientBoundsRow.ifacesOut==Tryz.f3.resultTypes.toList.any (Tryz.pinned.checked.prog.ifacesRec ·))&&(Rows.clientBoundsRow.loopsOut==Tryz.f3.resultTypes.toList.any (Tryz.pinned.checked.prog.loopsFrom ·)))=true:=by kernel_rfl
theorem clientBounds_g6:(Rows.clientBoundsRow.shortTexts.isNone&&Tryz.pinned.checked.prog.stopsHeard&&Tryz.pinned.checked.prog.mayEnter&&(Rows.clientBoundsRow.lifted==Tryz.pinned.checked.prog.liftsFinal)&&(Tryz.pinned.checked.prog.make==some Rows.clientBoundsRow.make)&&(Rows.clientBoundsRow.kinds==(if Rows.clientBoundsRow.domain.isEmpty then [] else Tryz.f3.params.toList.map fun t=>match Tryz.pinned.checked.prog.underlying t with | some (.int k)=>some k | _=>none))&&(Rows.clientBoundsRow.pinned==Rows.clientBoundsRow.pinnedBy)&&(Rows.clientBoundsRow.veiled==(Tryz.f3.params.toList++(OpenSpec.ofChange Rows.clientBoundsSpec).bare.plain.varTypes Tryz.pinned.checked.prog++Tryz.f3.resultTypes.toList).any (Tryz.pinned.checked.prog.veiledRec ·))&&Rows.clientBoundsRow.veiledFits Tryz.pinned.checked.prog Tryz.f3.params.toList (Tryz.f3.params.toList++(OpenSpec.ofChange Rows.clientBoundsSpec).bare.plain.varTypes Tryz.pinned.checked.prog++Tryz.f3.resultTypes.toList))=true:=by kernel_rfl
theorem clientBounds_joined:joinedFacts Tryz.pinned.checked.prog 3 Tryz.f3 (OpenSpec.ofChange Rows.clientBoundsSpec).bare Rows.clientBoundsRow=true:=(and2 (and2 (and2 (and2 (and2 (and2 (and2 (and2 (and2 (and2 (and2 (and2 (and2 (and2 (and2 (and2 (and2 (and2 (and2 (and2 (and2 (and2 (and2 (and2 (and2 (and2 (and2 (and2 (and2 (and2 (and2 (and_l (and_l (and_l (and_l (and_l (and_l clientBounds_g4)))))) laidOut2.1) laidOut2.2.1) (and_r (and_l (and_l (and_l (and_l (and_l clientBounds_g4))))))) (and_r (and_l (and_l (and_l (and_l clientBounds_g4)))))) (and_r (and_l (and_l (and_l clientBounds_g4))))) (and_r (and_l (and_l clientBounds_g4)))) (and_r (and_l clientBounds_g4))) (and_r clientBounds_g4)) clientBounds_g0) clientBounds_g1) clientBounds_g2) clientBounds_g3) (and_l (and_l (and_l (and_l (and_l (and_l (and_l (and_l clientBounds_g5))))))))) (and_r (and_l (and_l (and_l (and_l (and_l (and_l (and_l clientBounds_g5))))))))) (and_r (and_l (and_l (and_l (and_l (and_l (and_l clientBounds_g5)))))))) (and_r (and_l (and_l (and_l (and_l (and_l clientBounds_g5))))))) (and_r (and_l (and_l (and_l (and_l clientBounds_g5)))))) (and_r (and_l (and_l (and_l clientBounds_g5))))) (and_r (and_l (and_l clientBounds_g5)))) (and_r (and_l clientBounds_g5))) (and_r clientBounds_g5)) (clientBounds_keys)) (and_l (and_l (and_l (and_l (and_l (and_l (and_l (and_l clientBounds_g6))))))))) (and_r (and_l (and_l (and_l (and_l (and_l (and_l (and_l clientBounds_g6))))))))) (and_r (and_l (and_l (and_l (and_l (and_l (and_l clientBounds_g6)))))))) (and_r (and_l (and_l (and_l (and_l (and_l clientBounds_g6))))))) (and_r (and_l (and_l (and_l (and_l clientBounds_g6)))))) (and_r (and_l (and_l (and_l clientBounds_g6))))) (and_r (and_l (and_l clientBounds_g6)))) (and_r (and_l clientBounds_g6))) (and_r clientBounds_g6))
theorem clientBounds_named:Tryz.pinned.checked.prog.funcNamed Rows.clientBoundsRow.func=some 3:=by kernel_rfl
theorem clientBounds_inst:Tryz.f3.isInstance Tryz.pinned.checked.prog Rows.clientBoundsRow.origin Rows.clientBoundsRow.targs:=of_decide_eq_true (by kernel_rfl)
theorem clientBounds_wrap:Tryz.f3.isWrapper Tryz.pinned.checked.prog Rows.clientBoundsRow.wrapper Rows.clientBoundsRow.mainSum:=by unfold Func.isWrapper;first | (rw [if_pos (by decide +kernel)];kernel_rfl) | (rw [if_neg (by decide +kernel)];exact ⟨rfl,rfl⟩)
theorem clientBounds_wfText:Rows.clientBoundsRow.wfByText (OpenSpec.ofChange Rows.clientBoundsSpec)=true:=by kernel_rfl
theorem clientBounds_main : Tryz.pinned.checked.prog.mainIs = some (true, ("a0798a144b673da0f98aec6a33c0d730257128302e469591ab2bf9fa1a6cd5db" : String).toList) := by kernel_rfl
theorem clientBounds_hn : Tryz.prog.funcNamed "legate/legatelaw12.ClientBounds" = some 3 := by kernel_rfl
theorem clientBounds_hall:(Tryz.f3.params.toList.all fun t=>Tryz.prog.wantsStandIn t==false)=true:=by kernel_rfl
theorem clientBounds_goes:false=Rows.clientBoundsRow.goesBy Tryz.pinned.checked.prog:=by kernel_rfl
end Go.Proofs.YtldfjimgfnjdjaaGreatDoor
