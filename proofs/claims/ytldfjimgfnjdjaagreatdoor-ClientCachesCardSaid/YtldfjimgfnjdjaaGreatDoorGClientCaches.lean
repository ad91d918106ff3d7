import Derived.Test.YtldfjimgfnjdjaaGreatDoorCards
import Derived.Test.YtldfjimgfnjdjaaGreatDoorTie
import Derived.WalkKit
import Derived.ProofKit
import Derived.OpenShut
import Derived.Deep.DeepHandedRow
import Derived.Lib.LaidTab
import Derived.ClosedOfChecked
set_option linter.all false
set_option maxRecDepth 100000
namespace Go.Proofs.YtldfjimgfnjdjaaGreatDoor
open Go Go.RowKit
theorem and_l {a b:Bool} (h:(a&&b)=true):a=true:=(Bool.and_eq_true_iff.1 h).1
theorem and_r {a b:Bool} (h:(a&&b)=true):b=true:=(Bool.and_eq_true_iff.1 h).2
theorem and2 {a b:Bool} (h:a=true) (k:b=true):(a&&b)=true:=Bool.and_eq_true_iff.2 ⟨h,k⟩
theorem cl1:Tryz.checked.prog.types=Tryz.checked.src.types:=by kernel_rfl
theorem cl2:(Tryz.checked.prog.globals.all (fun g=>decide (g.type<Tryz.checked.prog.types.size))&&Tryz.checked.prog.funcs.all (fun f=>f.params.all fun t=>decide (t<Tryz.checked.prog.types.size)))=true:=by kernel_rfl
theorem laidOut2:laidOutB Tryz.checked.prog=true∧mapsRowed Tryz.checked.prog=true∧True :=
 have H:=ClosedOfChecked.allSpec_of Tryz.checked.wellFormed cl1
 ⟨ClosedOfChecked.laidOutB_of H cl2,ClosedOfChecked.mapsRowed_of H,trivial⟩
theorem clientCaches_keys:(Rows.clientCachesRow.plainKeys==Tryz.pinned.checked.prog.plainKeys)=true:=by kernel_rfl
theorem clientCaches_g0:((Rows.clientCachesRow.inPlace==Tryz.pinned.checked.prog.inPlace 6))=true:=by kernel_rfl
theorem clientCaches_g1:((Rows.clientCachesRow.unfollowed==Tryz.pinned.checked.prog.unfollowed 6))=true:=by kernel_rfl
theorem clientCaches_g2:((Rows.clientCachesRow.recurses==Tryz.pinned.checked.prog.recurses 6))=true:=by kernel_rfl
theorem clientCaches_g3:((Rows.clientCachesRow.named==Tryz.pinned.checked.prog.varsNamed 6))=true:=by kernel_rfl
theorem clientCaches_g4:(Rows.clientCachesRow.wf (OpenSpec.ofChange (OpenSpec.ofChange Rows.clientCachesSpec).bare)&&Tryz.f6.params.all (Tryz.pinned.checked.prog.readableRec ·)&&namedTie Tryz.pinned.checked.prog Rows.clientCachesRow.named (OpenSpec.ofChange Rows.clientCachesSpec).bare.vars&&(Rows.clientCachesRow.stops==[])&&(Tryz.pinned.checked.prog.stops==[])&&(Rows.clientCachesRow.knobs==[])&&(Tryz.pinned.checked.prog.stopKnobs==[]))=true:=by kernel_rfl
theorem clientCaches_g5:((Rows.clientCachesRow.maps==(Tryz.f6.params.toList++(OpenSpec.ofChange Rows.clientCachesSpec).bare.plain.varTypes Tryz.pinned.checked.prog).any (Tryz.pinned.checked.prog.mapsRec ·))&&(Rows.clientCachesRow.ifaces==(Tryz.f6.params.toList++(OpenSpec.ofChange Rows.clientCachesSpec).bare.plain.varTypes Tryz.pinned.checked.prog).any (Tryz.pinned.checked.prog.ifacesRec ·))&&(Rows.clientCachesRow.mapsOut==Tryz.pinned.checked.prog.mapsAmong Tryz.f6.resultTypes.toList)&&(Rows.clientCachesRow.loops==(Tryz.f6.params.toList++(OpenSpec.ofChange Rows.clientCachesSpec).bare.plain.varTypes Tryz.pinned.checked.prog).any (Tryz.pinned.checked.prog.loopsFrom ·))&&(Rows.clientCachesRow.wideKeys==(Tryz.f6.params.toList++(OpenSpec.ofChange Rows.clientCachesSpec).bare.plain.varTypes Tryz.pinned.checked.prog++Tryz.f6.resultTypes.toList).any (Tryz.pinned.checked.prog.wideKeysFrom ·))&&(OpenSpec.ofChange Rows.clientCachesSpec).bare.vars.all (Tryz.pinned.checked.prog.varReadable ·)&&Tryz.f6.resultTypes.all (fun t=>Tryz.pinned.checked.prog.readableRec t&&decide (t<Tryz.pinned.checked.prog.types.size))&&(Rows.clientCachesRow.ifacesOut==Tryz.f6.resultTypes.toList.any (Tryz.pinned.checked.prog.ifacesRec ·))&&(Rows.clientCachesRow.loopsOut==Tryz.f6.resultTypes.toList.any (Tryz.pinned.checked.prog.loopsFrom ·)))=true:=by kernel_rfl
theorem clientCaches_g6:(Rows.clientCachesRow.shortTexts.isNone&&Tryz.pinned.checked.prog.stopsHeard&&Tryz.pinned.checked.prog.mayEnter&&(Rows.clientCachesRow.lifted==Tryz.pinned.checked.prog.liftsFinal)&&(Tryz.pinned.checked.prog.make==some Rows.clientCachesRow.make)&&(Rows.clientCachesRow.kinds==(if Rows.clientCachesRow.domain.isEmpty then [] else Tryz.f6.params.toList.map fun t=>match Tryz.pinned.checked.prog.underlying t with | some (.int k)=>some k | _=>none))&&(Rows.clientCachesRow.pinned==Rows.clientCachesRow.pinnedBy)&&(Rows.clientCachesRow.veiled==(Tryz.f6.params.toList++(OpenSpec.ofChange Rows.clientCachesSpec).bare.plain.varTypes Tryz.pinned.checked.prog++Tryz.f6.resultTypes.toList).any (Tryz.pinned.checked.prog.veiledRec ·))&&Rows.clientCachesRow.veiledFits Tryz.pinned.checked.prog Tryz.f6.params.toList (Tryz.f6.params.toList++(OpenSpec.ofChange Rows.clientCachesSpec).bare.plain.varTypes Tryz.pinned.checked.prog++Tryz.f6.resultTypes.toList))=true:=by kernel_rfl
theorem clientCaches_joined:joinedFacts Tryz.pinned.checked.prog 6 Tryz.f6 (OpenSpec.ofChange Rows.clientCachesSpec).bare Rows.clientCachesRow=true:=(and2 (and2 (and2 (and2 (and2 (and2 (and2 (and2 (and2 (and2 (and2 (and2 (and2 (and2 (and2 (and2 (and2 (and2 (and2 (and2 (and2 (and2 (and2 (and2 (and2 (and2 (and2 (and2 (and2 (and2 (and2 (and_l (and_l (and_l (and_l (and_l (and_l clientCaches_g4)))))) laidOut2.1) laidOut2.2.1) (and_r (and_l (and_l (and_l (and_l (and_l clientCaches_g4))))))) (and_r (and_l (and_l (and_l (and_l clientCaches_g4)))))) (and_r (and_l (and_l (and_l clientCaches_g4))))) (and_r (and_l (and_l clientCaches_g4)))) (and_r (and_l clientCaches_g4))) (and_r clientCaches_g4)) clientCaches_g0) clientCaches_g1) clientCaches_g2) clientCaches_g3) (and_l (and_l (and_l (and_l (and_l (and_l (and_l (and_l clientCaches_g5))))))))) (and_r (and_l (and_l (and_l (and_l (and_l (and_l (and_l clientCaches_g5))))))))) (and_r (and_l (and_l (and_l (and_l (and_l (and_l clientCaches_g5)))))))) (and_r (and_l (and_l (and_l (and_l (and_l clientCaches_g5))))))) (and_r (and_l (and_l (and_l (and_l clientCaches_g5)))))) (and_r (and_l (and_l (and_l clientCaches_g5))))) (and_r (and_l (and_l clientCaches_g5)))) (and_r (and_l clientCaches_g5))) (and_r clientCaches_g5)) (clientCaches_keys)) (and_l (and_l (and_l (and_l (and_l (and_l (and_l (and_l clientCaches_g6))))))))) (and_r (and_l (and_l (and_l (and_l (and_l (and_l (and_l clientCaches_g6))))))))) (and_r (and_l (and_l (and_l (and_l (and_l (and_l clientCaches_g6)))))))) (and_r (and_l (and_l (and_l (and_l (and_l clientCaches_g6))))))) (and_r (and_l (and_l (and_l (and_l clientCaches_g6)))))) (and_r (and_l (and_l (and_l clientCaches_g6))))) (and_r (and_l (and_l clientCaches_g6)))) (and_r (and_l clientCaches_g6))) (and_r clientCaches_g6))
theorem clientCaches_named:Tryz.pinned.checked.prog.funcNamed Rows.clientCachesRow.func=some 6:=by kernel_rfl
theorem clientCaches_inst:Tryz.f6.isInstance Tryz.pinned.checked.prog Rows.clientCachesRow.origin Rows.clientCachesRow.targs:=of_decide_eq_true (by kernel_rfl)
theorem clientCaches_wrap:Tryz.f6.isWrapper Tryz.pinned.checked.prog Rows.clientCachesRow.wrapper Rows.clientCachesRow.mainSum:=by unfold Func.isWrapper;first | (rw [if_pos (by decide +kernel)];kernel_rfl) | (rw [if_neg (by decide +kernel)];exact ⟨rfl,rfl⟩)
theorem clientCaches_wfText:Rows.clientCachesRow.wfByText (OpenSpec.ofChange Rows.clientCachesSpec)=true:=by kernel_rfl
theorem clientCaches_main : Tryz.pinned.checked.prog.mainIs = some (true, ("a0798a144b673da0f98aec6a33c0d730257128302e469591ab2bf9fa1a6cd5db" : String).toList) := by kernel_rfl
theorem clientCaches_hn : Tryz.prog.funcNamed "legate/legatelaw12.ClientCaches" = some 6 := by kernel_rfl
theorem clientCaches_hall:(Tryz.f6.params.toList.all fun t=>Tryz.prog.wantsStandIn t==false)=true:=by kernel_rfl
theorem clientCaches_goes:false=Rows.clientCachesRow.goesBy Tryz.pinned.checked.prog:=by kernel_rfl
end Go.Proofs.YtldfjimgfnjdjaaGreatDoor
