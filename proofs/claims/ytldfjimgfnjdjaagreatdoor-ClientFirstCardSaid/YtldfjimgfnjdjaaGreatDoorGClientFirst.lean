import Derived.Test.YtldfjimgfnjdjaaGreatDoorCards
import Derived.Test.YtldfjimgfnjdjaaGreatDoorTie
import Derived.WalkKit
import Derived.ProofKit
import Derived.OpenShut
import Derived.Deep.DeepHandedRow
import Derived.Lib.LaidTab
import Derived.ClosedOfChecked
set_option linter.all false
set_option maxRecDepth 100000
namespace Go.Proofs.YtldfjimgfnjdjaaGreatDoor
open Go Go.RowKit
theorem and_l {a b:Bool} (h:(a&&b)=true):a=true:=(Bool.and_eq_true_iff.1 h).1
theorem and_r {a b:Bool} (h:(a&&b)=true):b=true:=(Bool.and_eq_true_iff.1 h).2
theorem and2 {a b:Bool} (h:a=true) (k:b=true):(a&&b)=true:=Bool.and_eq_true_iff.2 ⟨h,k⟩
theorem cl1:Tryz.checked.prog.types=Tryz.checked.src.types:=by kernel_rfl
theorem cl2:(Tryz.checked.prog.globals.all (fun g=>decide (g.type<Tryz.checked.prog.types.size))&&Tryz.checked.prog.funcs.all (fun f=>f.params.all fun t=>decide (t<Tryz.checked.prog.types.size)))=true:=by kernel_rfl
theorem laidOut2:laidOutB Tryz.checked.prog=true∧mapsRowed Tryz.checked.prog=true∧True :=
 have H:=ClosedOfChecked.allSpec_of Tryz.checked.wellFormed cl1
 ⟨ClosedOfChecked.laidOutB_of H cl2,ClosedOfChecked.mapsRowed_of H,trivial⟩
theorem clientFirst_keys:(Rows.clientFirstRow.plainKeys==Tryz.pinned.checked.prog.plainKeys)=true:=by kernel_rfl
theorem clientFirst_g0:((Rows.clientFirstRow.inPlace==Tryz.pinned.checked.prog.inPlace 7))=true:=by kernel_rfl
theorem clientFirst_g1:((Rows.clientFirstRow.unfollowed==Tryz.pinned.checked.prog.unfollowed 7))=true:=by kernel_rfl
theorem clientFirst_g2:((Rows.clientFirstRow.recurses==Tryz.pinned.checked.prog.recurses 7))=true:=by kernel_rfl
theorem clientFirst_g3:((Rows.clientFirstRow.named==Tryz.pinned.checked.prog.varsNamed 7))=true:=by kernel_rfl
theorem clientFirst_g4:(Rows.clientFirstRow.wf (OpenSpec.ofChange (OpenSpec.ofChange Rows.clientFirstSpec).bare)&&Tryz.f7.params.all (Tryz.pinned.checked.prog.readableRec ·)&&namedTie Tryz.pinned.checked.prog Rows.clientFirstRow.named (OpenSpec.ofChange Rows.clientFirstSpec).bare.vars&&(Rows.clientFirstRow.stops==[])&&(Tryz.pinned.checked.prog.stops==[])&&(Rows.clientFirstRow.knobs==[])&&(Tryz.pinned.checked.prog.stopKnobs==[]))=true:=by kernel_rfl
theorem clientFirst_g5:((Rows.clientFirstRow.maps==(Tryz.f7.params.toList++(OpenSpec.ofChange Rows.clientFirstSpec).bare.plain.varTypes Tryz.pinned.checked.prog).any (Tryz.pinned.checked.prog.mapsRec ·))&&(Rows.clientFirstRow.ifaces==(Tryz.f7.params.toList++(OpenSpec.ofChange Rows.clientFirstSpec).bare.plain.varTypes Tryz.pinned.checked.prog).any (Tryz.pinned.checked.prog.ifacesRec ·))&&(Rows.clientFirstRow.mapsOut==Tryz.pinned.checked.prog.mapsAmong Tryz.f7.resultTypes.toList)&&(Rows.clientFirstRow.loops==(Tryz.f7.params.toList++(OpenSpec.ofChange Rows.clientFirstSpec).bare.plain.varTypes Tryz.pinned.checked.prog).any (Tryz.pinned.checked.prog.loopsFrom ·))&&(Rows.clientFirstRow.wideKeys==(Tryz.f7.params.toList++(OpenSpec.ofChange Rows.clientFirstSpec).bare.plain.varTypes Tryz.pinned.checked.prog++Tryz.f7.resultTypes.toList).any (Tryz.pinned.checked.prog.wideKeysFrom ·))&&(OpenSpec.ofChange Rows.clientFirstSpec).bare.vars.all (Tryz.pinned.checked.prog.varReadable ·)&&Tryz.f7.resultTypes.all (fun t=>Tryz.pinned.checked.prog.readableRec t&&decide (t<Tryz.pinned.checked.prog.types.size))&&(Rows.clientFirstRow.ifacesOut==Tryz.f7.resultTypes.toList.any (Tryz.pinned.checked.prog.ifacesRec ·))&&(Rows.clientFirstRow.loopsOut==Tryz.f7.resultTypes.toList.any (Tryz.pinned.checked.prog.loopsFrom ·)))=true:=by kernel_rfl
theorem clientFirst_g6:(Rows.clientFirstRow.shortTexts.isNone&&Tryz.pinned.checked.prog.stopsHeard&&Tryz.pinned.checked.prog.mayEnter&&(Rows.clientFirstRow.lifted==Tryz.pinned.checked.prog.liftsFinal)&&(Tryz.pinned.checked.prog.make==some Rows.clientFirstRow.make)&&(Rows.clientFirstRow.kinds==(if Rows.clientFirstRow.domain.isEmpty then [] else Tryz.f7.params.toList.map fun t=>match Tryz.pinned.checked.prog.underlying t with | some (.int k)=>some k | _=>none))&&(Rows.clientFirstRow.pinned==Rows.clientFirstRow.pinnedBy)&&(Rows.clientFirstRow.veiled==(Tryz.f7.params.toList++(OpenSpec.ofChange Rows.clientFirstSpec).bare.plain.varTypes Tryz.pinned.checked.prog++Tryz.f7.resultTypes.toList).any (Tryz.pinned.checked.prog.veiledRec ·))&&Rows.clientFirstRow.veiledFits Tryz.pinned.checked.prog Tryz.f7.params.toList (Tryz.f7.params.toList++(OpenSpec.ofChange Rows.clientFirstSpec).bare.plain.varTypes Tryz.pinned.checked.prog++Tryz.f7.resultTypes.toList))=true:=by kernel_rfl
theorem clientFirst_joined:joinedFacts Tryz.pinned.checked.prog 7 Tryz.f7 (OpenSpec.ofChange Rows.clientFirstSpec).bare Rows.clientFirstRow=true:=(and2 (and2 (and2 (and2 (and2 (and2 (and2 (and2 (and2 (and2 (and2 (and2 (and2 (and2 (and2 (and2 (and2 (and2 (and2 (and2 (and2 (and2 (and2 (and2 (and2 (and2 (and2 (and2 (and2 (and2 (and2 (and_l (and_l (and_l (and_l (and_l (and_l clientFirst_g4)))))) laidOut2.1) laidOut2.2.1) (and_r (and_l (and_l (and_l (and_l (and_l clientFirst_g4))))))) (and_r (and_l (and_l (and_l (and_l clientFirst_g4)))))) (and_r (and_l (and_l (and_l clientFirst_g4))))) (and_r (and_l (and_l clientFirst_g4)))) (and_r (and_l clientFirst_g4))) (and_r clientFirst_g4)) clientFirst_g0) clientFirst_g1) clientFirst_g2) clientFirst_g3) (and_l (and_l (and_l (and_l (and_l (and_l (and_l (and_l clientFirst_g5))))))))) (and_r (and_l (and_l (and_l (and_l (and_l (and_l (and_l clientFirst_g5))))))))) (and_r (and_l (and_l (and_l (and_l (and_l (and_l clientFirst_g5)))))))) (and_r (and_l (and_l (and_l (and_l (and_l clientFirst_g5))))))) (and_r (and_l (and_l (and_l (and_l clientFirst_g5)))))) (and_r (and_l (and_l (and_l clientFirst_g5))))) (and_r (and_l (and_l clientFirst_g5)))) (and_r (and_l clientFirst_g5))) (and_r clientFirst_g5)) (clientFirst_keys)) (and_l (and_l (and_l (and_l (and_l (and_l (and_l (and_l clientFirst_g6))))))))) (and_r (and_l (and_l (and_l (and_l (and_l (and_l (and_l clientFirst_g6))))))))) (and_r (and_l (and_l (and_l (and_l (and_l (and_l clientFirst_g6)))))))) (and_r (and_l (and_l (and_l (and_l (and_l clientFirst_g6))))))) (and_r (and_l (and_l (and_l (and_l clientFirst_g6)))))) (and_r (and_l (and_l (and_l clientFirst_g6))))) (and_r (and_l (and_l clientFirst_g6)))) (and_r (and_l clientFirst_g6))) (and_r clientFirst_g6))
theorem clientFirst_named:Tryz.pinned.checked.prog.funcNamed Rows.clientFirstRow.func=some 7:=by kernel_rfl
theorem clientFirst_inst:Tryz.f7.isInstance Tryz.pinned.checked.prog Rows.clientFirstRow.origin Rows.clientFirstRow.targs:=of_decide_eq_true (by kernel_rfl)
theorem clientFirst_wrap:Tryz.f7.isWrapper Tryz.pinned.checked.prog Rows.clientFirstRow.wrapper Rows.clientFirstRow.mainSum:=by unfold Func.isWrapper;first | (rw [if_pos (by decide +kernel)];kernel_rfl) | (rw [if_neg (by decide +kernel)];exact ⟨rfl,rfl⟩)
theorem clientFirst_wfText:Rows.clientFirstRow.wfByText (OpenSpec.ofChange Rows.clientFirstSpec)=true:=by kernel_rfl
theorem clientFirst_main : Tryz.pinned.checked.prog.mainIs = some (true, ("a0798a144b673da0f98aec6a33c0d730257128302e469591ab2bf9fa1a6cd5db" : String).toList) := by kernel_rfl
theorem clientFirst_hn : Tryz.prog.funcNamed "legate/legatelaw12.ClientFirst" = some 7 := by kernel_rfl
theorem clientFirst_hall:(Tryz.f7.params.toList.all fun t=>Tryz.prog.wantsStandIn t==false)=true:=by kernel_rfl
theorem clientFirst_goes:false=Rows.clientFirstRow.goesBy Tryz.pinned.checked.prog:=by kernel_rfl
end Go.Proofs.YtldfjimgfnjdjaaGreatDoor
