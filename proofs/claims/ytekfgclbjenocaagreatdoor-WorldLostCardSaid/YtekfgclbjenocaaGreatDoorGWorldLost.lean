import Derived.Test.YtekfgclbjenocaaGreatDoorCards
import Derived.Test.YtekfgclbjenocaaGreatDoorTie
import Derived.WalkKit
import Derived.ProofKit
import Derived.OpenShut
import Derived.Deep.DeepHandedRow
import Derived.Lib.LaidTab
import Derived.ClosedOfChecked
set_option linter.all false
set_option maxRecDepth 100000
namespace Go.Proofs.YtekfgclbjenocaaGreatDoor
open Go Go.RowKit
theorem and_l {a b:Bool} (h:(a&&b)=true):a=true:=(Bool.and_eq_true_iff.1 h).1
theorem and_r {a b:Bool} (h:(a&&b)=true):b=true:=(Bool.and_eq_true_iff.1 h).2
theorem and2 {a b:Bool} (h:a=true) (k:b=true):(a&&b)=true:=Bool.and_eq_true_iff.2 ⟨h,k⟩
theorem cl1:Tryz.checked.prog.types=Tryz.checked.src.types:=by kernel_rfl
theorem cl2:(Tryz.checked.prog.globals.all (fun g=>decide (g.type<Tryz.checked.prog.types.size))&&Tryz.checked.prog.funcs.all (fun f=>f.params.all fun t=>decide (t<Tryz.checked.prog.types.size)))=true:=by kernel_rfl
theorem laidOut2:laidOutB Tryz.checked.prog=true∧mapsRowed Tryz.checked.prog=true∧True :=
 have H:=ClosedOfChecked.allSpec_of Tryz.checked.wellFormed cl1
 ⟨ClosedOfChecked.laidOutB_of H cl2,ClosedOfChecked.mapsRowed_of H,trivial⟩
theorem worldLost_keys:(Rows.worldLostRow.plainKeys==Tryz.pinned.checked.prog.plainKeys)=true:=by kernel_rfl
theorem worldLost_g0:((Rows.worldLostRow.inPlace==Tryz.pinned.checked.prog.inPlace 4))=true:=by kernel_rfl
theorem worldLost_g1:((Rows.worldLostRow.unfollowed==Tryz.pinned.checked.prog.unfollowed 4))=true:=by kernel_rfl
theorem worldLost_g2:((Rows.worldLostRow.recurses==Tryz.pinned.checked.prog.recurses 4))=true:=by kernel_rfl
theorem worldLost_g3:((Rows.worldLostRow.named==Tryz.pinned.checked.prog.varsNamed 4))=true:=by kernel_rfl
theorem worldLost_g4:(Rows.worldLostRow.wf (OpenSpec.ofChange (OpenSpec.ofChange Rows.worldLostSpec).bare)&&Tryz.f4.params.all (Tryz.pinned.checked.prog.readableRec ·)&&namedTie Tryz.pinned.checked.prog Rows.worldLostRow.named (OpenSpec.ofChange Rows.worldLostSpec).bare.vars&&(Rows.worldLostRow.stops==[])&&(Tryz.pinned.checked.prog.stops==[])&&(Rows.worldLostRow.knobs==[])&&(Tryz.pinned.checked.prog.stopKnobs==[]))=true:=by kernel_rfl
theorem worldLost_g5:((Rows.worldLostRow.maps==(Tryz.f4.params.toList++(OpenSpec.ofChange Rows.worldLostSpec).bare.plain.varTypes Tryz.pinned.checked.prog).any (Tryz.pinned.checked.prog.mapsRec ·))&&(Rows.worldLostRow.ifaces==(Tryz.f4.params.toList++(OpenSpec.ofChange Rows.worldLostSpec).bare.plain.varTypes Tryz.pinned.checked.prog).any (Tryz.pinned.checked.prog.ifacesRec ·))&&(Rows.worldLostRow.mapsOut==Tryz.pinned.checked.prog.mapsAmong Tryz.f4.resultTypes.toList)&&(Rows.worldLostRow.loops==(Tryz.f4.params.toList++(OpenSpec.ofChange Rows.worldLostSpec).bare.plain.varTypes Tryz.pinned.checked.prog).any (Tryz.pinned.checked.prog.loopsFrom ·))&&(Rows.worldLostRow.wideKeys==(Tryz.f4.params.toList++(OpenSpec.ofChange Rows.worldLostSpec).bare.plain.varTypes Tryz.pinned.checked.prog++Tryz.f4.resultTypes.toList).any (Tryz.pinned.checked.prog.wideKeysFrom ·))&&(OpenSpec.ofChange Rows.worldLostSpec).bare.vars.all (Tryz.pinned.checked.prog.varReadable ·)&&Tryz.f4.resultTypes.all (fun t=>Tryz.pinned.checked.prog.readableRec t&&decide (t<Tryz.pinned.checked.prog.types.size))&&(Rows.worldLostRow.ifacesOut==Tryz.f4.resultTypes.toList.any (Tryz.pinned.checked.prog.ifacesRec ·))&&(Rows.worldLostRow.loopsOut==Tryz.f4.resultTypes.toList.any (Tryz.pinned.checked.prog.loopsFrom ·)))=true:=by kernel_rfl
theorem worldLost_g6:(Rows.worldLostRow.shortTexts.isNone&&Tryz.pinned.checked.prog.stopsHeard&&Tryz.pinned.checked.prog.mayEnter&&(Rows.worldLostRow.lifted==Tryz.pinned.checked.prog.liftsFinal)&&(Tryz.pinned.checked.prog.make==some Rows.worldLostRow.make)&&(Rows.worldLostRow.kinds==(if Rows.worldLostRow.domain.isEmpty then [] else Tryz.f4.params.toList.map fun t=>match Tryz.pinned.checked.prog.underlying t with | some (.int k)=>some k | _=>none))&&(Rows.worldLostRow.pinned==Rows.worldLostRow.pinnedBy)&&(Rows.worldLostRow.veiled==(Tryz.f4.params.toList++(OpenSpec.ofChange Rows.worldLostSpec).bare.plain.varTypes Tryz.pinned.checked.prog++Tryz.f4.resultTypes.toList).any (Tryz.pinned.checked.prog.veiledRec ·))&&Rows.worldLostRow.veiledFits Tryz.pinned.checked.prog Tryz.f4.params.toList (Tryz.f4.params.toList++(OpenSpec.ofChange Rows.worldLostSpec).bare.plain.varTypes Tryz.pinned.checked.prog++Tryz.f4.resultTypes.toList))=true:=by kernel_rfl
theorem worldLost_joined:joinedFacts Tryz.pinned.checked.prog 4 Tryz.f4 (OpenSpec.ofChange Rows.worldLostSpec).bare Rows.worldLostRow=true:=(and2 (and2 (and2 (and2 (and2 (and2 (and2 (and2 (and2 (and2 (and2 (and2 (and2 (and2 (and2 (and2 (and2 (and2 (and2 (and2 (and2 (and2 (and2 (and2 (and2 (and2 (and2 (and2 (and2 (and2 (and2 (and_l (and_l (and_l (and_l (and_l (and_l worldLost_g4)))))) laidOut2.1) laidOut2.2.1) (and_r (and_l (and_l (and_l (and_l (and_l worldLost_g4))))))) (and_r (and_l (and_l (and_l (and_l worldLost_g4)))))) (and_r (and_l (and_l (and_l worldLost_g4))))) (and_r (and_l (and_l worldLost_g4)))) (and_r (and_l worldLost_g4))) (and_r worldLost_g4)) worldLost_g0) worldLost_g1) worldLost_g2) worldLost_g3) (and_l (and_l (and_l (and_l (and_l (and_l (and_l (and_l worldLost_g5))))))))) (and_r (and_l (and_l (and_l (and_l (and_l (and_l (and_l worldLost_g5))))))))) (and_r (and_l (and_l (and_l (and_l (and_l (and_l worldLost_g5)))))))) (and_r (and_l (and_l (and_l (and_l (and_l worldLost_g5))))))) (and_r (and_l (and_l (and_l (and_l worldLost_g5)))))) (and_r (and_l (and_l (and_l worldLost_g5))))) (and_r (and_l (and_l worldLost_g5)))) (and_r (and_l worldLost_g5))) (and_r worldLost_g5)) (worldLost_keys)) (and_l (and_l (and_l (and_l (and_l (and_l (and_l (and_l worldLost_g6))))))))) (and_r (and_l (and_l (and_l (and_l (and_l (and_l (and_l worldLost_g6))))))))) (and_r (and_l (and_l (and_l (and_l (and_l (and_l worldLost_g6)))))))) (and_r (and_l (and_l (and_l (and_l (and_l worldLost_g6))))))) (and_r (and_l (and_l (and_l (and_l worldLost_g6)))))) (and_r (and_l (and_l (and_l worldLost_g6))))) (and_r (and_l (and_l worldLost_g6)))) (and_r (and_l worldLost_g6))) (and_r worldLost_g6))
theorem worldLost_named:Tryz.pinned.checked.prog.funcNamed Rows.worldLostRow.func=some 4:=by kernel_rfl
theorem worldLost_inst:Tryz.f4.isInstance Tryz.pinned.checked.prog Rows.worldLostRow.origin Rows.worldLostRow.targs:=of_decide_eq_true (by kernel_rfl)
theorem worldLost_wrap:Tryz.f4.isWrapper Tryz.pinned.checked.prog Rows.worldLostRow.wrapper Rows.worldLostRow.mainSum:=by unfold Func.isWrapper;first | (rw [if_pos (by decide +kernel)];kernel_rfl) | (rw [if_neg (by decide +kernel)];exact ⟨rfl,rfl⟩)
theorem worldLost_wfText:Rows.worldLostRow.wfByText (OpenSpec.ofChange Rows.worldLostSpec)=true:=by kernel_rfl
theorem worldLost_main : Tryz.pinned.checked.prog.mainIs = some (true, ("675625997fc596a314cda4622505face431a3b6b12395e481d998f427e7dce83" : String).toList) := by kernel_rfl
theorem worldLost_hn : Tryz.prog.funcNamed "legate/legatelaw16.WorldLost" = some 4 := by kernel_rfl
theorem worldLost_hall:(Tryz.f4.params.toList.all fun t=>Tryz.prog.wantsStandIn t==false)=true:=by kernel_rfl
theorem worldLost_goes:false=Rows.worldLostRow.goesBy Tryz.pinned.checked.prog:=by kernel_rfl
end Go.Proofs.YtekfgclbjenocaaGreatDoor
