import Derived.Test.YtdnggpdgijobfaaGreatDoorCards
import Derived.Test.YtdnggpdgijobfaaGreatDoorTie
import Derived.WalkKit
import Derived.ProofKit
import Derived.OpenShut
import Derived.Deep.DeepHandedRow
import Derived.Lib.LaidTab
import Derived.ClosedOfChecked
set_option linter.all false
set_option maxRecDepth 100000
namespace Go.Proofs.YtdnggpdgijobfaaGreatDoor
open Go Go.RowKit
theorem and_l {a b:Bool} (h:(a&&b)=true):a=true:=(Bool.and_eq_true_iff.1 h).1
theorem and_r {a b:Bool} (h:(a&&b)=true):b=true:=(Bool.and_eq_true_iff.1 h).2
theorem and2 {a b:Bool} (h:a=true) (k:b=true):(a&&b)=true:=Bool.and_eq_true_iff.2 ⟨h,k⟩
theorem cl1:Tryz.checked.prog.types=Tryz.checked.src.types:=by kernel_rfl
theorem cl2:(Tryz.checked.prog.globals.all (fun g=>decide (g.type<Tryz.checked.prog.types.size))&&Tryz.checked.prog.funcs.all (fun f=>f.params.all fun t=>decide (t<Tryz.checked.prog.types.size)))=true:=by kernel_rfl
theorem cl3:ClosedOfChecked.keysListB Tryz.checked.prog=true:=by kernel_rfl
theorem laidOut2:laidOutB Tryz.checked.prog=true∧mapsRowed Tryz.checked.prog=true∧Tryz.checked.prog.plainKeys=true:=ClosedOfChecked.closed_of_checked Tryz.checked cl1 cl2 cl3
theorem kdcTills_keys:(Rows.kdcTillsRow.plainKeys==Tryz.pinned.checked.prog.plainKeys)=true:=by
 rw [show Tryz.pinned.checked.prog.plainKeys=true from laidOut2.2.2];rfl
theorem kdcTills_g0:((Rows.kdcTillsRow.inPlace==Tryz.pinned.checked.prog.inPlace 11))=true:=by kernel_rfl
theorem kdcTills_g1:((Rows.kdcTillsRow.unfollowed==Tryz.pinned.checked.prog.unfollowed 11))=true:=by kernel_rfl
theorem kdcTills_g2:((Rows.kdcTillsRow.recurses==Tryz.pinned.checked.prog.recurses 11))=true:=by kernel_rfl
theorem kdcTills_g3:((Rows.kdcTillsRow.named==Tryz.pinned.checked.prog.varsNamed 11))=true:=by kernel_rfl
theorem kdcTills_g4:(Rows.kdcTillsRow.wf (OpenSpec.ofChange (OpenSpec.ofChange Rows.kdcTillsSpec).bare)&&Tryz.f11.params.all (Tryz.pinned.checked.prog.readableRec ·)&&namedTie Tryz.pinned.checked.prog Rows.kdcTillsRow.named (OpenSpec.ofChange Rows.kdcTillsSpec).bare.vars&&(Rows.kdcTillsRow.stops==[])&&(Tryz.pinned.checked.prog.stops==[])&&(Rows.kdcTillsRow.knobs==[])&&(Tryz.pinned.checked.prog.stopKnobs==[]))=true:=by kernel_rfl
theorem kdcTills_g5:((Rows.kdcTillsRow.maps==(Tryz.f11.params.toList++(OpenSpec.ofChange Rows.kdcTillsSpec).bare.plain.varTypes Tryz.pinned.checked.prog).any (Tryz.pinned.checked.prog.mapsRec ·))&&(Rows.kdcTillsRow.ifaces==(Tryz.f11.params.toList++(OpenSpec.ofChange Rows.kdcTillsSpec).bare.plain.varTypes Tryz.pinned.checked.prog).any (Tryz.pinned.checked.prog.ifacesRec ·))&&(Rows.kdcTillsRow.mapsOut==Tryz.pinned.checked.prog.mapsAmong Tryz.f11.resultTypes.toList)&&(Rows.kdcTillsRow.loops==(Tryz.f11.params.toList++(OpenSpec.ofChange Rows.kdcTillsSpec).bare.plain.varTypes Tryz.pinned.checked.prog).any (Tryz.pinned.checked.prog.loopsFrom ·))&&(Rows.kdcTillsRow.wideKeys==(Tryz.f11.params.toList++(OpenSpec.ofChange Rows.kdcTillsSpec).bare.plain.varTypes Tryz.pinned.checked.prog++Tryz.f11.resultTypes.toList).any (Tryz.pinned.checked.prog.wideKeysFrom ·))&&(OpenSpec.ofChange Rows.kdcTillsSpec).bare.vars.all (Tryz.pinned.checked.prog.varReadable ·)&&Tryz.f11.resultTypes.all (fun t=>Tryz.pinned.checked.prog.readableRec t&&decide (t<Tryz.pinned.checked.prog.types.size))&&(Rows.kdcTillsRow.ifacesOut==Tryz.f11.resultTypes.toList.any (Tryz.pinned.checked.prog.ifacesRec ·))&&(Rows.kdcTillsRow.loopsOut==Tryz.f11.resultTypes.toList.any (Tryz.pinned.checked.prog.loopsFrom ·)))=true:=by kernel_rfl
theorem kdcTills_g6:(Rows.kdcTillsRow.shortTexts.isNone&&Tryz.pinned.checked.prog.stopsHeard&&Tryz.pinned.checked.prog.mayEnter&&(Rows.kdcTillsRow.lifted==Tryz.pinned.checked.prog.liftsFinal)&&(Tryz.pinned.checked.prog.make==some Rows.kdcTillsRow.make)&&(Rows.kdcTillsRow.kinds==(if Rows.kdcTillsRow.domain.isEmpty then [] else Tryz.f11.params.toList.map fun t=>match Tryz.pinned.checked.prog.underlying t with | some (.int k)=>some k | _=>none))&&(Rows.kdcTillsRow.pinned==Rows.kdcTillsRow.pinnedBy)&&(Rows.kdcTillsRow.veiled==(Tryz.f11.params.toList++(OpenSpec.ofChange Rows.kdcTillsSpec).bare.plain.varTypes Tryz.pinned.checked.prog++Tryz.f11.resultTypes.toList).any (Tryz.pinned.checked.prog.veiledRec ·))&&Rows.kdcTillsRow.veiledFits Tryz.pinned.checked.prog Tryz.f11.params.toList (Tryz.f11.params.toList++(OpenSpec.ofChange Rows.kdcTillsSpec).bare.plain.varTypes Tryz.pinned.checked.prog++Tryz.f11.resultTypes.toList))=true:=by kernel_rfl
theorem kdcTills_joined:joinedFacts Tryz.pinned.checked.prog 11 Tryz.f11 (OpenSpec.ofChange Rows.kdcTillsSpec).bare Rows.kdcTillsRow=true:=(and2 (and2 (and2 (and2 (and2 (and2 (and2 (and2 (and2 (and2 (and2 (and2 (and2 (and2 (and2 (and2 (and2 (and2 (and2 (and2 (and2 (and2 (and2 (and2 (and2 (and2 (and2 (and2 (and2 (and2 (and2 (and_l (and_l (and_l (and_l (and_l (and_l kdcTills_g4)))))) laidOut2.1) laidOut2.2.1) (and_r (and_l (and_l (and_l (and_l (and_l kdcTills_g4))))))) (and_r (and_l (and_l (and_l (and_l kdcTills_g4)))))) (and_r (and_l (and_l (and_l kdcTills_g4))))) (and_r (and_l (and_l kdcTills_g4)))) (and_r (and_l kdcTills_g4))) (and_r kdcTills_g4)) kdcTills_g0) kdcTills_g1) kdcTills_g2) kdcTills_g3) (and_l (and_l (and_l (and_l (and_l (and_l (and_l (and_l kdcTills_g5))))))))) (and_r (and_l (and_l (and_l (and_l (and_l (and_l (and_l kdcTills_g5))))))))) (and_r (and_l (and_l (and_l (and_l (and_l (and_l kdcTills_g5)))))))) (and_r (and_l (and_l (and_l (and_l (and_l kdcTills_g5))))))) (and_r (and_l (and_l (and_l (and_l kdcTills_g5)))))) (and_r (and_l (and_l (and_l kdcTills_g5))))) (and_r (and_l (and_l kdcTills_g5)))) (and_r (and_l kdcTills_g5))) (and_r kdcTills_g5)) (kdcTills_keys)) (and_l (and_l (and_l (and_l (and_l (and_l (and_l (and_l kdcTills_g6))))))))) (and_r (and_l (and_l (and_l (and_l (and_l (and_l (and_l kdcTills_g6))))))))) (and_r (and_l (and_l (and_l (and_l (and_l (and_l kdcTills_g6)))))))) (and_r (and_l (and_l (and_l (and_l (and_l kdcTills_g6))))))) (and_r (and_l (and_l (and_l (and_l kdcTills_g6)))))) (and_r (and_l (and_l (and_l kdcTills_g6))))) (and_r (and_l (and_l kdcTills_g6)))) (and_r (and_l kdcTills_g6))) (and_r kdcTills_g6))
theorem kdcTills_named:Tryz.pinned.checked.prog.funcNamed Rows.kdcTillsRow.func=some 11:=by kernel_rfl
theorem kdcTills_inst:Tryz.f11.isInstance Tryz.pinned.checked.prog Rows.kdcTillsRow.origin Rows.kdcTillsRow.targs:=of_decide_eq_true (by kernel_rfl)
theorem kdcTills_wrap:Tryz.f11.isWrapper Tryz.pinned.checked.prog Rows.kdcTillsRow.wrapper Rows.kdcTillsRow.mainSum:=by unfold Func.isWrapper;first | (rw [if_pos (by decide +kernel)];kernel_rfl) | (rw [if_neg (by decide +kernel)];exact ⟨rfl,rfl⟩)
theorem kdcTills_wfText:Rows.kdcTillsRow.wfByText (OpenSpec.ofChange Rows.kdcTillsSpec)=true:=by kernel_rfl
theorem kdcTills_main : Tryz.pinned.checked.prog.mainIs = some (true, ("485df97083f2a848746c463c7befe76b033b0d0ba34540856cde784224e0a8d8" : String).toList) := by kernel_rfl
theorem kdcTills_hn : Tryz.prog.funcNamed "legate/legatelaw10.KdcTills" = some 11 := by kernel_rfl
theorem kdcTills_hall:(Tryz.f11.params.toList.all fun t=>Tryz.prog.wantsStandIn t==false)=true:=by kernel_rfl
theorem kdcTills_goes:false=Rows.kdcTillsRow.goesBy Tryz.pinned.checked.prog:=by kernel_rfl
end Go.Proofs.YtdnggpdgijobfaaGreatDoor
