/- KdcSkews: for every number and every truth the law answers true. No condition. -/
import Derived.Test.YtdnggpdgijobfaaGreatDoorA6
import Derived.ClosedOfChecked
set_option linter.all false
set_option maxRecDepth 100000
namespace Go.Proofs.YtdnggpdgijobfaaGreatDoor
open Go Go.RowKit Ps
theorem and_l {a b:Bool} (h:(a&&b)=true):a=true:=(Bool.and_eq_true_iff.1 h).1
theorem and_r {a b:Bool} (h:(a&&b)=true):b=true:=(Bool.and_eq_true_iff.1 h).2
theorem and2 {a b:Bool} (h:a=true) (k:b=true):(a&&b)=true:=Bool.and_eq_true_iff.2 ⟨h,k⟩
theorem cl1:Tryz.checked.prog.types=Tryz.checked.src.types:=by kernel_rfl
theorem cl2:(Tryz.checked.prog.globals.all (fun g=>decide (g.type<Tryz.checked.prog.types.size))&&Tryz.checked.prog.funcs.all (fun f=>f.params.all fun t=>decide (t<Tryz.checked.prog.types.size)))=true:=by kernel_rfl
theorem cl3:ClosedOfChecked.keysListB Tryz.checked.prog=true:=by kernel_rfl
theorem laidOut2:laidOutB Tryz.checked.prog=true∧mapsRowed Tryz.checked.prog=true∧Tryz.checked.prog.plainKeys=true:=ClosedOfChecked.closed_of_checked Tryz.checked cl1 cl2 cl3
theorem kdcSkews_keys:(Rows.kdcSkewsRow.plainKeys==Tryz.pinned.checked.prog.plainKeys)=true:=by
 rw [show Tryz.pinned.checked.prog.plainKeys=true from laidOut2.2.2];rfl
theorem kdcSkews_g0:((Rows.kdcSkewsRow.inPlace==Tryz.pinned.checked.prog.inPlace 8))=true:=by kernel_rfl
theorem kdcSkews_g1:((Rows.kdcSkewsRow.unfollowed==Tryz.pinned.checked.prog.unfollowed 8))=true:=by kernel_rfl
theorem kdcSkews_g2:((Rows.kdcSkewsRow.recurses==Tryz.pinned.checked.prog.recurses 8))=true:=by kernel_rfl
theorem kdcSkews_g3:((Rows.kdcSkewsRow.named==Tryz.pinned.checked.prog.varsNamed 8))=true:=by kernel_rfl
theorem kdcSkews_g4:(Rows.kdcSkewsRow.wf (OpenSpec.ofChange (OpenSpec.ofChange Rows.kdcSkewsSpec).bare)&&Tryz.f8.params.all (Tryz.pinned.checked.prog.readableRec ·)&&namedTie Tryz.pinned.checked.prog Rows.kdcSkewsRow.named (OpenSpec.ofChange Rows.kdcSkewsSpec).bare.vars&&(Rows.kdcSkewsRow.stops==[])&&(Tryz.pinned.checked.prog.stops==[])&&(Rows.kdcSkewsRow.knobs==[])&&(Tryz.pinned.checked.prog.stopKnobs==[]))=true:=by kernel_rfl
theorem kdcSkews_g5:((Rows.kdcSkewsRow.maps==(Tryz.f8.params.toList++(OpenSpec.ofChange Rows.kdcSkewsSpec).bare.plain.varTypes Tryz.pinned.checked.prog).any (Tryz.pinned.checked.prog.mapsRec ·))&&(Rows.kdcSkewsRow.ifaces==(Tryz.f8.params.toList++(OpenSpec.ofChange Rows.kdcSkewsSpec).bare.plain.varTypes Tryz.pinned.checked.prog).any (Tryz.pinned.checked.prog.ifacesRec ·))&&(Rows.kdcSkewsRow.mapsOut==Tryz.pinned.checked.prog.mapsAmong Tryz.f8.resultTypes.toList)&&(Rows.kdcSkewsRow.loops==(Tryz.f8.params.toList++(OpenSpec.ofChange Rows.kdcSkewsSpec).bare.plain.varTypes Tryz.pinned.checked.prog).any (Tryz.pinned.checked.prog.loopsFrom ·))&&(Rows.kdcSkewsRow.wideKeys==(Tryz.f8.params.toList++(OpenSpec.ofChange Rows.kdcSkewsSpec).bare.plain.varTypes Tryz.pinned.checked.prog++Tryz.f8.resultTypes.toList).any (Tryz.pinned.checked.prog.wideKeysFrom ·))&&(OpenSpec.ofChange Rows.kdcSkewsSpec).bare.vars.all (Tryz.pinned.checked.prog.varReadable ·)&&Tryz.f8.resultTypes.all (fun t=>Tryz.pinned.checked.prog.readableRec t&&decide (t<Tryz.pinned.checked.prog.types.size))&&(Rows.kdcSkewsRow.ifacesOut==Tryz.f8.resultTypes.toList.any (Tryz.pinned.checked.prog.ifacesRec ·))&&(Rows.kdcSkewsRow.loopsOut==Tryz.f8.resultTypes.toList.any (Tryz.pinned.checked.prog.loopsFrom ·)))=true:=by kernel_rfl
theorem kdcSkews_g6:(Rows.kdcSkewsRow.shortTexts.isNone&&Tryz.pinned.checked.prog.stopsHeard&&Tryz.pinned.checked.prog.mayEnter&&(Rows.kdcSkewsRow.lifted==Tryz.pinned.checked.prog.liftsFinal)&&(Tryz.pinned.checked.prog.make==some Rows.kdcSkewsRow.make)&&(Rows.kdcSkewsRow.kinds==(if Rows.kdcSkewsRow.domain.isEmpty then [] else Tryz.f8.params.toList.map fun t=>match Tryz.pinned.checked.prog.underlying t with | some (.int k)=>some k | _=>none))&&(Rows.kdcSkewsRow.pinned==Rows.kdcSkewsRow.pinnedBy)&&(Rows.kdcSkewsRow.veiled==(Tryz.f8.params.toList++(OpenSpec.ofChange Rows.kdcSkewsSpec).bare.plain.varTypes Tryz.pinned.checked.prog++Tryz.f8.resultTypes.toList).any (Tryz.pinned.checked.prog.veiledRec ·))&&Rows.kdcSkewsRow.veiledFits Tryz.pinned.checked.prog Tryz.f8.params.toList (Tryz.f8.params.toList++(OpenSpec.ofChange Rows.kdcSkewsSpec).bare.plain.varTypes Tryz.pinned.checked.prog++Tryz.f8.resultTypes.toList))=true:=by kernel_rfl
theorem kdcSkews_joined:joinedFacts Tryz.pinned.checked.prog 8 Tryz.f8 (OpenSpec.ofChange Rows.kdcSkewsSpec).bare Rows.kdcSkewsRow=true:=(and2 (and2 (and2 (and2 (and2 (and2 (and2 (and2 (and2 (and2 (and2 (and2 (and2 (and2 (and2 (and2 (and2 (and2 (and2 (and2 (and2 (and2 (and2 (and2 (and2 (and2 (and2 (and2 (and2 (and2 (and2 (and_l (and_l (and_l (and_l (and_l (and_l kdcSkews_g4)))))) laidOut2.1) laidOut2.2.1) (and_r (and_l (and_l (and_l (and_l (and_l kdcSkews_g4))))))) (and_r (and_l (and_l (and_l (and_l kdcSkews_g4)))))) (and_r (and_l (and_l (and_l kdcSkews_g4))))) (and_r (and_l (and_l kdcSkews_g4)))) (and_r (and_l kdcSkews_g4))) (and_r kdcSkews_g4)) kdcSkews_g0) kdcSkews_g1) kdcSkews_g2) kdcSkews_g3) (and_l (and_l (and_l (and_l (and_l (and_l (and_l (and_l kdcSkews_g5))))))))) (and_r (and_l (and_l (and_l (and_l (and_l (and_l (and_l kdcSkews_g5))))))))) (and_r (and_l (and_l (and_l (and_l (and_l (and_l kdcSkews_g5)))))))) (and_r (and_l (and_l (and_l (and_l (and_l kdcSkews_g5))))))) (and_r (and_l (and_l (and_l (and_l kdcSkews_g5)))))) (and_r (and_l (and_l (and_l kdcSkews_g5))))) (and_r (and_l (and_l kdcSkews_g5)))) (and_r (and_l kdcSkews_g5))) (and_r kdcSkews_g5)) (kdcSkews_keys)) (and_l (and_l (and_l (and_l (and_l (and_l (and_l (and_l kdcSkews_g6))))))))) (and_r (and_l (and_l (and_l (and_l (and_l (and_l (and_l kdcSkews_g6))))))))) (and_r (and_l (and_l (and_l (and_l (and_l (and_l kdcSkews_g6)))))))) (and_r (and_l (and_l (and_l (and_l (and_l kdcSkews_g6))))))) (and_r (and_l (and_l (and_l (and_l kdcSkews_g6)))))) (and_r (and_l (and_l (and_l kdcSkews_g6))))) (and_r (and_l (and_l kdcSkews_g6)))) (and_r (and_l kdcSkews_g6))) (and_r kdcSkews_g6))
def kdcSkewsArgs:Array Value:=#[.int .i64 0,.bool false]
def kdcSkewsData {H:Type}:List (DataW H):=[.lit (.int .i64 0),.lit (.bool false)]
theorem kdcSkews_reads (os:Os) {H:Type} (enc:TypeId×Value→H):∃places,DataW.whole enc Tryz.prog ((laidWorld os).forCall (fun _ _=>0) ⟨#[],kdcSkewsArgs,[]⟩).memory Tryz.f8.params.toList Rows.kdcSkewsSpec.vars false kdcSkewsArgs.toList 8=some (kdcSkewsData,[],places) :=
 ⟨[],by kernel_rfl⟩
theorem kdcSkews_call (xs:List PV) (h:RdA Tryz.prog reachBytes 5 Tryz.f8.params.toList xs):CallOk Tryz.prog 8 xs [] fun r _=>r=.bool true:=by
 obtain ⟨p1,_,rfl,h1,p2,_,rfl,h2,rfl⟩:=h
 obtain ⟨a,rfl,_⟩:=Tryz.rdInt h1
 obtain ⟨b,rfl⟩:∃b,p2=[.bool b]:=h2
 exact Tryz.c8s a b []
theorem kdcSkews_lifted (os:Os) (started:os.Started) (H:Type) (enc:TypeId×Value→H) (F:Stop.Interp) :
  ReturnsInHanded {} Tryz.checked os 8 .any ((OpenSpec.ofChange Rows.kdcSkewsSpec).preRow enc Tryz.prog Tryz.f8 Rows.kdcSkewsRow.domain false Rows.kdcSkewsRow.laid) (((OpenSpec.ofChange Rows.kdcSkewsSpec).at F).post enc Tryz.prog Tryz.f8 false true false false):=by
 obtain ⟨places,hx⟩:=kdcSkews_reads os enc
 refine returnsInHanded_of_row (C:=Tryz.checked) (s:=OpenSpec.ofChange Rows.kdcSkewsSpec) own started (by kernel_rfl) Tryz.func8
  (witness_row_at (enc:=enc) (C:=Tryz.checked) false (laidWorld os) kdcSkewsArgs rfl (varsB os _) (heapB os _) (by kernel_rfl)
   (OpenSpec.preRow_of_cond 8 hx (by kernel_rfl) (fun k hk=>by cases hk) (by kernel_rfl) (laid_met os _))) ?_
 intro W base args ds gs before hval hW _ _ hwt _ _ _
 exact law_true (n:=5) laidOut Tryz.func8 (by kernel_rfl) (by kernel_rfl) rfl (fun ds h=>by
  match ds,h with
  | [_,_],_=>rfl) (by kernel_rfl) rfl Tryz.underlying4 kdcSkews_call hval hW rfl hwt
theorem kdcSkews_named:Tryz.pinned.checked.prog.funcNamed Rows.kdcSkewsRow.func=some 8:=by kernel_rfl
theorem kdcSkews_inst:Tryz.f8.isInstance Tryz.pinned.checked.prog Rows.kdcSkewsRow.origin Rows.kdcSkewsRow.targs:=of_decide_eq_true (by kernel_rfl)
theorem kdcSkews_wrap:Tryz.f8.isWrapper Tryz.pinned.checked.prog Rows.kdcSkewsRow.wrapper Rows.kdcSkewsRow.mainSum:=by unfold Func.isWrapper;first | (rw [if_pos (by decide +kernel)];kernel_rfl) | (rw [if_neg (by decide +kernel)];exact ⟨rfl,rfl⟩)
theorem kdcSkews_said:Rows.KdcSkewsSaid :=
 OpenClaim.holds_of_cond 8 Tryz.f8 rfl rfl rfl rfl rfl rfl rfl ⟨rfl,rfl,rfl,rfl,rfl⟩ rfl rfl rfl rfl rfl kdcSkews_named Tryz.func8 kdcSkews_joined
  kdcSkews_inst kdcSkews_wrap
  (fun os started H enc _ F=>by rw [OpenClaim.pre_eq_preRow];exact kdcSkews_lifted os started H enc F)
theorem kdcSkews_wfText:Rows.kdcSkewsRow.wfByText (OpenSpec.ofChange Rows.kdcSkewsSpec)=true:=by kernel_rfl
theorem kdcSkews_main : Tryz.pinned.checked.prog.mainIs = some (true, ("485df97083f2a848746c463c7befe76b033b0d0ba34540856cde784224e0a8d8" : String).toList) := by kernel_rfl
theorem kdcSkews_hn : Tryz.prog.funcNamed "legate/legatelaw10.KdcSkews" = some 8 := by kernel_rfl
theorem kdcSkews_hall:(Tryz.f8.params.toList.all fun t=>Tryz.prog.wantsStandIn t==false)=true:=by kernel_rfl
theorem kdcSkews_goes:false=Rows.kdcSkewsRow.goesBy Tryz.pinned.checked.prog:=by kernel_rfl
theorem kdcSkews_card:Rows.KdcSkewsCardSaid :=
 Claim7.holds_tied_plain_at .later [] _ _ _ _ kdcSkews_said (fun _ h=>by cases h) kdcSkews_wfText (fun _ h=>by cases h) kdcSkews_row_tie rfl ⟨rfl,rfl⟩ kdcSkews_main rfl (plainOf kdcSkews_hn Tryz.func8 kdcSkews_hall) kdcSkews_goes
end Go.Proofs.YtdnggpdgijobfaaGreatDoor
