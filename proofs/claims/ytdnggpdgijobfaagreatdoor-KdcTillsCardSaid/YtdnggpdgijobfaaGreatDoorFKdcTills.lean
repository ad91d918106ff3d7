/- KdcTills: for every four numbers the law answers true. No condition. -/
import Derived.Test.YtdnggpdgijobfaaGreatDoorA6
import Derived.Test.YtdnggpdgijobfaaGreatDoorGKdcTills
set_option linter.all false
set_option maxRecDepth 100000
namespace Go.Proofs.YtdnggpdgijobfaaGreatDoor
open Go Go.RowKit Ps
def kdcTillsArgs:Array Value:=#[.int .i64 0,.int .i64 0,.int .i64 0,.int .i64 0]
def kdcTillsData {H:Type}:List (DataW H):=[.lit (.int .i64 0),.lit (.int .i64 0),.lit (.int .i64 0),.lit (.int .i64 0)]
theorem kdcTills_reads (os:Os) {H:Type} (enc:TypeId×Value→H):∃places,DataW.whole enc Tryz.prog ((laidWorld os).forCall (fun _ _=>0) ⟨#[],kdcTillsArgs,[]⟩).memory Tryz.f11.params.toList Rows.kdcTillsSpec.vars false kdcTillsArgs.toList 8=some (kdcTillsData,[],places) :=
 ⟨[],by kernel_rfl⟩
theorem kdcTills_call (xs:List PV) (h:RdA Tryz.prog reachBytes 5 Tryz.f11.params.toList xs):CK Tryz.prog 11 xs [] fun r _=>r=.bool true:=by
 obtain ⟨p1,_,rfl,h1,p2,_,rfl,h2,p3,_,rfl,h3,p4,_,rfl,h4,rfl⟩:=h
 obtain ⟨a,rfl,_⟩:=Tryz.rdInt h1
 obtain ⟨b,rfl,_⟩:=Tryz.rdInt h2
 obtain ⟨c,rfl,_⟩:=Tryz.rdInt h3
 obtain ⟨d,rfl,_⟩:=Tryz.rdInt h4
 exact Tryz.c11t a b c d []
theorem kdcTills_lifted (os:Os) (started:os.Started) (H:Type) (enc:TypeId×Value→H) (F:Stop.Interp) :
  ReturnsInHanded {} Tryz.checked os 11 .any ((OpenSpec.ofChange Rows.kdcTillsSpec).preRow enc Tryz.prog Tryz.f11 Rows.kdcTillsRow.domain false Rows.kdcTillsRow.laid) (((OpenSpec.ofChange Rows.kdcTillsSpec).at F).post enc Tryz.prog Tryz.f11 false true false false):=by
 obtain ⟨places,hx⟩:=kdcTills_reads os enc
 refine returnsInHanded_of_row (C:=Tryz.checked) (s:=OpenSpec.ofChange Rows.kdcTillsSpec) own started (by kernel_rfl) Tryz.func11
  (witness_row_at (enc:=enc) (C:=Tryz.checked) false (laidWorld os) kdcTillsArgs rfl (varsB os _) (heapB os _) (by kernel_rfl)
   (OpenSpec.preRow_of_cond 8 hx (by kernel_rfl) (fun k hk=>by cases hk) (by kernel_rfl) (laid_met os _))) ?_
 intro W base args ds gs before hval hW _ _ hwt _ _ _
 exact law_true (n:=5) laidOut Tryz.func11 (by kernel_rfl) (by kernel_rfl) rfl (fun ds h=>by
  match ds,h with
  | [_,_,_,_],_=>rfl) (by kernel_rfl) rfl Tryz.underlying4 kdcTills_call hval hW rfl hwt
theorem kdcTills_said:Rows.KdcTillsSaid :=
 OpenClaim.holds_of_cond 11 Tryz.f11 rfl rfl rfl rfl rfl rfl rfl ⟨rfl,rfl,rfl,rfl,rfl⟩ rfl rfl rfl rfl rfl kdcTills_named Tryz.func11 kdcTills_joined
  kdcTills_inst kdcTills_wrap
  (fun os started H enc _ F=>by rw [OpenClaim.pre_eq_preRow];exact kdcTills_lifted os started H enc F)
theorem kdcTills_card:Rows.KdcTillsCardSaid :=
 Claim7.holds_tied_plain_at .later [] _ _ _ _ kdcTills_said (fun _ h=>by cases h) kdcTills_wfText (fun _ h=>by cases h) kdcTills_row_tie rfl ⟨rfl,rfl⟩ kdcTills_main rfl (plainOf kdcTills_hn Tryz.func11 kdcTills_hall) kdcTills_goes
end Go.Proofs.YtdnggpdgijobfaaGreatDoor
