/- ClientAsks: for every number the law answers true. No condition. -/
import Derived.Test.YtldfjimgfnjdjaaGreatDoorA6
import Derived.Test.YtldfjimgfnjdjaaGreatDoorA5
import Derived.Test.YtldfjimgfnjdjaaGreatDoorGClientAsks
set_option linter.all false
set_option maxRecDepth 100000
namespace Go.Proofs.YtldfjimgfnjdjaaGreatDoor
open Go Go.RowKit Ps
def clientAsksArgs:Array Value:=#[.int .i64 0]
def clientAsksData {H:Type}:List (DataW H):=[.lit (.int .i64 0)]
theorem clientAsks_reads (os:Os) {H:Type} (enc:TypeId×Value→H):∃places,DataW.whole enc Tryz.prog ((laidWorld os).forCall (fun _ _=>0) ⟨#[],clientAsksArgs,[]⟩).memory Tryz.f10.params.toList Rows.clientAsksSpec.vars false clientAsksArgs.toList 8=some (clientAsksData,[],places) :=
 ⟨[],by kernel_rfl⟩
theorem clientAsks_call (xs:List PV) (h:RdA Tryz.prog reachBytes 5 Tryz.f10.params.toList xs):CK Tryz.prog 10 xs [] fun r _=>r=.bool true:=by
 obtain ⟨p1,_,rfl,h1,rfl⟩:=h
 obtain ⟨a,rfl,_⟩:=Tryz.rdInt h1
 exact Tryz.c10 a []
theorem clientAsks_lifted (os:Os) (started:os.Started) (H:Type) (enc:TypeId×Value→H) (F:Stop.Interp) :
  ReturnsInHanded {} Tryz.checked os 10 .any ((OpenSpec.ofChange Rows.clientAsksSpec).preRow enc Tryz.prog Tryz.f10 Rows.clientAsksRow.domain false Rows.clientAsksRow.laid) (((OpenSpec.ofChange Rows.clientAsksSpec).at F).post enc Tryz.prog Tryz.f10 false true false false):=by
 obtain ⟨places,hx⟩:=clientAsks_reads os enc
 refine returnsInHanded_of_row (C:=Tryz.checked) (s:=OpenSpec.ofChange Rows.clientAsksSpec) own started (by kernel_rfl) Tryz.func10
  (witness_row_at (enc:=enc) (C:=Tryz.checked) false (laidWorld os) clientAsksArgs rfl (varsB os _) (heapB os _) (by kernel_rfl)
   (OpenSpec.preRow_of_cond 8 hx (by kernel_rfl) (fun k hk=>by cases hk) (by kernel_rfl) (laid_met os _))) ?_
 intro W base args ds gs before hval hW _ _ hwt _ _ _
 exact law_true (n:=5) laidOut Tryz.func10 (by kernel_rfl) (by kernel_rfl) rfl (fun ds h=>by
  match ds,h with
  | [_],_=>rfl) (by kernel_rfl) rfl Tryz.underlying4 clientAsks_call hval hW rfl hwt
theorem clientAsks_said:Rows.ClientAsksSaid :=
 OpenClaim.holds_of_cond 10 Tryz.f10 rfl rfl rfl rfl rfl rfl rfl ⟨rfl,rfl,rfl,rfl,rfl⟩ rfl rfl rfl rfl rfl clientAsks_named Tryz.func10 clientAsks_joined
  clientAsks_inst clientAsks_wrap
  (fun os started H enc _ F=>by rw [OpenClaim.pre_eq_preRow];exact clientAsks_lifted os started H enc F)
theorem clientAsks_card:Rows.ClientAsksCardSaid :=
 Claim7.holds_tied_plain_at .later [] _ _ _ _ clientAsks_said (fun _ h=>by cases h) clientAsks_wfText (fun _ h=>by cases h) clientAsks_row_tie rfl ⟨rfl,rfl⟩ clientAsks_main rfl (plainOf clientAsks_hn Tryz.func10 clientAsks_hall) clientAsks_goes
end Go.Proofs.YtldfjimgfnjdjaaGreatDoor
