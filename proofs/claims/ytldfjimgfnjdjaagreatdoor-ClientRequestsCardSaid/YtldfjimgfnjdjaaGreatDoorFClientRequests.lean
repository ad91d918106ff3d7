/- ClientRequests: for every number the law answers true. No condition. -/
import Derived.Test.YtldfjimgfnjdjaaGreatDoorA6
import Derived.Test.YtldfjimgfnjdjaaGreatDoorA5
import Derived.Test.YtldfjimgfnjdjaaGreatDoorGClientRequests
set_option linter.all false
set_option maxRecDepth 100000
namespace Go.Proofs.YtldfjimgfnjdjaaGreatDoor
open Go Go.RowKit Ps
def clientRequestsArgs:Array Value:=#[.int .i64 0]
def clientRequestsData {H:Type}:List (DataW H):=[.lit (.int .i64 0)]
theorem clientRequests_reads (os:Os) {H:Type} (enc:TypeId×Value→H):∃places,DataW.whole enc Tryz.prog ((laidWorld os).forCall (fun _ _=>0) ⟨#[],clientRequestsArgs,[]⟩).memory Tryz.f9.params.toList Rows.clientRequestsSpec.vars false clientRequestsArgs.toList 8=some (clientRequestsData,[],places) :=
 ⟨[],by kernel_rfl⟩
theorem clientRequests_call (xs:List PV) (h:RdA Tryz.prog reachBytes 5 Tryz.f9.params.toList xs):CK Tryz.prog 9 xs [] fun r _=>r=.bool true:=by
 obtain ⟨p1,_,rfl,h1,rfl⟩:=h
 obtain ⟨a,rfl,_⟩:=Tryz.rdInt h1
 exact Tryz.c9 a []
theorem clientRequests_lifted (os:Os) (started:os.Started) (H:Type) (enc:TypeId×Value→H) (F:Stop.Interp) :
  ReturnsInHanded {} Tryz.checked os 9 .any ((OpenSpec.ofChange Rows.clientRequestsSpec).preRow enc Tryz.prog Tryz.f9 Rows.clientRequestsRow.domain false Rows.clientRequestsRow.laid) (((OpenSpec.ofChange Rows.clientRequestsSpec).at F).post enc Tryz.prog Tryz.f9 false true false false):=by
 obtain ⟨places,hx⟩:=clientRequests_reads os enc
 refine returnsInHanded_of_row (C:=Tryz.checked) (s:=OpenSpec.ofChange Rows.clientRequestsSpec) own started (by kernel_rfl) Tryz.func9
  (witness_row_at (enc:=enc) (C:=Tryz.checked) false (laidWorld os) clientRequestsArgs rfl (varsB os _) (heapB os _) (by kernel_rfl)
   (OpenSpec.preRow_of_cond 8 hx (by kernel_rfl) (fun k hk=>by cases hk) (by kernel_rfl) (laid_met os _))) ?_
 intro W base args ds gs before hval hW _ _ hwt _ _ _
 exact law_true (n:=5) laidOut Tryz.func9 (by kernel_rfl) (by kernel_rfl) rfl (fun ds h=>by
  match ds,h with
  | [_],_=>rfl) (by kernel_rfl) rfl Tryz.underlying4 clientRequests_call hval hW rfl hwt
theorem clientRequests_said:Rows.ClientRequestsSaid :=
 OpenClaim.holds_of_cond 9 Tryz.f9 rfl rfl rfl rfl rfl rfl rfl ⟨rfl,rfl,rfl,rfl,rfl⟩ rfl rfl rfl rfl rfl clientRequests_named Tryz.func9 clientRequests_joined
  clientRequests_inst clientRequests_wrap
  (fun os started H enc _ F=>by rw [OpenClaim.pre_eq_preRow];exact clientRequests_lifted os started H enc F)
theorem clientRequests_card:Rows.ClientRequestsCardSaid :=
 Claim7.holds_tied_plain_at .later [] _ _ _ _ clientRequests_said (fun _ h=>by cases h) clientRequests_wfText (fun _ h=>by cases h) clientRequests_row_tie rfl ⟨rfl,rfl⟩ clientRequests_main rfl (plainOf clientRequests_hn Tryz.func9 clientRequests_hall) clientRequests_goes
end Go.Proofs.YtldfjimgfnjdjaaGreatDoor
