/- ClientCaches: for every two numbers the law answers true. No condition. -/
import Derived.Test.YtldfjimgfnjdjaaGreatDoorA6
import Derived.Test.YtldfjimgfnjdjaaGreatDoorA5
import Derived.Test.YtldfjimgfnjdjaaGreatDoorGClientCaches
set_option linter.all false
set_option maxRecDepth 100000
namespace Go.Proofs.YtldfjimgfnjdjaaGreatDoor
open Go Go.RowKit Ps
def clientCachesArgs:Array Value:=#[.int .i64 0,.int .i64 0]
def clientCachesData {H:Type}:List (DataW H):=[.lit (.int .i64 0),.lit (.int .i64 0)]
theorem clientCaches_reads (os:Os) {H:Type} (enc:TypeId×Value→H):∃places,DataW.whole enc Tryz.prog ((laidWorld os).forCall (fun _ _=>0) ⟨#[],clientCachesArgs,[]⟩).memory Tryz.f6.params.toList Rows.clientCachesSpec.vars false clientCachesArgs.toList 8=some (clientCachesData,[],places) :=
 ⟨[],by kernel_rfl⟩
theorem clientCaches_call (xs:List PV) (h:RdA Tryz.prog reachBytes 5 Tryz.f6.params.toList xs):CK Tryz.prog 6 xs [] fun r _=>r=.bool true:=by
 obtain ⟨p1,_,rfl,h1,p2,_,rfl,h2,rfl⟩:=h
 obtain ⟨a,rfl,_⟩:=Tryz.rdInt h1
 obtain ⟨b,rfl,_⟩:=Tryz.rdInt h2
 exact Tryz.c6 a b []
theorem clientCaches_lifted (os:Os) (started:os.Started) (H:Type) (enc:TypeId×Value→H) (F:Stop.Interp) :
  ReturnsInHanded {} Tryz.checked os 6 .any ((OpenSpec.ofChange Rows.clientCachesSpec).preRow enc Tryz.prog Tryz.f6 Rows.clientCachesRow.domain false Rows.clientCachesRow.laid) (((OpenSpec.ofChange Rows.clientCachesSpec).at F).post enc Tryz.prog Tryz.f6 false true false false):=by
 obtain ⟨places,hx⟩:=clientCaches_reads os enc
 refine returnsInHanded_of_row (C:=Tryz.checked) (s:=OpenSpec.ofChange Rows.clientCachesSpec) own started (by kernel_rfl) Tryz.func6
  (witness_row_at (enc:=enc) (C:=Tryz.checked) false (laidWorld os) clientCachesArgs rfl (varsB os _) (heapB os _) (by kernel_rfl)
   (OpenSpec.preRow_of_cond 8 hx (by kernel_rfl) (fun k hk=>by cases hk) (by kernel_rfl) (laid_met os _))) ?_
 intro W base args ds gs before hval hW _ _ hwt _ _ _
 exact law_true (n:=5) laidOut Tryz.func6 (by kernel_rfl) (by kernel_rfl) rfl (fun ds h=>by
  match ds,h with
  | [_,_],_=>rfl) (by kernel_rfl) rfl Tryz.underlying4 clientCaches_call hval hW rfl hwt
theorem clientCaches_said:Rows.ClientCachesSaid :=
 OpenClaim.holds_of_cond 6 Tryz.f6 rfl rfl rfl rfl rfl rfl rfl ⟨rfl,rfl,rfl,rfl,rfl⟩ rfl rfl rfl rfl rfl clientCaches_named Tryz.func6 clientCaches_joined
  clientCaches_inst clientCaches_wrap
  (fun os started H enc _ F=>by rw [OpenClaim.pre_eq_preRow];exact clientCaches_lifted os started H enc F)
theorem clientCaches_card:Rows.ClientCachesCardSaid :=
 Claim7.holds_tied_plain_at .later [] _ _ _ _ clientCaches_said (fun _ h=>by cases h) clientCaches_wfText (fun _ h=>by cases h) clientCaches_row_tie rfl ⟨rfl,rfl⟩ clientCaches_main rfl (plainOf clientCaches_hn Tryz.func6 clientCaches_hall) clientCaches_goes
end Go.Proofs.YtldfjimgfnjdjaaGreatDoor
