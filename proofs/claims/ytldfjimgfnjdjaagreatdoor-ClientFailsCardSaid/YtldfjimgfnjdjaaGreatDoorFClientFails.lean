/- ClientFails: for every two numbers the law answers true. No condition. -/
import Derived.Test.YtldfjimgfnjdjaaGreatDoorA4
import Derived.Test.YtldfjimgfnjdjaaGreatDoorGClientFails
set_option linter.all false
set_option maxRecDepth 100000
namespace Go.Proofs.YtldfjimgfnjdjaaGreatDoor
open Go Go.RowKit Ps
def clientFailsArgs:Array Value:=#[.int .i64 0,.int .i64 0]
def clientFailsData {H:Type}:List (DataW H):=[.lit (.int .i64 0),.lit (.int .i64 0)]
theorem clientFails_reads (os:Os) {H:Type} (enc:TypeId×Value→H):∃places,DataW.whole enc Tryz.prog ((laidWorld os).forCall (fun _ _=>0) ⟨#[],clientFailsArgs,[]⟩).memory Tryz.f8.params.toList Rows.clientFailsSpec.vars false clientFailsArgs.toList 8=some (clientFailsData,[],places) :=
 ⟨[],by kernel_rfl⟩
theorem clientFails_call (xs:List PV) (h:RdA Tryz.prog reachBytes 5 Tryz.f8.params.toList xs):CK Tryz.prog 8 xs [] fun r _=>r=.bool true:=by
 obtain ⟨p1,_,rfl,h1,p2,_,rfl,h2,rfl⟩:=h
 obtain ⟨a,rfl,_⟩:=Tryz.rdInt h1
 obtain ⟨b,rfl,_⟩:=Tryz.rdInt h2
 exact Tryz.c8 a b []
theorem clientFails_lifted (os:Os) (started:os.Started) (H:Type) (enc:TypeId×Value→H) (F:Stop.Interp) :
  ReturnsInHanded {} Tryz.checked os 8 .any ((OpenSpec.ofChange Rows.clientFailsSpec).preRow enc Tryz.prog Tryz.f8 Rows.clientFailsRow.domain false Rows.clientFailsRow.laid) (((OpenSpec.ofChange Rows.clientFailsSpec).at F).post enc Tryz.prog Tryz.f8 false true false false):=by
 obtain ⟨places,hx⟩:=clientFails_reads os enc
 refine returnsInHanded_of_row (C:=Tryz.checked) (s:=OpenSpec.ofChange Rows.clientFailsSpec) own started (by kernel_rfl) Tryz.func8
  (witness_row_at (enc:=enc) (C:=Tryz.checked) false (laidWorld os) clientFailsArgs rfl (varsB os _) (heapB os _) (by kernel_rfl)
   (OpenSpec.preRow_of_cond 8 hx (by kernel_rfl) (fun k hk=>by cases hk) (by kernel_rfl) (laid_met os _))) ?_
 intro W base args ds gs before hval hW _ _ hwt _ _ _
 exact law_true (n:=5) laidOut Tryz.func8 (by kernel_rfl) (by kernel_rfl) rfl (fun ds h=>by
  match ds,h with
  | [_,_],_=>rfl) (by kernel_rfl) rfl Tryz.underlying4 clientFails_call hval hW rfl hwt
theorem clientFails_said:Rows.ClientFailsSaid :=
 OpenClaim.holds_of_cond 8 Tryz.f8 rfl rfl rfl rfl rfl rfl rfl ⟨rfl,rfl,rfl,rfl,rfl⟩ rfl rfl rfl rfl rfl clientFails_named Tryz.func8 clientFails_joined
  clientFails_inst clientFails_wrap
  (fun os started H enc _ F=>by rw [OpenClaim.pre_eq_preRow];exact clientFails_lifted os started H enc F)
theorem clientFails_card:Rows.ClientFailsCardSaid :=
 Claim7.holds_tied_plain_at .later [] _ _ _ _ clientFails_said (fun _ h=>by cases h) clientFails_wfText (fun _ h=>by cases h) clientFails_row_tie rfl ⟨rfl,rfl⟩ clientFails_main rfl (plainOf clientFails_hn Tryz.func8 clientFails_hall) clientFails_goes
end Go.Proofs.YtldfjimgfnjdjaaGreatDoor
