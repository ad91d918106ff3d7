/- ClientLoops: for every two numbers the law answers true. No condition. -/
import Derived.Test.YtldfjimgfnjdjaaGreatDoorA6
import Derived.Test.YtldfjimgfnjdjaaGreatDoorA5
import Derived.Test.YtldfjimgfnjdjaaGreatDoorGClientLoops
set_option linter.all false
set_option maxRecDepth 100000
namespace Go.Proofs.YtldfjimgfnjdjaaGreatDoor
open Go Go.RowKit Ps
def clientLoopsArgs:Array Value:=#[.int .i64 0,.int .i64 0]
def clientLoopsData {H:Type}:List (DataW H):=[.lit (.int .i64 0),.lit (.int .i64 0)]
theorem clientLoops_reads (os:Os) {H:Type} (enc:TypeId×Value→H):∃places,DataW.whole enc Tryz.prog ((laidWorld os).forCall (fun _ _=>0) ⟨#[],clientLoopsArgs,[]⟩).memory Tryz.f4.params.toList Rows.clientLoopsSpec.vars false clientLoopsArgs.toList 8=some (clientLoopsData,[],places) :=
 ⟨[],by kernel_rfl⟩
theorem clientLoops_call (xs:List PV) (h:RdA Tryz.prog reachBytes 5 Tryz.f4.params.toList xs):CK Tryz.prog 4 xs [] fun r _=>r=.bool true:=by
 obtain ⟨p1,_,rfl,h1,p2,_,rfl,h2,rfl⟩:=h
 obtain ⟨a,rfl,_⟩:=Tryz.rdInt h1
 obtain ⟨b,rfl,_⟩:=Tryz.rdInt h2
 exact Tryz.c4 a b []
theorem clientLoops_lifted (os:Os) (started:os.Started) (H:Type) (enc:TypeId×Value→H) (F:Stop.Interp) :
  ReturnsInHanded {} Tryz.checked os 4 .any ((OpenSpec.ofChange Rows.clientLoopsSpec).preRow enc Tryz.prog Tryz.f4 Rows.clientLoopsRow.domain false Rows.clientLoopsRow.laid) (((OpenSpec.ofChange Rows.clientLoopsSpec).at F).post enc Tryz.prog Tryz.f4 false true false false):=by
 obtain ⟨places,hx⟩:=clientLoops_reads os enc
 refine returnsInHanded_of_row (C:=Tryz.checked) (s:=OpenSpec.ofChange Rows.clientLoopsSpec) own started (by kernel_rfl) Tryz.func4
  (witness_row_at (enc:=enc) (C:=Tryz.checked) false (laidWorld os) clientLoopsArgs rfl (varsB os _) (heapB os _) (by kernel_rfl)
   (OpenSpec.preRow_of_cond 8 hx (by kernel_rfl) (fun k hk=>by cases hk) (by kernel_rfl) (laid_met os _))) ?_
 intro W base args ds gs before hval hW _ _ hwt _ _ _
 exact law_true (n:=5) laidOut Tryz.func4 (by kernel_rfl) (by kernel_rfl) rfl (fun ds h=>by
  match ds,h with
  | [_,_],_=>rfl) (by kernel_rfl) rfl Tryz.underlying4 clientLoops_call hval hW rfl hwt
theorem clientLoops_said:Rows.ClientLoopsSaid :=
 OpenClaim.holds_of_cond 4 Tryz.f4 rfl rfl rfl rfl rfl rfl rfl ⟨rfl,rfl,rfl,rfl,rfl⟩ rfl rfl rfl rfl rfl clientLoops_named Tryz.func4 clientLoops_joined
  clientLoops_inst clientLoops_wrap
  (fun os started H enc _ F=>by rw [OpenClaim.pre_eq_preRow];exact clientLoops_lifted os started H enc F)
theorem clientLoops_card:Rows.ClientLoopsCardSaid :=
 Claim7.holds_tied_plain_at .later [] _ _ _ _ clientLoops_said (fun _ h=>by cases h) clientLoops_wfText (fun _ h=>by cases h) clientLoops_row_tie rfl ⟨rfl,rfl⟩ clientLoops_main rfl (plainOf clientLoops_hn Tryz.func4 clientLoops_hall) clientLoops_goes
end Go.Proofs.YtldfjimgfnjdjaaGreatDoor
