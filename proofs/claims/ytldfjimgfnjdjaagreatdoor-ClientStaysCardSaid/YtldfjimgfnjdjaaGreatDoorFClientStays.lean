/- ClientStays: for every way, number and row of bytes the law answers true, and the row reads as it did. No condition. -/
import Derived.Test.YtldfjimgfnjdjaaGreatDoorA6
import Derived.Test.YtldfjimgfnjdjaaGreatDoorA5
import Derived.Test.YtldfjimgfnjdjaaGreatDoorGClientStays
set_option linter.all false
set_option maxRecDepth 100000
namespace Go.Proofs.YtldfjimgfnjdjaaGreatDoor
open Go Go.RowKit Ps
def clientStaysArgs:Array Value:=#[.int .i64 0,.int .i64 0,.slice none 0 0]
def clientStaysData {H:Type}:List (DataW H):=[.lit (.int .i64 0),.lit (.int .i64 0),.nil]
theorem clientStays_reads (os:Os) {H:Type} (enc:TypeId×Value→H):∃places,DataW.whole enc Tryz.prog ((laidWorld os).forCall (fun _ _=>0) ⟨#[],clientStaysArgs,[]⟩).memory Tryz.f5.params.toList Rows.clientStaysSpec.vars false clientStaysArgs.toList 8=some (clientStaysData,[],places) :=
 ⟨[],by kernel_rfl⟩
theorem clientStays_call (xs:List PV) (h:RdA Tryz.prog reachBytes 5 Tryz.f5.params.toList xs):CK Tryz.prog 5 xs [] fun r _=>r=.bool true:=by
 obtain ⟨p1,_,rfl,h1,p2,_,rfl,h2,p3,_,rfl,h3,rfl⟩:=h
 obtain ⟨a,rfl,_⟩:=Tryz.rdInt h1
 obtain ⟨m,rfl,_⟩:=Tryz.rdInt h2
 obtain ⟨b,rfl,_⟩:=Tryz.rdBytes1 h3
 exact Tryz.c5 a m b []
theorem clientStays_lifted (os:Os) (started:os.Started) (H:Type) (enc:TypeId×Value→H) (F:Stop.Interp) :
  ReturnsInHanded {} Tryz.checked os 5 .any ((OpenSpec.ofChange Rows.clientStaysSpec).preRow enc Tryz.prog Tryz.f5 Rows.clientStaysRow.domain false Rows.clientStaysRow.laid) (((OpenSpec.ofChange Rows.clientStaysSpec).at F).post enc Tryz.prog Tryz.f5 false true false false):=by
 obtain ⟨places,hx⟩:=clientStays_reads os enc
 refine returnsInHanded_of_row (C:=Tryz.checked) (s:=OpenSpec.ofChange Rows.clientStaysSpec) own started (by kernel_rfl) Tryz.func5
  (witness_row_at (enc:=enc) (C:=Tryz.checked) false (laidWorld os) clientStaysArgs rfl (varsB os _) (heapB os _) (by kernel_rfl)
   (OpenSpec.preRow_of_cond 8 hx (by kernel_rfl) (fun k hk=>by cases hk) (by kernel_rfl) (laid_met os _))) ?_
 intro W base args ds gs before hval hW _ _ hwt _ _ _
 exact law_true (n:=5) laidOut Tryz.func5 (by kernel_rfl) (by kernel_rfl) rfl (fun ds h=>by
  match ds,h with
  | [_,_,_],_=>rfl) (by kernel_rfl) rfl Tryz.underlying4 clientStays_call hval hW rfl hwt
theorem clientStays_said:Rows.ClientStaysSaid :=
 OpenClaim.holds_of_cond 5 Tryz.f5 rfl rfl rfl rfl rfl rfl rfl ⟨rfl,rfl,rfl,rfl,rfl⟩ rfl rfl rfl rfl rfl clientStays_named Tryz.func5 clientStays_joined
  clientStays_inst clientStays_wrap
  (fun os started H enc _ F=>by rw [OpenClaim.pre_eq_preRow];exact clientStays_lifted os started H enc F)
theorem clientStays_card:Rows.ClientStaysCardSaid :=
 Claim7.holds_tied_plain_at .later [] _ _ _ _ clientStays_said (fun _ h=>by cases h) clientStays_wfText (fun _ h=>by cases h) clientStays_row_tie rfl ⟨rfl,rfl⟩ clientStays_main rfl (plainOf clientStays_hn Tryz.func5 clientStays_hall) clientStays_goes
end Go.Proofs.YtldfjimgfnjdjaaGreatDoor
