/- ClientFirst: for every two texts the law answers true. No condition. -/
import Derived.Test.YtldfjimgfnjdjaaGreatDoorA6
import Derived.Test.YtldfjimgfnjdjaaGreatDoorA5
import Derived.Test.YtldfjimgfnjdjaaGreatDoorGClientFirst
set_option linter.all false
set_option maxRecDepth 100000
namespace Go.Proofs.YtldfjimgfnjdjaaGreatDoor
open Go Go.RowKit Ps
def clientFirstArgs:Array Value:=#[.string ⟨#[]⟩,.string ⟨#[]⟩]
def clientFirstData {H:Type}:List (DataW H):=[.lit (.string []),.lit (.string [])]
theorem clientFirst_reads (os:Os) {H:Type} (enc:TypeId×Value→H):∃places,DataW.whole enc Tryz.prog ((laidWorld os).forCall (fun _ _=>0) ⟨#[],clientFirstArgs,[]⟩).memory Tryz.f7.params.toList Rows.clientFirstSpec.vars false clientFirstArgs.toList 8=some (clientFirstData,[],places) :=
 ⟨[],by kernel_rfl⟩
theorem clientFirst_call (xs:List PV) (h:RdA Tryz.prog reachBytes 5 Tryz.f7.params.toList xs):CK Tryz.prog 7 xs [] fun r _=>r=.bool true:=by
 obtain ⟨p1,_,rfl,h1,p2,_,rfl,h2,rfl⟩:=h
 obtain ⟨s,rfl,b1⟩:=Tryz.rdStr h1
 obtain ⟨t,rfl,b2⟩:=Tryz.rdStr h2
 exact Tryz.c7 s t b1 b2 []
theorem clientFirst_lifted (os:Os) (started:os.Started) (H:Type) (enc:TypeId×Value→H) (F:Stop.Interp) :
  ReturnsInHanded {} Tryz.checked os 7 .any ((OpenSpec.ofChange Rows.clientFirstSpec).preRow enc Tryz.prog Tryz.f7 Rows.clientFirstRow.domain false Rows.clientFirstRow.laid) (((OpenSpec.ofChange Rows.clientFirstSpec).at F).post enc Tryz.prog Tryz.f7 false true false false):=by
 obtain ⟨places,hx⟩:=clientFirst_reads os enc
 refine returnsInHanded_of_row (C:=Tryz.checked) (s:=OpenSpec.ofChange Rows.clientFirstSpec) own started (by kernel_rfl) Tryz.func7
  (witness_row_at (enc:=enc) (C:=Tryz.checked) false (laidWorld os) clientFirstArgs rfl (varsB os _) (heapB os _) (by kernel_rfl)
   (OpenSpec.preRow_of_cond 8 hx (by kernel_rfl) (fun k hk=>by cases hk) (by kernel_rfl) (laid_met os _))) ?_
 intro W base args ds gs before hval hW _ _ hwt _ _ _
 exact law_true (n:=5) laidOut Tryz.func7 (by kernel_rfl) (by kernel_rfl) rfl (fun ds h=>by
  match ds,h with
  | [_,_],_=>rfl) (by kernel_rfl) rfl Tryz.underlying4 clientFirst_call hval hW rfl hwt
theorem clientFirst_said:Rows.ClientFirstSaid :=
 OpenClaim.holds_of_cond 7 Tryz.f7 rfl rfl rfl rfl rfl rfl rfl ⟨rfl,rfl,rfl,rfl,rfl⟩ rfl rfl rfl rfl rfl clientFirst_named Tryz.func7 clientFirst_joined
  clientFirst_inst clientFirst_wrap
  (fun os started H enc _ F=>by rw [OpenClaim.pre_eq_preRow];exact clientFirst_lifted os started H enc F)
theorem clientFirst_card:Rows.ClientFirstCardSaid :=
 Claim7.holds_tied_plain_at .later [] _ _ _ _ clientFirst_said (fun _ h=>by cases h) clientFirst_wfText (fun _ h=>by cases h) clientFirst_row_tie rfl ⟨rfl,rfl⟩ clientFirst_main rfl (plainOf clientFirst_hn Tryz.func7 clientFirst_hall) clientFirst_goes
end Go.Proofs.YtldfjimgfnjdjaaGreatDoor
