/- ClientNew: for every two principals and every number the law answers true. No condition. -/
import Derived.Test.YtldfjimgfnjdjaaGreatDoorA3
import Derived.Test.YtldfjimgfnjdjaaGreatDoorGClientNew
set_option linter.all false
set_option maxRecDepth 100000
namespace Go.Proofs.YtldfjimgfnjdjaaGreatDoor
open Go Go.RowKit Ps
def clientNewArgs:Array Value:=#[.agg #[.string ⟨#[]⟩,.string ⟨#[]⟩],.agg #[.string ⟨#[]⟩,.string ⟨#[]⟩],.int .i64 0]
def clientNewData {H:Type}:List (DataW H):=[.agg [.lit (.string []),.lit (.string [])],.agg [.lit (.string []),.lit (.string [])],.lit (.int .i64 0)]
theorem clientNew_reads (os:Os) {H:Type} (enc:TypeId×Value→H):∃places,DataW.whole enc Tryz.prog ((laidWorld os).forCall (fun _ _=>0) ⟨#[],clientNewArgs,[]⟩).memory Tryz.f12.params.toList Rows.clientNewSpec.vars false clientNewArgs.toList 8=some (clientNewData,[],places) :=
 ⟨[],by kernel_rfl⟩
theorem clientNew_call (xs:List PV) (h:RdA Tryz.prog reachBytes 5 Tryz.f12.params.toList xs):CK Tryz.prog 12 xs [] fun r _=>r=.bool true:=by
 obtain ⟨p1,_,rfl,h1,p2,_,rfl,h2,p3,_,rfl,h3,rfl⟩:=h
 obtain ⟨r,n,rfl,b1,b2⟩:=Tryz.rdPrinc h1
 obtain ⟨r2,n2,rfl,b3,b4⟩:=Tryz.rdPrinc h2
 obtain ⟨a,rfl,_⟩:=Tryz.rdInt h3
 exact Tryz.c12 r n r2 n2 a b1 b2 b3 b4 []
theorem clientNew_lifted (os:Os) (started:os.Started) (H:Type) (enc:TypeId×Value→H) (F:Stop.Interp) :
  ReturnsInHanded {} Tryz.checked os 12 .any ((OpenSpec.ofChange Rows.clientNewSpec).preRow enc Tryz.prog Tryz.f12 Rows.clientNewRow.domain false Rows.clientNewRow.laid) (((OpenSpec.ofChange Rows.clientNewSpec).at F).post enc Tryz.prog Tryz.f12 false true false false):=by
 obtain ⟨places,hx⟩:=clientNew_reads os enc
 refine returnsInHanded_of_row (C:=Tryz.checked) (s:=OpenSpec.ofChange Rows.clientNewSpec) own started (by kernel_rfl) Tryz.func12
  (witness_row_at (enc:=enc) (C:=Tryz.checked) false (laidWorld os) clientNewArgs rfl (varsB os _) (heapB os _) (by kernel_rfl)
   (OpenSpec.preRow_of_cond 8 hx (by kernel_rfl) (fun k hk=>by cases hk) (by kernel_rfl) (laid_met os _))) ?_
 intro W base args ds gs before hval hW _ _ hwt _ _ _
 exact law_true (n:=5) laidOut Tryz.func12 (by kernel_rfl) (by kernel_rfl) rfl (fun ds h=>by
  match ds,h with
  | [_,_,_],_=>rfl) (by kernel_rfl) rfl Tryz.underlying4 clientNew_call hval hW rfl hwt
theorem clientNew_said:Rows.ClientNewSaid :=
 OpenClaim.holds_of_cond 12 Tryz.f12 rfl rfl rfl rfl rfl rfl rfl ⟨rfl,rfl,rfl,rfl,rfl⟩ rfl rfl rfl rfl rfl clientNew_named Tryz.func12 clientNew_joined
  clientNew_inst clientNew_wrap
  (fun os started H enc _ F=>by rw [OpenClaim.pre_eq_preRow];exact clientNew_lifted os started H enc F)
theorem clientNew_card:Rows.ClientNewCardSaid :=
 Claim7.holds_tied_plain_at .later [] _ _ _ _ clientNew_said (fun _ h=>by cases h) clientNew_wfText (fun _ h=>by cases h) clientNew_row_tie rfl ⟨rfl,rfl⟩ clientNew_main rfl (plainOf clientNew_hn Tryz.func12 clientNew_hall) clientNew_goes
end Go.Proofs.YtldfjimgfnjdjaaGreatDoor
