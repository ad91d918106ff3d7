/- ClientBounds: for every row of texts the law answers true, and the row reads as it did. No condition. -/
import Derived.Test.YtldfjimgfnjdjaaGreatDoorA6
import Derived.Test.YtldfjimgfnjdjaaGreatDoorA5
import Derived.Test.YtldfjimgfnjdjaaGreatDoorGClientBounds
set_option linter.all false
set_option maxRecDepth 100000
namespace Go.Proofs.YtldfjimgfnjdjaaGreatDoor
open Go Go.RowKit Ps
def clientBoundsArgs:Array Value:=#[.slice none 0 0]
def clientBoundsData {H:Type}:List (DataW H):=[.nil]
theorem clientBounds_reads (os:Os) {H:Type} (enc:TypeId×Value→H):∃places,DataW.whole enc Tryz.prog ((laidWorld os).forCall (fun _ _=>0) ⟨#[],clientBoundsArgs,[]⟩).memory Tryz.f3.params.toList Rows.clientBoundsSpec.vars false clientBoundsArgs.toList 8=some (clientBoundsData,[],places) :=
 ⟨[],by kernel_rfl⟩
theorem clientBounds_call (xs:List PV) (h:RdA Tryz.prog reachBytes 3 Tryz.f3.params.toList xs):CK Tryz.prog 3 xs [] fun r _=>r=.bool true:=by
 obtain ⟨p1,_,rfl,h1,rfl⟩:=h
 obtain ⟨xs,rfl,hl,hx⟩:=Tryz.rdStrs h1
 exact Tryz.c3 xs hl []
theorem clientBounds_lifted (os:Os) (started:os.Started) (H:Type) (enc:TypeId×Value→H) (F:Stop.Interp) :
  ReturnsInHanded {} Tryz.checked os 3 .any ((OpenSpec.ofChange Rows.clientBoundsSpec).preRow enc Tryz.prog Tryz.f3 Rows.clientBoundsRow.domain false Rows.clientBoundsRow.laid) (((OpenSpec.ofChange Rows.clientBoundsSpec).at F).post enc Tryz.prog Tryz.f3 false true false false):=by
 obtain ⟨places,hx⟩:=clientBounds_reads os enc
 refine returnsInHanded_of_row (C:=Tryz.checked) (s:=OpenSpec.ofChange Rows.clientBoundsSpec) own started (by kernel_rfl) Tryz.func3
  (witness_row_at (enc:=enc) (C:=Tryz.checked) false (laidWorld os) clientBoundsArgs rfl (varsB os _) (heapB os _) (by kernel_rfl)
   (OpenSpec.preRow_of_cond 8 hx (by kernel_rfl) (fun k hk=>by cases hk) (by kernel_rfl) (laid_met os _))) ?_
 intro W base args ds gs before hval hW _ _ hwt _ _ _
 exact law_true (n:=3) laidOut Tryz.func3 (by kernel_rfl) (by kernel_rfl) rfl (fun ds h=>by
  match ds,h with
  | [_],_=>rfl) (by kernel_rfl) rfl Tryz.underlying4 clientBounds_call hval hW rfl hwt
theorem clientBounds_said:Rows.ClientBoundsSaid :=
 OpenClaim.holds_of_cond 3 Tryz.f3 rfl rfl rfl rfl rfl rfl rfl ⟨rfl,rfl,rfl,rfl,rfl⟩ rfl rfl rfl rfl rfl clientBounds_named Tryz.func3 clientBounds_joined
  clientBounds_inst clientBounds_wrap
  (fun os started H enc _ F=>by rw [OpenClaim.pre_eq_preRow];exact clientBounds_lifted os started H enc F)
theorem clientBounds_card:Rows.ClientBoundsCardSaid :=
 Claim7.holds_tied_plain_at .later [] _ _ _ _ clientBounds_said (fun _ h=>by cases h) clientBounds_wfText (fun _ h=>by cases h) clientBounds_row_tie rfl ⟨rfl,rfl⟩ clientBounds_main rfl (plainOf clientBounds_hn Tryz.func3 clientBounds_hall) clientBounds_goes
end Go.Proofs.YtldfjimgfnjdjaaGreatDoor
