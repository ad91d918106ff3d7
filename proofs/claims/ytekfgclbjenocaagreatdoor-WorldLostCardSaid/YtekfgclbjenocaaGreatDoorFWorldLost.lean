/- WorldLost: for every number the law answers true. No condition. -/
import Derived.Test.YtekfgclbjenocaaGreatDoorA18
import Derived.Test.YtekfgclbjenocaaGreatDoorA19
import Derived.Test.YtekfgclbjenocaaGreatDoorGWorldLost
set_option linter.all false
set_option maxRecDepth 100000
namespace Go.Proofs.YtekfgclbjenocaaGreatDoor
open Go Go.RowKit Ps
def worldLostArgs:Array Value:=#[.int .i64 0]
def worldLostData {H:Type}:List (DataW H):=[.lit (.int .i64 0)]
theorem worldLost_reads (os:Os) {H:Type} (enc:TypeId×Value→H):∃places,DataW.whole enc Tryz.prog ((laidWorld os).forCall (fun _ _=>0) ⟨#[],worldLostArgs,[]⟩).memory Tryz.f4.params.toList Rows.worldLostSpec.vars false worldLostArgs.toList 8=some (worldLostData,[],places) :=
 ⟨[],by kernel_rfl⟩
theorem worldLost_call (xs:List PV) (h:RdA Tryz.prog reachBytes 5 Tryz.f4.params.toList xs):CK Tryz.prog 4 xs [] fun r _=>r=.bool true:=by
 obtain ⟨p1,_,rfl,h1,rfl⟩:=h
 obtain ⟨a,rfl,_⟩:=Tryz.rdInt h1
 exact Tryz.c4W a
theorem worldLost_lifted (os:Os) (started:os.Started) (H:Type) (enc:TypeId×Value→H) (F:Stop.Interp) :
  ReturnsInHanded {} Tryz.checked os 4 .any ((OpenSpec.ofChange Rows.worldLostSpec).preRow enc Tryz.prog Tryz.f4 Rows.worldLostRow.domain false Rows.worldLostRow.laid) (((OpenSpec.ofChange Rows.worldLostSpec).at F).post enc Tryz.prog Tryz.f4 false true false false):=by
 obtain ⟨places,hx⟩:=worldLost_reads os enc
 refine returnsInHanded_of_row (C:=Tryz.checked) (s:=OpenSpec.ofChange Rows.worldLostSpec) own started (by kernel_rfl) Tryz.func4
  (witness_row_at (enc:=enc) (C:=Tryz.checked) false (laidWorld os) worldLostArgs rfl (varsB os _) (heapB os _) (by kernel_rfl)
   (OpenSpec.preRow_of_cond 8 hx (by kernel_rfl) (fun k hk=>by cases hk) (by kernel_rfl) (laid_met os _))) ?_
 intro W base args ds gs before hval hW _ _ hwt _ _ _
 exact law_true (n:=5) laidOut Tryz.func4 (by kernel_rfl) (by kernel_rfl) rfl (fun ds h=>by
  match ds,h with
  | [_],_=>rfl) (by kernel_rfl) rfl Tryz.underlying4 worldLost_call hval hW rfl hwt
theorem worldLost_said:Rows.WorldLostSaid :=
 OpenClaim.holds_of_cond 4 Tryz.f4 rfl rfl rfl rfl rfl rfl rfl ⟨rfl,rfl,rfl,rfl,rfl⟩ rfl rfl rfl rfl rfl worldLost_named Tryz.func4 worldLost_joined
  worldLost_inst worldLost_wrap
  (fun os started H enc _ F=>by rw [OpenClaim.pre_eq_preRow];exact worldLost_lifted os started H enc F)
theorem worldLost_card:Rows.WorldLostCardSaid :=
 Claim7.holds_tied_plain_at .later [] _ _ _ _ worldLost_said (fun _ h=>by cases h) worldLost_wfText (fun _ h=>by cases h) worldLost_row_tie rfl ⟨rfl,rfl⟩ worldLost_main rfl (plainOf worldLost_hn Tryz.func4 worldLost_hall) worldLost_goes
end Go.Proofs.YtekfgclbjenocaaGreatDoor
