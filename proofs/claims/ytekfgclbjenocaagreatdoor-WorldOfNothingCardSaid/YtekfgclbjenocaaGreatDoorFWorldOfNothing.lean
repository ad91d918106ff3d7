/- WorldOfNothing: for every step the law answers true, and the step reads as it did. No condition. -/
import Derived.Test.YtekfgclbjenocaaGreatDoorA8
import Derived.Test.YtekfgclbjenocaaGreatDoorA9
import Derived.Test.YtekfgclbjenocaaGreatDoorGWorldOfNothing
set_option linter.all false
set_option maxRecDepth 100000
namespace Go.Proofs.YtekfgclbjenocaaGreatDoor
open Go Go.RowKit Ps
def worldOfNothingArgs:Array Value:=#[.agg #[.int .i64 0,.int .i64 0,.int .i64 0,.int .i64 0,.slice none 0 0]]
def worldOfNothingData {H:Type}:List (DataW H):=[.agg [.lit (.int .i64 0),.lit (.int .i64 0),.lit (.int .i64 0),.lit (.int .i64 0),.nil]]
theorem worldOfNothing_reads (os:Os) {H:Type} (enc:TypeId×Value→H):∃places,DataW.whole enc Tryz.prog ((laidWorld os).forCall (fun _ _=>0) ⟨#[],worldOfNothingArgs,[]⟩).memory Tryz.f5.params.toList Rows.worldOfNothingSpec.vars false worldOfNothingArgs.toList 8=some (worldOfNothingData,[],places) :=
 ⟨[],by kernel_rfl⟩
theorem worldOfNothing_call (xs:List PV) (h:RdA Tryz.prog reachBytes 5 Tryz.f5.params.toList xs):CK Tryz.prog 5 xs [] fun r _=>r=.bool true:=by
 obtain ⟨p1,_,rfl,h1,rfl⟩:=h
 obtain ⟨a,b,c,d,s,rfl⟩:=Tryz.rdStep h1
 exact Tryz.c5W a b c d s
theorem worldOfNothing_lifted (os:Os) (started:os.Started) (H:Type) (enc:TypeId×Value→H) (F:Stop.Interp) :
  ReturnsInHanded {} Tryz.checked os 5 .any ((OpenSpec.ofChange Rows.worldOfNothingSpec).preRow enc Tryz.prog Tryz.f5 Rows.worldOfNothingRow.domain false Rows.worldOfNothingRow.laid) (((OpenSpec.ofChange Rows.worldOfNothingSpec).at F).post enc Tryz.prog Tryz.f5 false true false false):=by
 obtain ⟨places,hx⟩:=worldOfNothing_reads os enc
 refine returnsInHanded_of_row (C:=Tryz.checked) (s:=OpenSpec.ofChange Rows.worldOfNothingSpec) own started (by kernel_rfl) Tryz.func5
  (witness_row_at (enc:=enc) (C:=Tryz.checked) false (laidWorld os) worldOfNothingArgs rfl (varsB os _) (heapB os _) (by kernel_rfl)
   (OpenSpec.preRow_of_cond 8 hx (by kernel_rfl) (fun k hk=>by cases hk) (by kernel_rfl) (laid_met os _))) ?_
 intro W base args ds gs before hval hW _ _ hwt _ _ _
 exact law_true (n:=5) laidOut Tryz.func5 (by kernel_rfl) (by kernel_rfl) rfl (fun ds h=>by
  match ds,h with
  | [_],_=>rfl) (by kernel_rfl) rfl Tryz.underlying4 worldOfNothing_call hval hW rfl hwt
theorem worldOfNothing_said:Rows.WorldOfNothingSaid :=
 OpenClaim.holds_of_cond 5 Tryz.f5 rfl rfl rfl rfl rfl rfl rfl ⟨rfl,rfl,rfl,rfl,rfl⟩ rfl rfl rfl rfl rfl worldOfNothing_named Tryz.func5 worldOfNothing_joined
  worldOfNothing_inst worldOfNothing_wrap
  (fun os started H enc _ F=>by rw [OpenClaim.pre_eq_preRow];exact worldOfNothing_lifted os started H enc F)
theorem worldOfNothing_card:Rows.WorldOfNothingCardSaid :=
 Claim7.holds_tied_plain_at .later [] _ _ _ _ worldOfNothing_said (fun _ h=>by cases h) worldOfNothing_wfText (fun _ h=>by cases h) worldOfNothing_row_tie rfl ⟨rfl,rfl⟩ worldOfNothing_main rfl (plainOf worldOfNothing_hn Tryz.func5 worldOfNothing_hall) worldOfNothing_goes
end Go.Proofs.YtekfgclbjenocaaGreatDoor
