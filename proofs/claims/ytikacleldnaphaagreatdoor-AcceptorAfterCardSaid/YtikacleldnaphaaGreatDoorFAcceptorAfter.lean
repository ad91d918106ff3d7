/- AcceptorAfter: for every number the law answers true. No condition. -/
import Derived.Test.YtikacleldnaphaaGreatDoorA12
import Derived.Test.YtikacleldnaphaaGreatDoorGAcceptorAfter
set_option linter.all false
set_option maxRecDepth 100000
namespace Go.Proofs.YtikacleldnaphaaGreatDoor
open Go Go.RowKit Ps
def acceptorAfterArgs:Array Value:=#[.int .i64 0]
def acceptorAfterData {H:Type}:List (DataW H):=[.lit (.int .i64 0)]
theorem acceptorAfter_reads (os:Os) {H:Type} (enc:TypeId×Value→H):∃places,DataW.whole enc Tryz.prog ((laidWorld os).forCall (fun _ _=>0) ⟨#[],acceptorAfterArgs,[]⟩).memory Tryz.f8.params.toList Rows.acceptorAfterSpec.vars false acceptorAfterArgs.toList 8=some (acceptorAfterData,[],places) :=
 ⟨[],by kernel_rfl⟩
theorem acceptorAfter_call (xs:List PV) (h:RdA Tryz.prog reachBytes 5 Tryz.f8.params.toList xs):CK Tryz.prog 8 xs [] fun r _=>r=.bool true:=by
 obtain ⟨p1,_,rfl,h1,rfl⟩:=h
 obtain ⟨a,rfl,_⟩:=Tryz.rdInt h1
 exact Tryz.c8a a
theorem acceptorAfter_lifted (os:Os) (started:os.Started) (H:Type) (enc:TypeId×Value→H) (F:Stop.Interp) :
  ReturnsInHanded {} Tryz.checked os 8 .any ((OpenSpec.ofChange Rows.acceptorAfterSpec).preRow enc Tryz.prog Tryz.f8 Rows.acceptorAfterRow.domain false Rows.acceptorAfterRow.laid) (((OpenSpec.ofChange Rows.acceptorAfterSpec).at F).post enc Tryz.prog Tryz.f8 false true false false):=by
 obtain ⟨places,hx⟩:=acceptorAfter_reads os enc
 refine returnsInHanded_of_row (C:=Tryz.checked) (s:=OpenSpec.ofChange Rows.acceptorAfterSpec) own started (by kernel_rfl) Tryz.func8
  (witness_row_at (enc:=enc) (C:=Tryz.checked) false (laidWorld os) acceptorAfterArgs rfl (varsB os _) (heapB os _) (by kernel_rfl)
   (OpenSpec.preRow_of_cond 8 hx (by kernel_rfl) (fun k hk=>by cases hk) (by kernel_rfl) (laid_met os _))) ?_
 intro W base args ds gs before hval hW _ _ hwt _ _ _
 exact law_true (n:=5) laidOut Tryz.func8 (by kernel_rfl) (by kernel_rfl) rfl (fun ds h=>by
  match ds,h with
  | [_],_=>rfl) (by kernel_rfl) rfl Tryz.underlying4 acceptorAfter_call hval hW rfl hwt
theorem acceptorAfter_said:Rows.AcceptorAfterSaid :=
 OpenClaim.holds_of_cond 8 Tryz.f8 rfl rfl rfl rfl rfl rfl rfl ⟨rfl,rfl,rfl,rfl,rfl⟩ rfl rfl rfl rfl rfl acceptorAfter_named Tryz.func8 acceptorAfter_joined
  acceptorAfter_inst acceptorAfter_wrap
  (fun os started H enc _ F=>by rw [OpenClaim.pre_eq_preRow];exact acceptorAfter_lifted os started H enc F)
theorem acceptorAfter_card:Rows.AcceptorAfterCardSaid :=
 Claim7.holds_tied_plain_at .later [] _ _ _ _ acceptorAfter_said (fun _ h=>by cases h) acceptorAfter_wfText (fun _ h=>by cases h) acceptorAfter_row_tie rfl ⟨rfl,rfl⟩ acceptorAfter_main rfl (plainOf acceptorAfter_hn Tryz.func8 acceptorAfter_hall) acceptorAfter_goes
end Go.Proofs.YtikacleldnaphaaGreatDoor
