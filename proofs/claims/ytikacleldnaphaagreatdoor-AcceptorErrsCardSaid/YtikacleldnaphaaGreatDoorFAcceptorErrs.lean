/- AcceptorErrs: for every number the law answers true. No condition. -/
import Derived.Test.YtikacleldnaphaaGreatDoorA18
import Derived.Test.YtikacleldnaphaaGreatDoorGAcceptorErrs
set_option linter.all false
set_option maxRecDepth 100000
namespace Go.Proofs.YtikacleldnaphaaGreatDoor
open Go Go.RowKit Ps
def acceptorErrsArgs:Array Value:=#[.int .i64 0]
def acceptorErrsData {H:Type}:List (DataW H):=[.lit (.int .i64 0)]
theorem acceptorErrs_reads (os:Os) {H:Type} (enc:TypeId×Value→H):∃places,DataW.whole enc Tryz.prog ((laidWorld os).forCall (fun _ _=>0) ⟨#[],acceptorErrsArgs,[]⟩).memory Tryz.f5.params.toList Rows.acceptorErrsSpec.vars false acceptorErrsArgs.toList 8=some (acceptorErrsData,[],places) :=
 ⟨[],by kernel_rfl⟩
theorem acceptorErrs_call (xs:List PV) (h:RdA Tryz.prog reachBytes 5 Tryz.f5.params.toList xs):CK Tryz.prog 5 xs [] fun r _=>r=.bool true:=by
 obtain ⟨p1,_,rfl,h1,rfl⟩:=h
 obtain ⟨a,rfl,_⟩:=Tryz.rdInt h1
 exact Tryz.c5e a
theorem acceptorErrs_lifted (os:Os) (started:os.Started) (H:Type) (enc:TypeId×Value→H) (F:Stop.Interp) :
  ReturnsInHanded {} Tryz.checked os 5 .any ((OpenSpec.ofChange Rows.acceptorErrsSpec).preRow enc Tryz.prog Tryz.f5 Rows.acceptorErrsRow.domain false Rows.acceptorErrsRow.laid) (((OpenSpec.ofChange Rows.acceptorErrsSpec).at F).post enc Tryz.prog Tryz.f5 false true false false):=by
 obtain ⟨places,hx⟩:=acceptorErrs_reads os enc
 refine returnsInHanded_of_row (C:=Tryz.checked) (s:=OpenSpec.ofChange Rows.acceptorErrsSpec) own started (by kernel_rfl) Tryz.func5
  (witness_row_at (enc:=enc) (C:=Tryz.checked) false (laidWorld os) acceptorErrsArgs rfl (varsB os _) (heapB os _) (by kernel_rfl)
   (OpenSpec.preRow_of_cond 8 hx (by kernel_rfl) (fun k hk=>by cases hk) (by kernel_rfl) (laid_met os _))) ?_
 intro W base args ds gs before hval hW _ _ hwt _ _ _
 exact law_true (n:=5) laidOut Tryz.func5 (by kernel_rfl) (by kernel_rfl) rfl (fun ds h=>by
  match ds,h with
  | [_],_=>rfl) (by kernel_rfl) rfl Tryz.underlying4 acceptorErrs_call hval hW rfl hwt
theorem acceptorErrs_said:Rows.AcceptorErrsSaid :=
 OpenClaim.holds_of_cond 5 Tryz.f5 rfl rfl rfl rfl rfl rfl rfl ⟨rfl,rfl,rfl,rfl,rfl⟩ rfl rfl rfl rfl rfl acceptorErrs_named Tryz.func5 acceptorErrs_joined
  acceptorErrs_inst acceptorErrs_wrap
  (fun os started H enc _ F=>by rw [OpenClaim.pre_eq_preRow];exact acceptorErrs_lifted os started H enc F)
theorem acceptorErrs_card:Rows.AcceptorErrsCardSaid :=
 Claim7.holds_tied_plain_at .later [] _ _ _ _ acceptorErrs_said (fun _ h=>by cases h) acceptorErrs_wfText (fun _ h=>by cases h) acceptorErrs_row_tie rfl ⟨rfl,rfl⟩ acceptorErrs_main rfl (plainOf acceptorErrs_hn Tryz.func5 acceptorErrs_hall) acceptorErrs_goes
end Go.Proofs.YtikacleldnaphaaGreatDoor
