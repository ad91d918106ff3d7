/- AcceptorTells: for every row of bytes and every three numbers the law answers true, and the row reads as it did. No condition. -/
import Derived.Test.YtikacleldnaphaaGreatDoorA11
import Derived.Test.YtikacleldnaphaaGreatDoorGAcceptorTells
set_option linter.all false
set_option maxRecDepth 100000
namespace Go.Proofs.YtikacleldnaphaaGreatDoor
open Go Go.RowKit Ps
def acceptorTellsArgs:Array Value:=#[.slice none 0 0,.int .i64 0,.int .i64 0,.int .i64 0]
def acceptorTellsData {H:Type}:List (DataW H):=[.nil,.lit (.int .i64 0),.lit (.int .i64 0),.lit (.int .i64 0)]
theorem acceptorTells_reads (os:Os) {H:Type} (enc:TypeId×Value→H):∃places,DataW.whole enc Tryz.prog ((laidWorld os).forCall (fun _ _=>0) ⟨#[],acceptorTellsArgs,[]⟩).memory Tryz.f3.params.toList Rows.acceptorTellsSpec.vars false acceptorTellsArgs.toList 8=some (acceptorTellsData,[],places) :=
 ⟨[],by kernel_rfl⟩
theorem acceptorTells_call (xs:List PV) (h:RdA Tryz.prog reachBytes 5 Tryz.f3.params.toList xs):CK Tryz.prog 3 xs [] fun r _=>r=.bool true:=by
 obtain ⟨p1,_,rfl,h1,p2,_,rfl,h2,p3,_,rfl,h3,p4,_,rfl,h4,rfl⟩:=h
 obtain ⟨s,rfl,hs⟩:=Tryz.rdBytes1 h1
 obtain ⟨a,rfl,_⟩:=Tryz.rdInt h2
 obtain ⟨b,rfl,_⟩:=Tryz.rdInt h3
 obtain ⟨c,rfl,_⟩:=Tryz.rdInt h4
 exact Tryz.c3E s (by have:reachBytes=140737488351232:=rfl;omega) a b c
theorem acceptorTells_lifted (os:Os) (started:os.Started) (H:Type) (enc:TypeId×Value→H) (F:Stop.Interp) :
  ReturnsInHanded {} Tryz.checked os 3 .any ((OpenSpec.ofChange Rows.acceptorTellsSpec).preRow enc Tryz.prog Tryz.f3 Rows.acceptorTellsRow.domain false Rows.acceptorTellsRow.laid) (((OpenSpec.ofChange Rows.acceptorTellsSpec).at F).post enc Tryz.prog Tryz.f3 false true false false):=by
 obtain ⟨places,hx⟩:=acceptorTells_reads os enc
 refine returnsInHanded_of_row (C:=Tryz.checked) (s:=OpenSpec.ofChange Rows.acceptorTellsSpec) own started (by kernel_rfl) Tryz.func3
  (witness_row_at (enc:=enc) (C:=Tryz.checked) false (laidWorld os) acceptorTellsArgs rfl (varsB os _) (heapB os _) (by kernel_rfl)
   (OpenSpec.preRow_of_cond 8 hx (by kernel_rfl) (fun k hk=>by cases hk) (by kernel_rfl) (laid_met os _))) ?_
 intro W base args ds gs before hval hW _ _ hwt _ _ _
 exact law_true (n:=5) laidOut Tryz.func3 (by kernel_rfl) (by kernel_rfl) rfl (fun ds h=>by
  match ds,h with
  | [_,_,_,_],_=>rfl) (by kernel_rfl) rfl Tryz.underlying4 acceptorTells_call hval hW rfl hwt
theorem acceptorTells_said:Rows.AcceptorTellsSaid :=
 OpenClaim.holds_of_cond 3 Tryz.f3 rfl rfl rfl rfl rfl rfl rfl ⟨rfl,rfl,rfl,rfl,rfl⟩ rfl rfl rfl rfl rfl acceptorTells_named Tryz.func3 acceptorTells_joined
  acceptorTells_inst acceptorTells_wrap
  (fun os started H enc _ F=>by rw [OpenClaim.pre_eq_preRow];exact acceptorTells_lifted os started H enc F)
theorem acceptorTells_card:Rows.AcceptorTellsCardSaid :=
 Claim7.holds_tied_plain_at .later [] _ _ _ _ acceptorTells_said (fun _ h=>by cases h) acceptorTells_wfText (fun _ h=>by cases h) acceptorTells_row_tie rfl ⟨rfl,rfl⟩ acceptorTells_main rfl (plainOf acceptorTells_hn Tryz.func3 acceptorTells_hall) acceptorTells_goes
end Go.Proofs.YtikacleldnaphaaGreatDoor
