import Derived.Test.YtekfgclbjenocaaGreatDoorA3
import Derived.Test.YtekfgclbjenocaaGreatDoorCards
import Derived.Test.YtekfgclbjenocaaGreatDoorTie
import Derived.WalkKit
import Derived.ProofKit
import Derived.OpenShut
import Derived.Deep.DeepHandedRow
import Derived.Lib.LaidTab
import Derived.Test.YtekfgclbjenocaaGreatDoorA6
set_option linter.all false
set_option maxRecDepth 100000
namespace Go.Proofs.YtekfgclbjenocaaGreatDoor
open Go Go.RowKit Ps
theorem rows_ints {k:IntKind}:∀{rs:List (List PV)},(∀r∈rs,∃x,r=[.int k x]∧(Lit.int k x).wf=true)→∃xs:List Int,rs.length=xs.length∧rs.flatten=xs.map (.int k)∧∀x∈xs,(Lit.int k x).wf=true
 | [],_=>⟨[],rfl,rfl,fun x h=>by cases h⟩
 | r::rs,h=>by
  obtain ⟨x,rfl,hx⟩:=h r List.mem_cons_self
  obtain ⟨xs,h1,h2,h3⟩:=rows_ints fun r hr=>h r (List.mem_cons_of_mem _ hr)
  exact ⟨x::xs,by simp [h1],by simp [h2],fun y hy=>by
   rcases List.mem_cons.1 hy with rfl | hy
   ·exact hx
   ·exact h3 y hy⟩
theorem bytes_of:∀{xs:List Int},(∀x∈xs,(Lit.int .u8 x).wf=true)→∃bs:List UInt8,xs.length=bs.length∧xs.map (PV.int .u8)=bs.map bC
 | [],_=>⟨[],rfl,rfl⟩
 | x::xs,h=>by
  obtain ⟨bs,h1,h2⟩:=bytes_of fun y hy=>h y (List.mem_cons_of_mem _ hy)
  have hx:=bounds_u8 (h x List.mem_cons_self)
  refine ⟨UInt8.ofNat x.toNat::bs,by simp [h1],?_⟩
  rw [List.map_cons,List.map_cons,h2]
  congr 1
  show PV.int .u8 x=.int .u8 _
  rw [UInt8.toNat_ofNat']
  congr 1;omega
theorem own:ownKnob Tryz.prog.godebug=none:=by kernel_rfl
theorem laidOut:laidOutB Tryz.prog=true:=by kernel_rfl
def litV:DataW Unit→Value
 | .lit (.int k n)=>.int k n
 | _=>Go.undef
def litVs:DataW Unit→List Value
 | .agg l=>l.map litV
 | d=>[litV d]
def tabVs:DataW Unit→List Value
 | .agg l=>l.flatMap litVs
 | _=>[]
def fillTab (l:List Value):Obj→Obj
 | .cells _ t frozen=>.cells l.toArray t frozen
 | o=>o
noncomputable def laidWorld (os:Os):World :=
 { World.holding Tryz.prog os ⟨#[],#[],[]⟩ with heap:=((World.holding Tryz.prog os ⟨#[],#[],[]⟩).heap.modify 0 (fillTab (tabVs Rows.laid_unicode_utf8_first))).modify 1 (fillTab (tabVs Rows.laid_unicode_utf8_acceptRanges)) }
theorem laid_met (os : Os) (args : Array Value) : laidMet Tryz.prog [("unicode/utf8.acceptRanges", Rows.laid_unicode_utf8_acceptRanges), ("unicode/utf8.first", Rows.laid_unicode_utf8_first)] ((laidWorld os).forCall (fun _ _ => 0) ⟨#[], args, []⟩).memory :=
 laidMet_of_run' 8 (by kernel_rfl) (by kernel_rfl)
theorem varsB (os:Os) (args:Array Value):((laidWorld os).forCall (fun _ _=>0) ⟨#[],args,[]⟩).variablesB Tryz.checked.prog=true:=by kernel_rfl
theorem heapB (os : Os) (args : Array Value) : (((laidWorld os).forCall (fun _ _ => 0) ⟨#[], args, []⟩).heap.toList.drop Tryz.checked.prog.globals.size).take ((begin Tryz.checked.prog (fun _ _ => 0) default).world.heap.size - Tryz.checked.prog.globals.size) =
      (begin Tryz.checked.prog (fun _ _ => 0) default).world.heap.toList.drop Tryz.checked.prog.globals.size := by kernel_rfl
theorem noLooks:false=Tryz.prog.looks []:=by kernel_rfl
theorem plainOf {name:String} {k:Nat} {g:Func} (hn:Tryz.prog.funcNamed name=some k) (hg:Tryz.prog.funcs[k]? = some g) (hall:(g.params.toList.all fun t=>Tryz.prog.wantsStandIn t==false)=true)
  (f:FuncId) (fn:Func) (hf:Tryz.pinned.checked.prog.funcNamed name=some f) (hfn:Tryz.pinned.checked.prog.funcs[f]? = some fn) :
  false=Tryz.pinned.checked.prog.looks []∧∀(j:Nat) t,fn.params[j]? = some t→Tryz.pinned.checked.prog.wantsStandIn t=false:=by
 obtain rfl:f=k:=Option.some.inj (hn.symm.trans hf) |>.symm
 obtain rfl:fn=g:=(Option.some.inj (hg.symm.trans hfn)).symm
 refine ⟨noLooks,fun j t ht=>?_⟩
 have h:Tryz.prog.wantsStandIn t=false:=by simpa using List.all_eq_true.1 hall t (Array.mem_toList_iff.2 (Array.mem_of_getElem? ht))
 exact h
end Go.Proofs.YtekfgclbjenocaaGreatDoor
namespace Go.Proofs.Tryz
open Go Ps
open Go.Proofs.YtekfgclbjenocaaGreatDoor (rows_ints bytes_of)
theorem rdInt {B n:Nat} {ps:List PV} (h:RdP prog B (n+1) 3 ps):∃i,ps=[.int .i64 i]∧(Lit.int .i64 i).wf=true:=h
theorem rdBytes {B n:Nat} {ps:List PV} (h:RdP prog B (n+2) 31 ps):∃b:List UInt8,ps=[sl b]:=by
 obtain ⟨rs,rfl,hb,_,hr⟩:∃rs:List (List PV),ps=[.slice rs.length rs.flatten none]∧rs.length*prog.bytesOf 5≤B∧rs.length≤9223372036854775807∧∀r∈rs,r.length=prog.cellsOf 5∧RdP prog B (n+1) 5 r:=h
 obtain ⟨xs,e1,e2,e3⟩:=rows_ints (k:=.u8) fun r hr'=>(hr r hr').2
 obtain ⟨bs,e4,e5⟩:=bytes_of e3
 exact ⟨bs,by unfold sl;rw [e1,e2,e4,e5]⟩
theorem rdStep {B n:Nat} {ps:List PV} (h:RdP prog B (n+3) 33 ps):∃(a b c d:Int) (s:List UInt8),ps=[.int .i64 a,.int .i64 b,.int .i64 c,.int .i64 d,sl s]:=by
 obtain ⟨a,_,rfl,ha,b,_,rfl,hb,c,_,rfl,hc,d,_,rfl,hd,e,_,rfl,he,rfl⟩:∃a x,ps=a++x∧RdP prog B (n+2) 3 a∧∃b y,x=b++y∧RdP prog B (n+2) 3 b∧∃c z,y=c++z∧RdP prog B (n+2) 3 c ∧
  ∃d u,z=d++u∧RdP prog B (n+2) 3 d∧∃e v,u=e++v∧RdP prog B (n+2) 31 e∧v=[]:=h
 obtain ⟨a,rfl,_⟩:=rdInt ha
 obtain ⟨b,rfl,_⟩:=rdInt hb
 obtain ⟨c,rfl,_⟩:=rdInt hc
 obtain ⟨d,rfl,_⟩:=rdInt hd
 obtain ⟨s,rfl⟩:=rdBytes he
 exact ⟨a,b,c,d,s,rfl⟩
end Go.Proofs.Tryz
