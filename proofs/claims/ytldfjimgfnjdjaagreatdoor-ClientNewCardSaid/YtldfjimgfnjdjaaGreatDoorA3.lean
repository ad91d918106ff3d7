import Derived.Test.YtldfjimgfnjdjaaGreatDoorA2
import Derived.Below
import Derived.Maps.RangeRun
import Derived.Tactics
import Derived.Tactics2
import Derived.Defers
import Derived.Laws.Pointers
import Derived.Laws.LoneSync
import Derived.RegionTactic
import Derived.RegionCalls
import Derived.Test.YtldfjimgfnjdjaaGreatDoorCards
import Derived.Test.YtldfjimgfnjdjaaGreatDoorTie
import Derived.WalkKit
import Derived.ProofKit
import Derived.OpenShut
import Derived.Deep.DeepHandedRow
import Derived.Lib.LaidTab
set_option linter.all false
set_option maxRecDepth 100000
set_option maxHeartbeats 1000000
namespace Go.Proofs.Tryz
open Go Ps
def ttC:TT:=[(3,⟨.int .i64,1,8,[.int .i64 0]⟩),(4,⟨.bool,1,1,[.bool false]⟩),(5,⟨.int .u8,1,1,[.int .u8 0]⟩),(9,⟨.str,1,16,[.str []]⟩),(36,⟨.strct [(9,0),(9,1)],2,32,[.str [],.str []]⟩),(26,⟨.int .i64,1,8,[.int .i64 0]⟩),(31,⟨.arr 32 5,32,32,List.replicate 32 (.int .u8 0)⟩),(253,⟨.slice 3,1,24,[.slice 0 [] (some 3)]⟩),(25,⟨.slice 5,1,24,[.slice 0 [] (some 5)]⟩),(33,⟨.strct [(28,0),(29,1),(3,2),(31,3),(3,35)],36,64,[.ptr none,.ptr none,.int .i64 0]++List.replicate 32 (.int .u8 0)++[.int .i64 0]⟩),(288,⟨.fn,1,8,[.nilF]⟩),(213,⟨.ptr,1,8,[.ptr none]⟩),(215,⟨.strct [(213,0)],1,8,[.ptr none]⟩),(294,⟨.fn,1,8,[.nilF]⟩),(192,⟨.slice 25,1,24,[.slice 0 [] (some 25)]⟩),(265,⟨.strct [(25,0),(4,1)],2,32,[.slice 0 [] (some 5),.bool false]⟩)]
theorem ttC_ok:ttOk prog ttC=true:=by kernel_rfl
def imm131:List Nat:=[]
def imm170:List Nat:=[]
def imm171:List Nat:=[]
def imm137:List Nat:=[]
def imm173:List Nat:=[1000003]
def imm174:List Nat:=[]
def imm175:List Nat:=[]
def imm132:List Nat:=[]
def imm193:List Nat:=[]
def imm194:List Nat:=[]
def imm133:List Nat:=[]
def imm134:List Nat:=[1]
def imm172:List Nat:=[]
def imm135:List Nat:=[]
theorem c131 (b:List UInt8) (hb:b.length≤140737488355328):Pure prog 131 [sl b] (slo b (some 5)):=by
 intro H
 (refine fnS (imm:=imm131) ttC_ok func131 ?_;(conv=>whnf))
 have ht:∀K:PV→PH→Prop,K (slo b (some 5)) H→K (.slice (0+b.length) ([]++b.map bC) (some 5)) H:=fun K k=>by
  rw [Nat.zero_add,List.nil_append];exact k
 have happ:(0+b.length)*1≤140737488355328∧(b.map bC).length=b.length*1∧(b.map bC).all oneP=true:=⟨by omega,by simp,allOne b⟩
 refine ⟨fun h=>?_,fun h=>⟨?_,?_⟩⟩
 ·conv=>whnf
  refine ⟨happ,?_⟩
  conv=>whnf
  exact ⟨by rw [Nat.zero_add];rfl,rfl⟩
 ·conv=>whnf
  have e:b=[]:=List.length_eq_zero_iff.1 h
  subst e
  exact ⟨rfl,rfl⟩
 ·conv=>whnf
  refine ⟨happ,?_⟩
  conv=>whnf
  exact ⟨by rw [Nat.zero_add];rfl,rfl⟩
def curAt (H:PH) (c:Nat) (s:Option (List UInt8)):Prop:=∃x v,H[c]? = some ⟨265,[x,.bool s.isNone],v⟩∧∀l,s=some l→x=sl l
def Upd (X:Nat→Prop) (H H':PH):Prop:=H.length≤H'.length∧∀i,i<H.length→¬X i→H'[i]? = H[i]?
theorem Upd.refl {X:Nat→Prop} (H:PH):Upd X H H:=⟨zqn _,fun _ _ _=>rfl⟩
theorem Upd.trans {X:Nat→Prop} {H H1 H2:PH} (h:Upd X H H1) (k:Upd X H1 H2):Upd X H H2:=⟨Nat.le_trans h.1 k.1,fun i hi hx=>(k.2 i (Nat.lt_of_lt_of_le hi h.1) hx).trans (h.2 i hi hx)⟩
theorem Upd.mono {X Y:Nat→Prop} {H H1:PH} (h:Upd X H H1) (k:∀i,i<H.length→X i→Y i):Upd Y H H1:=⟨h.1,fun i hi hx=>h.2 i hi fun hX=>hx (k i hi hX)⟩
theorem Upd.set {X:Nat→Prop} {H H1:PH} (h:Upd X H H1) {c:Nat} (hc:X c∨H.length≤c) (o:PObj):Upd X H (H1.set c o):=⟨by rw [List.length_set];exact h.1,fun i hi hx=>by
 rw [zqj (fun e=>by subst e;rcases hc with hc | hc;exact hx hc;omega)];exact h.2 i hi hx⟩
theorem Upd.push {X:Nat→Prop} {H H1:PH} (h:Upd X H H1) (o:PObj):Upd X H (H1++[o]):=⟨by rw [zqf];exact Nat.le_add_right_of_le h.1,fun i hi hx=>by
 rw [zq2 (Nat.lt_of_lt_of_le hi h.1)];exact h.2 i hi hx⟩
theorem Upd.ext {H H':PH} (h:Upd (fun _=>False) H H'):∃ext,H'=H++ext:=by
 refine ⟨H'.drop H.length,?_⟩
 apply List.ext_getElem?
 intro i
 by_cases hi:i<H.length
 ·rw [zq2 hi,h.2 i hi (fun f=>f)]
 ·rw [zqi (by omega),zqt]
  congr 1;omega
theorem curAt.lt {H:PH} {c:Nat} {s:Option (List UInt8)} (h:curAt H c s):c<H.length:=by
 obtain ⟨x,v,h,_⟩:=h
 exact (zq1.1 h).1
theorem curAt.keep {X:Nat→Prop} {H H':PH} {c:Nat} {s:Option (List UInt8)} (h:curAt H c s) (k:Upd X H H') (hc:¬X c):curAt H' c s:=by
 have hl:=h.lt
 obtain ⟨x,v,h,h2⟩:=h
 exact ⟨x,v,(k.2 c hl hc).trans h,h2⟩
theorem c193 (c:Nat) (s:Option (List UInt8)) (H:PH) (hc:curAt H c s):CK prog 193 [.ptr (some (c,0))] H fun r H'=>r=.bool (!s.isNone)∧H'=H:=by
 obtain ⟨x,v,hc,_⟩:=hc
 (refine fnS (imm:=imm193) ttC_ok func193 ?_;(conv=>whnf))
 ((conv in (_[_]?)=>tactic=>exact hc);(conv=>whnf))
 exact ⟨rfl,rfl⟩
theorem c175 (c:Nat) (s:Option (List UInt8)) (H:PH) (hc:curAt H c s):CK prog 175 [.ptr (some (c,0))] H fun r H'=>r=.slice 0 [] (some 5)∧Upd (·=c) H H'∧curAt H' c none∧∀y u,H[c]? = some ⟨265,[y,.bool s.isNone],u⟩→H'=H.set c ⟨265,[.nilS,.bool true],u+2⟩:=by
 obtain ⟨x,v,hc,_⟩:=hc
 (refine fnS (imm:=imm175) ttC_ok func175 ?_;(conv=>whnf))
 ((conv in (_[_]?)=>tactic=>exact hc);(conv=>whnf))
 ((conv in (_[_]?)=>tactic=>exact gS hc);(conv=>whnf))
 exact ⟨rfl,((Upd.refl (X:=(·=c)) H).set (c:=c) (.inl rfl) _).set (c:=c) (.inl rfl) _,⟨.nilS,v+2,gS (gS hc),(fun l h=>by cases h)⟩,fun y u hy=>by
  rw [hc] at hy
  cases hy
  exact List.set_set ..⟩
def headB:List UInt8→Nat×Nat×Bool
 | []=>(0,0,false)
 | [x]=>if x.toNat<128 then (1,x.toNat,true) else (0,0,false)
 | [x,y]=>if x.toNat<128 then (1,x.toNat,true) else if x.toNat=129∧128≤y.toNat then (2,y.toNat,true) else (0,0,false)
 | x::y::z::_=>if x.toNat<128 then (1,x.toNat,true) else if x.toNat=129∧128≤y.toNat then (2,y.toNat,true)
  else if x.toNat=130∧0<y.toNat then (3,y.toNat*256+z.toNat,true) else (0,0,false)
theorem head_0:headB []=(0,0,false):=rfl
theorem head_1 (x:UInt8):headB [x]=if x.toNat<128 then (1,x.toNat,true) else (0,0,false):=rfl
theorem head_2 (x y:UInt8):headB [x,y]=if x.toNat<128 then (1,x.toNat,true) else if x.toNat=129∧128≤y.toNat then (2,y.toNat,true) else (0,0,false):=rfl
theorem head_3 (x y z:UInt8) (r:List UInt8):headB (x::y::z::r)=if x.toNat<128 then (1,x.toNat,true) else if x.toNat=129∧128≤y.toNat then (2,y.toNat,true)
  else if x.toNat=130∧0<y.toNat then (3,y.toNat*256+z.toNat,true) else (0,0,false):=rfl
def headV (h:Nat×Nat×Bool):PV:=.tup [.int .i64 h.1,.int .i64 h.2.1,.bool h.2.2]
theorem at1 {cs:List PV} {k:Nat} {x:PV} (h:cs[k]? = some x):∀(j:Nat) (c:PV),[x][j]? = some c→cs[k+j]? = some c:=by
 intro j c hj
 match j with
 | 0=>simpa using h.trans hj
 | j+1=>simp at hj
theorem wrapB1 (x:UInt8):IntKind.i64.wrap (x.toNat:Int)=(x.toNat:Int):=by
 have:=x.toNat_lt
 rw [w64 (by omega) (by omega)]
theorem wrapB2 (y z:UInt8):IntKind.i64.wrap (ishl .i64 (IntKind.i64.wrap (y.toNat:Int)) 8+IntKind.i64.wrap (z.toNat:Int))=((y.toNat*256+z.toNat:Nat):Int):=by
 have:=y.toNat_lt
 have:=z.toNat_lt
 have h:ishl .i64 (IntKind.i64.wrap (y.toNat:Int)) 8=(y.toNat:Int)*256:=by
  rw [wrapB1]
  unfold ishl
  rw [show (2:Int) ^ (min (Int.toNat 8) IntKind.i64.bits)=256 from rfl,w64 (by omega) (by omega)]
 rw [h,wrapB1,w64 (by omega) (by omega)]
 omega
theorem c194_0 (H:PH):CK prog 194 [sl ([])] H fun r H'=>r=headV (headB ([]))∧H'=H:=by
 (refine fnS (imm:=imm194) ttC_ok func194 ?_;(conv=>whnf))
 refine ⟨fun h=>absurd h (by first | decide | omega | (simp;done) | (simp;omega)),fun _=>?_⟩
 conv=>whnf
 refine ⟨fun h=>absurd h (by first | decide | omega | (simp;done) | (simp;omega)),fun _=>?_⟩
 conv=>whnf
 refine ⟨fun h=>absurd h (by first | decide | omega | (simp;done) | (simp;omega)),fun _=>?_⟩
 conv=>whnf
 refine ⟨?_,rfl⟩
 rw [head_0]
 rfl
theorem c194_1 (x:UInt8) (H:PH):CK prog 194 [sl ([x])] H fun r H'=>r=headV (headB ([x]))∧H'=H:=by
 (refine fnS (imm:=imm194) ttC_ok func194 ?_;(conv=>whnf))
 refine ⟨fun _=>?_,fun h=>absurd (by first | decide | omega | (simp;done) | (simp;omega)) h⟩
 conv=>whnf
 refine ⟨⟨by first | decide | omega | (simp;done) | (simp;omega),by first | decide | omega | (simp;done) | (simp;omega)⟩,[bC x],at1 (k:=0*1) rfl,?_⟩
 conv=>whnf
 refine ⟨fun h1=>?_,fun h1=>?_⟩
 ·conv=>whnf
  have h1:(x.toNat:Int)<128:=h1
  refine dP2 (by kernel_rfl) ?_
  conv=>whnf
  (refine dS ?_;(conv=>whnf))
  refine ⟨.elem [bC x],⟨⟨by first | decide | omega | (simp;done) | (simp;omega),by first | decide | omega | (simp;done) | (simp;omega)⟩,[bC x],at1 (k:=0*1) rfl,rfl,rfl,zqv⟩,?_⟩
  conv=>whnf
  iterate 5 (refine dS ?_;(conv=>whnf))
  refine ⟨?_,rfl⟩
  rw [head_1]
  rw [zqp (by omega)]
  show PV.tup [_,PV.int .i64 (IntKind.i64.wrap (x.toNat:Int)),_]=PV.tup [_,_,_]
  rw [wrapB1]
  rfl
 conv=>whnf
 have h1:¬(x.toNat:Int)<128:=h1
 refine ⟨fun h=>absurd h (by first | decide | omega | (simp;done) | (simp;omega)),fun _=>?_⟩
 conv=>whnf
 refine ⟨fun h=>absurd h (by first | decide | omega | (simp;done) | (simp;omega)),fun _=>?_⟩
 conv=>whnf
 refine ⟨?_,rfl⟩
 rw [head_1]
 rw [zqo (by omega)]
 rfl
theorem c194_2 (x y:UInt8) (H:PH):CK prog 194 [sl ([x,y])] H fun r H'=>r=headV (headB ([x,y]))∧H'=H:=by
 (refine fnS (imm:=imm194) ttC_ok func194 ?_;(conv=>whnf))
 refine ⟨fun _=>?_,fun h=>absurd (by first | decide | omega | (simp;done) | (simp;omega)) h⟩
 conv=>whnf
 refine ⟨⟨by first | decide | omega | (simp;done) | (simp;omega),by first | decide | omega | (simp;done) | (simp;omega)⟩,[bC x],at1 (k:=0*1) rfl,?_⟩
 conv=>whnf
 refine ⟨fun h1=>?_,fun h1=>?_⟩
 ·conv=>whnf
  have h1:(x.toNat:Int)<128:=h1
  refine dP2 (by kernel_rfl) ?_
  conv=>whnf
  (refine dS ?_;(conv=>whnf))
  refine ⟨.elem [bC x],⟨⟨by first | decide | omega | (simp;done) | (simp;omega),by first | decide | omega | (simp;done) | (simp;omega)⟩,[bC x],at1 (k:=0*1) rfl,rfl,rfl,zqv⟩,?_⟩
  conv=>whnf
  iterate 5 (refine dS ?_;(conv=>whnf))
  refine ⟨?_,rfl⟩
  rw [head_2]
  rw [zqp (by omega)]
  show PV.tup [_,PV.int .i64 (IntKind.i64.wrap (x.toNat:Int)),_]=PV.tup [_,_,_]
  rw [wrapB1]
  rfl
 conv=>whnf
 have h1:¬(x.toNat:Int)<128:=h1
 refine ⟨fun _=>?_,fun h=>absurd (by first | decide | omega | (simp;done) | (simp;omega)) h⟩
 conv=>whnf
 refine ⟨⟨by first | decide | omega | (simp;done) | (simp;omega),by first | decide | omega | (simp;done) | (simp;omega)⟩,[bC x],at1 (k:=0*1) rfl,?_⟩
 conv=>whnf
 refine ⟨fun h2=>?_,fun h2=>?_⟩
 ·conv=>whnf
  have h2:(x.toNat:Int)=129:=h2
  refine ⟨⟨by first | decide | omega | (simp;done) | (simp;omega),by first | decide | omega | (simp;done) | (simp;omega)⟩,[bC y],at1 (k:=1*1) rfl,?_⟩
  conv=>whnf
  refine ⟨fun h5=>?_,fun h5=>?_⟩
  ·conv=>whnf
   have h5:(128:Int)≤(y.toNat:Int):=h5
   refine dP2 (by kernel_rfl) ?_
   conv=>whnf
   (refine dS ?_;(conv=>whnf))
   refine ⟨.elem [bC y],⟨⟨by first | decide | omega | (simp;done) | (simp;omega),by first | decide | omega | (simp;done) | (simp;omega)⟩,[bC y],at1 (k:=1*1) rfl,rfl,rfl,zqv⟩,?_⟩
   conv=>whnf
   iterate 5 (refine dS ?_;(conv=>whnf))
   refine ⟨?_,rfl⟩
   rw [head_2]
   rw [zqo (by omega)]
   rw [zqp ⟨by omega,by omega⟩]
   show PV.tup [_,PV.int .i64 (IntKind.i64.wrap (y.toNat:Int)),_]=PV.tup [_,_,_]
   rw [wrapB1]
   rfl
  ·conv=>whnf
   have h5:¬(128:Int)≤(y.toNat:Int):=h5
   refine ⟨fun h=>absurd h (by first | decide | omega | (simp;done) | (simp;omega)),fun _=>?_⟩
   conv=>whnf
   refine ⟨?_,rfl⟩
   rw [head_2]
   rw [zqo (by omega)]
   rw [zqo (fun hh=>by omega)]
   rfl
 ·conv=>whnf
  have h2:¬(x.toNat:Int)=129:=h2
  refine ⟨fun h=>absurd h (by first | decide | omega | (simp;done) | (simp;omega)),fun _=>?_⟩
  conv=>whnf
  refine ⟨?_,rfl⟩
  rw [head_2]
  rw [zqo (by omega)]
  rw [zqo (fun hh=>by omega)]
  rfl
theorem c194_3 (x y z:UInt8) (t:List UInt8) (H:PH):CK prog 194 [sl (x::y::z::t)] H fun r H'=>r=headV (headB (x::y::z::t))∧H'=H:=by
 (refine fnS (imm:=imm194) ttC_ok func194 ?_;(conv=>whnf))
 refine ⟨fun _=>?_,fun h=>absurd (by first | decide | omega | (simp;done) | (simp;omega)) h⟩
 conv=>whnf
 refine ⟨⟨by first | decide | omega | (simp;done) | (simp;omega),by first | decide | omega | (simp;done) | (simp;omega)⟩,[bC x],at1 (k:=0*1) rfl,?_⟩
 conv=>whnf
 refine ⟨fun h1=>?_,fun h1=>?_⟩
 ·conv=>whnf
  have h1:(x.toNat:Int)<128:=h1
  refine dP2 (by kernel_rfl) ?_
  conv=>whnf
  (refine dS ?_;(conv=>whnf))
  refine ⟨.elem [bC x],⟨⟨by first | decide | omega | (simp;done) | (simp;omega),by first | decide | omega | (simp;done) | (simp;omega)⟩,[bC x],at1 (k:=0*1) rfl,rfl,rfl,zqv⟩,?_⟩
  conv=>whnf
  iterate 5 (refine dS ?_;(conv=>whnf))
  refine ⟨?_,rfl⟩
  rw [head_3]
  rw [zqp (by omega)]
  show PV.tup [_,PV.int .i64 (IntKind.i64.wrap (x.toNat:Int)),_]=PV.tup [_,_,_]
  rw [wrapB1]
  rfl
 conv=>whnf
 have h1:¬(x.toNat:Int)<128:=h1
 refine ⟨fun _=>?_,fun h=>absurd (by first | decide | omega | (simp;done) | (simp;omega)) h⟩
 conv=>whnf
 refine ⟨⟨by first | decide | omega | (simp;done) | (simp;omega),by first | decide | omega | (simp;done) | (simp;omega)⟩,[bC x],at1 (k:=0*1) rfl,?_⟩
 conv=>whnf
 refine ⟨fun h2=>?_,fun h2=>?_⟩
 ·conv=>whnf
  have h2:(x.toNat:Int)=129:=h2
  refine ⟨⟨by first | decide | omega | (simp;done) | (simp;omega),by first | decide | omega | (simp;done) | (simp;omega)⟩,[bC y],at1 (k:=1*1) rfl,?_⟩
  conv=>whnf
  refine ⟨fun h5=>?_,fun h5=>?_⟩
  ·conv=>whnf
   have h5:(128:Int)≤(y.toNat:Int):=h5
   refine dP2 (by kernel_rfl) ?_
   conv=>whnf
   (refine dS ?_;(conv=>whnf))
   refine ⟨.elem [bC y],⟨⟨by first | decide | omega | (simp;done) | (simp;omega),by first | decide | omega | (simp;done) | (simp;omega)⟩,[bC y],at1 (k:=1*1) rfl,rfl,rfl,zqv⟩,?_⟩
   conv=>whnf
   iterate 5 (refine dS ?_;(conv=>whnf))
   refine ⟨?_,rfl⟩
   rw [head_3]
   rw [zqo (by omega)]
   rw [zqp ⟨by omega,by omega⟩]
   show PV.tup [_,PV.int .i64 (IntKind.i64.wrap (y.toNat:Int)),_]=PV.tup [_,_,_]
   rw [wrapB1]
   rfl
  ·conv=>whnf
   have h5:¬(128:Int)≤(y.toNat:Int):=h5
   refine ⟨fun _=>?_,fun h=>absurd (by first | decide | omega | (simp;done) | (simp;omega)) h⟩
   conv=>whnf
   refine ⟨⟨by first | decide | omega | (simp;done) | (simp;omega),by first | decide | omega | (simp;done) | (simp;omega)⟩,[bC x],at1 (k:=0*1) rfl,?_⟩
   conv=>whnf
   refine ⟨fun h3=>?_,fun h3=>?_⟩
   ·conv=>whnf
    have h3:(x.toNat:Int)=130:=h3
    refine ⟨⟨by first | decide | omega | (simp;done) | (simp;omega),by first | decide | omega | (simp;done) | (simp;omega)⟩,[bC y],at1 (k:=1*1) rfl,?_⟩
    conv=>whnf
    refine ⟨fun h4=>?_,fun h4=>?_⟩
    ·conv=>whnf
     have h4:(0:Int)<(y.toNat:Int):=h4
     refine dP2 (by kernel_rfl) ?_
     conv=>whnf
     (refine dS ?_;(conv=>whnf))
     refine ⟨.elem [bC y],⟨⟨by first | decide | omega | (simp;done) | (simp;omega),by first | decide | omega | (simp;done) | (simp;omega)⟩,[bC y],at1 (k:=1*1) rfl,rfl,rfl,zqv⟩,?_⟩
     conv=>whnf
     iterate 4 (refine dS ?_;(conv=>whnf))
     refine ⟨.elem [bC z],⟨⟨by first | decide | omega | (simp;done) | (simp;omega),by first | decide | omega | (simp;done) | (simp;omega)⟩,[bC z],at1 (k:=2*1) rfl,rfl,rfl,zqv⟩,?_⟩
     conv=>whnf
     iterate 6 (refine dS ?_;(conv=>whnf))
     refine ⟨?_,rfl⟩
     rw [head_3]
     rw [zqo (by omega)]
     rw [zqo (fun hh=>by omega)]
     rw [zqp ⟨by omega,by omega⟩]
     show PV.tup [_,PV.int .i64 (IntKind.i64.wrap (ishl .i64 (IntKind.i64.wrap (y.toNat:Int)) 8+IntKind.i64.wrap (z.toNat:Int))),_]=PV.tup [_,_,_]
     rw [wrapB2]
     rfl
    ·conv=>whnf
     have h4:¬(0:Int)<(y.toNat:Int):=h4
     refine ⟨?_,rfl⟩
     rw [head_3]
     rw [zqo (by omega)]
     rw [zqo (fun hh=>by omega)]
     rw [zqo (fun hh=>by omega)]
     rfl
   ·conv=>whnf
    have h3:¬(x.toNat:Int)=130:=h3
    refine ⟨?_,rfl⟩
    rw [head_3]
    rw [zqo (by omega)]
    rw [zqo (fun hh=>by omega)]
    rw [zqo (fun hh=>by omega)]
    rfl
 ·conv=>whnf
  have h2:¬(x.toNat:Int)=129:=h2
  refine ⟨fun _=>?_,fun h=>absurd (by first | decide | omega | (simp;done) | (simp;omega)) h⟩
  conv=>whnf
  refine ⟨⟨by first | decide | omega | (simp;done) | (simp;omega),by first | decide | omega | (simp;done) | (simp;omega)⟩,[bC x],at1 (k:=0*1) rfl,?_⟩
  conv=>whnf
  refine ⟨fun h3=>?_,fun h3=>?_⟩
  ·conv=>whnf
   have h3:(x.toNat:Int)=130:=h3
   refine ⟨⟨by first | decide | omega | (simp;done) | (simp;omega),by first | decide | omega | (simp;done) | (simp;omega)⟩,[bC y],at1 (k:=1*1) rfl,?_⟩
   conv=>whnf
   refine ⟨fun h4=>?_,fun h4=>?_⟩
   ·conv=>whnf
    have h4:(0:Int)<(y.toNat:Int):=h4
    refine dP2 (by kernel_rfl) ?_
    conv=>whnf
    (refine dS ?_;(conv=>whnf))
    refine ⟨.elem [bC y],⟨⟨by first | decide | omega | (simp;done) | (simp;omega),by first | decide | omega | (simp;done) | (simp;omega)⟩,[bC y],at1 (k:=1*1) rfl,rfl,rfl,zqv⟩,?_⟩
    conv=>whnf
    iterate 4 (refine dS ?_;(conv=>whnf))
    refine ⟨.elem [bC z],⟨⟨by first | decide | omega | (simp;done) | (simp;omega),by first | decide | omega | (simp;done) | (simp;omega)⟩,[bC z],at1 (k:=2*1) rfl,rfl,rfl,zqv⟩,?_⟩
    conv=>whnf
    iterate 6 (refine dS ?_;(conv=>whnf))
    refine ⟨?_,rfl⟩
    rw [head_3]
    rw [zqo (by omega)]
    rw [zqo (fun hh=>by omega)]
    rw [zqp ⟨by omega,by omega⟩]
    show PV.tup [_,PV.int .i64 (IntKind.i64.wrap (ishl .i64 (IntKind.i64.wrap (y.toNat:Int)) 8+IntKind.i64.wrap (z.toNat:Int))),_]=PV.tup [_,_,_]
    rw [wrapB2]
    rfl
   ·conv=>whnf
    have h4:¬(0:Int)<(y.toNat:Int):=h4
    refine ⟨?_,rfl⟩
    rw [head_3]
    rw [zqo (by omega)]
    rw [zqo (fun hh=>by omega)]
    rw [zqo (fun hh=>by omega)]
    rfl
  ·conv=>whnf
   have h3:¬(x.toNat:Int)=130:=h3
   refine ⟨?_,rfl⟩
   rw [head_3]
   rw [zqo (by omega)]
   rw [zqo (fun hh=>by omega)]
   rw [zqo (fun hh=>by omega)]
   rfl
theorem c194 (b:List UInt8):Pure prog 194 [sl b] (headV (headB b)):=fun H=>match b with
 | []=>c194_0 H
 | [x]=>c194_1 x H
 | [x,y]=>c194_2 x y H
 | x::y::z::r=>c194_3 x y z r H
theorem c132 (a b:List UInt8):Pure prog 132 [sl a,sl b] (.bool (decide (a=b))):=by
 intro H
 (refine fnS (imm:=imm132) ttC_ok func132 ?_;(conv=>whnf))
 refine ⟨a,⟨rfl,rfl⟩,?_⟩
 conv=>whnf
 refine ⟨b,⟨rfl,rfl⟩,?_⟩
 conv=>whnf
 refine ⟨fun h=>?_,fun h=>?_⟩
 ·conv=>whnf
  exact ⟨zqm PV.bool (zqe h).symm,rfl⟩
 ·conv=>whnf
  exact ⟨zqm PV.bool (zqd h).symm,rfl⟩
def isNumB:List UInt8→Bool
 | []=>false
 | [x]=>decide (x.toNat<128)
 | x::y::t=>decide (t.length≤6)&&(decide (x.toNat<128)&&(decide (x.toNat≠0)||decide (128≤y.toNat)))
theorem c174 (b:List UInt8):Pure prog 174 [sl b] (.bool (isNumB b)):=by
 intro H
 (refine fnS (imm:=imm174) ttC_ok func174 ?_;(conv=>whnf))
 match b with
 | [] =>
  refine ⟨fun _=>?_,fun h=>absurd rfl h⟩
  conv=>whnf
  exact ⟨rfl,rfl⟩
 | [x] =>
  refine ⟨fun h=>absurd h (by simp),fun _=>?_⟩
  conv=>whnf
  refine ⟨fun h=>absurd h (by simp),fun _=>?_⟩
  conv=>whnf
  refine ⟨⟨by decide,by simp⟩,[bC x],at1 (k:=0*1) rfl,?_⟩
  conv=>whnf
  refine ⟨fun h=>?_,fun h=>?_⟩
  ·conv=>whnf
   have h:(128:Int)≤(x.toNat:Int):=h
   exact ⟨zqm PV.bool (zqd (by omega)).symm,rfl⟩
  ·conv=>whnf
   have h:¬(128:Int)≤(x.toNat:Int):=h
   refine ⟨fun h=>absurd h (by simp),fun _=>?_⟩
   conv=>whnf
   exact ⟨zqm PV.bool (zqe (by omega)).symm,rfl⟩
 | x::y::t =>
  refine ⟨fun h=>absurd h (by simp;omega),fun _=>?_⟩
  conv=>whnf
  refine ⟨fun h=>?_,fun h=>?_⟩
  ·conv=>whnf
   have h:(8:Int)<((t.length+1+1:Nat):Int):=h
   exact ⟨zqm PV.bool (show false=(decide (t.length≤6)&&_) by rw [zqd (by omega)];rfl),rfl⟩
  conv=>whnf
  have h:¬(8:Int)<((t.length+1+1:Nat):Int):=h
  have e1:decide (t.length≤6)=true:=zqe (by omega)
  refine ⟨⟨by decide,by simp;omega⟩,[bC x],at1 (k:=0*1) rfl,?_⟩
  conv=>whnf
  refine ⟨fun h2=>?_,fun h2=>?_⟩
  ·conv=>whnf
   have h2:(128:Int)≤(x.toNat:Int):=h2
   exact ⟨zqm PV.bool (show false=(decide (t.length≤6)&&(decide (x.toNat<128)&&_)) by rw [e1,zqd (show ¬x.toNat<128 by omega)];rfl),rfl⟩
  conv=>whnf
  have h2:¬(128:Int)≤(x.toNat:Int):=h2
  have e2:decide (x.toNat<128)=true:=zqe (by omega)
  refine ⟨fun _=>?_,fun h=>absurd (by simp;omega) h⟩
  conv=>whnf
  refine ⟨⟨by decide,by simp;omega⟩,[bC x],at1 (k:=0*1) rfl,?_⟩
  conv=>whnf
  refine ⟨fun h3=>?_,fun h3=>?_⟩
  ·conv=>whnf
   have h3:(x.toNat:Int)=0:=h3
   have e3:decide (x.toNat≠0)=false:=zqd (by omega)
   refine ⟨⟨by decide,by simp;omega⟩,[bC y],at1 (k:=1*1) rfl,?_⟩
   conv=>whnf
   refine ⟨fun h4=>?_,fun h4=>?_⟩
   ·conv=>whnf
    have h4:(128:Int)≤(y.toNat:Int):=h4
    exact ⟨zqm PV.bool (show true=(decide (t.length≤6)&&(decide (x.toNat<128)&&(decide (x.toNat≠0)||decide (128≤y.toNat)))) by rw [e1,e2,e3,zqe (show 128≤y.toNat by omega)];rfl),rfl⟩
   ·conv=>whnf
    have h4:¬(128:Int)≤(y.toNat:Int):=h4
    exact ⟨zqm PV.bool (show false=(decide (t.length≤6)&&(decide (x.toNat<128)&&(decide (x.toNat≠0)||decide (128≤y.toNat)))) by rw [e1,e2,e3,zqd (show ¬128≤y.toNat by omega)];rfl),rfl⟩
  ·conv=>whnf
   have h3:¬(x.toNat:Int)=0:=h3
   have e3:decide (x.toNat≠0)=true:=zqe (by omega)
   exact ⟨zqm PV.bool (show true=(decide (t.length≤6)&&(decide (x.toNat<128)&&(decide (x.toNat≠0)||decide (128≤y.toNat)))) by rw [e1,e2,e3];rfl),rfl⟩
theorem c170 (b:List UInt8) (hb:b.length≤140737488355328) (H:PH):CK prog 170 [sl b] H fun r H'=>r=.ptr (some (H.length,0))∧H'=H++[⟨265,[sl b,.bool false],0⟩]:=by
 (refine fnS (imm:=imm170) ttC_ok func170 ?_;(conv=>whnf))
 refine cP (c131 b hb) ?_
 conv=>whnf
 exact ⟨rfl,rfl⟩
def elemB (tag:UInt8):List UInt8→Option (List UInt8×List UInt8)
 | []=>none
 | t::b=>if t=tag then (if (headB b).2.2=true∧(headB b).1+(headB b).2.1≤b.length then some ((b.drop (headB b).1).take (headB b).2.1,b.drop ((headB b).1+(headB b).2.1)) else none) else none
def elemC (tag:UInt8) (s:Option (List UInt8)):Option (List UInt8)×Option (List UInt8):=match s with
 | none=>(none,none)
 | some l=>match elemB tag l with
  | none=>(none,none)
  | some (x,r)=>(some r,some x)
theorem head_le (b:List UInt8):(headB b).2.2=true→(headB b).1≤3∧(headB b).1≤b.length∧(headB b).2.1≤65535:=by
 match b with
 | []=>intro h;cases h
 | [x] =>
  rw [head_1]
  have:=x.toNat_lt
  split <;> intro h <;> first | (cases h;done) | (simp;omega)
 | [x,y] =>
  rw [head_2]
  have:=x.toNat_lt
  have:=y.toNat_lt
  split <;> (try split) <;> intro h <;> first | (cases h;done) | (simp;omega)
 | x::y::z::t =>
  rw [head_3]
  have:=x.toNat_lt
  have:=y.toNat_lt
  have:=z.toNat_lt
  split <;> (try split) <;> (try split) <;> intro h <;> first | (cases h;done) | (simp;omega)
theorem sl_cut (b:List UInt8) (l h:Int) (h0:0≤l∧l≤h∧h≤b.length) :
  PV.slice (h.toNat - l.toNat) (((b.map bC).take (h.toNat*1)).drop (l.toNat*1)) none=sl ((b.take h.toNat).drop l.toNat):=by
 unfold sl
 have:((b.take h.toNat).drop l.toNat).length=h.toNat - l.toNat:=by rw [List.length_drop,zqr];omega
 rw [this,List.map_drop,List.map_take,Nat.mul_one,Nat.mul_one]
def elemV (o:Option (List UInt8)):PV:=.tup [slo (o.getD []) (some 5),.bool o.isSome]
theorem elemC_bad {tag:UInt8} {l:List UInt8} (h:elemB tag l=none):elemC tag (some l)=(none,none):=by
 show (match elemB tag l with | none=>(none,none) | some (x,r)=>(some r,some x))=_
 rw [h]
def curStep (tag:UInt8) (s:Option (List UInt8)) (v:Nat):PObj:=match (elemC tag s).1 with
 | some r=>⟨265,[sl r,.bool false],v+1⟩
 | none=>⟨265,[.nilS,.bool true],v+2⟩
theorem curStep_no {tag:UInt8} {s:Option (List UInt8)} {v:Nat} (h:elemC tag s=(none,none)):curStep tag s v=⟨265,[.nilS,.bool true],v+2⟩:=by unfold curStep;rw [h]
theorem curStep_yes {tag:UInt8} {s:Option (List UInt8)} {v:Nat} {r x:List UInt8} (h:elemC tag s=(some r,some x)):curStep tag s v=⟨265,[sl r,.bool false],v+1⟩:=by unfold curStep;rw [h]
theorem c173 (c:Nat) (tag:UInt8) (s:Option (List UInt8)) (H:PH) (hc:curAt H c s) (hl:∀l,s=some l→l.length≤140737488355328) :
  CK prog 173 [.ptr (some (c,0)),bC tag] H fun r H'=>r=elemV (elemC tag s).2∧Upd (·=c) H H'∧curAt H' c (elemC tag s).1∧∀y u,H[c]? = some ⟨265,[y,.bool s.isNone],u⟩→H'=H.set c (curStep tag s u):=by
 (refine fnS (imm:=imm173) ttC_ok func173 ?_;(conv=>whnf))
 refine cO (c193 c s H hc) ?_
 rintro _ _ ⟨rfl,rfl⟩
 rename_i H
 have errs:∀(K:PV→PH→Prop),elemC tag s=(none,none)→(∀H',Upd (·=c) H H'→curAt H' c none→(∀y u,H[c]? = some ⟨265,[y,.bool s.isNone],u⟩→H'=H.set c (curStep tag s u))→K (.slice 0 [] (some 5)) H')→callK prog 175 [.ptr (some (c,0))] H K:=fun K he k =>
  cO (c175 c s H hc) fun r H' ⟨h1,h2,h3,h4⟩=>by rw [h1];exact k H' h2 h3 fun y u hy=>by rw [curStep_no he];exact h4 y u hy
 cases s with
 | none =>
  conv=>whnf
  refine errs _ rfl fun H' h1 h2 h3=>?_
  conv=>whnf
  exact ⟨rfl,h1,h2,h3⟩
 | some l =>
  have hll:=hl l rfl
  obtain ⟨x,v,hc0,hx⟩:=hc
  have hx:=hx l rfl
  subst hx
  conv=>whnf
  ((conv in (_[_]?)=>tactic=>exact hc0);(conv=>whnf))
  cases l with
  | nil =>
   refine ⟨fun _=>?_,fun h=>absurd rfl h⟩
   conv=>whnf
   refine errs _ rfl fun H' h1 h2 h3=>?_
   conv=>whnf
   exact ⟨rfl,h1,h2,h3⟩
  | cons t b =>
   refine ⟨fun h=>absurd h (by simp <;> omega),fun _=>?_⟩
   conv=>whnf
   ((conv in (_[_]?)=>tactic=>exact hc0);(conv=>whnf))
   refine ⟨⟨by decide,by first | (simp;done) | (simp;omega)⟩,[bC t],at1 (k:=0*1) rfl,?_⟩
   conv=>whnf
   refine ⟨fun h=>?_,fun h=>?_⟩
   ·have ht:t=tag:=by
     have h:(t.toNat:Int)=(tag.toNat:Int):=h
     exact UInt8.toNat_inj.1 (by omega)
    subst ht
    conv=>whnf
    refine cutK_of [(0,.ptr (some (c,0))),(6,sl b)] H ?_ ?_
    rotate_left
    ·conv=>whnf
     ((conv in (_[_]?)=>tactic=>exact hc0);(conv=>whnf))
     refine ⟨⟨by decide,by simp <;> omega,by simp⟩,?_⟩
     conv=>whnf
     have e:=sl_cut (t::b) 1 ((t::b).length:Int) ⟨by decide,by simp <;> omega,by simp⟩
     refine ⟨(),trivial,⟨rfl,e.trans (by rw [Int.toNat_natCast,List.take_length];rfl),zqv⟩,rfl⟩
    conv=>whnf
    refine cP (c194 b) ?_
    have hle:=head_le b
    have heb:elemB t (t::b)=if (headB b).2.2=true∧(headB b).1+(headB b).2.1≤b.length then some ((b.drop (headB b).1).take (headB b).2.1,b.drop ((headB b).1+(headB b).2.1)) else none:=by
     show (if t=t then _ else none)=_
     rw [zqp rfl]
    revert hle heb
    generalize hq:headB b=q
    obtain ⟨at',n,ok⟩:=q
    intro hle heb
    have hbl:b.length+1≤140737488355328:=hll
    cases ok
    ·conv=>whnf
     refine errs _ (elemC_bad (by rw [heb];rfl)) fun H' h1 h2 h3=>?_
     conv=>whnf
     rw [elemC_bad (by rw [heb];rfl)]
     exact ⟨rfl,h1,h2,h3⟩
    ·obtain ⟨k1,k2,k3⟩:=hle rfl
     have k1:at'≤3:=k1
     have k2:at'≤b.length:=k2
     have k3:n≤65535:=k3
     conv=>whnf
     have hw:IntKind.i64.wrap ((b.length:Int) - (at':Int))=(b.length:Int) - at':=by rw [w64 (by omega) (by omega)]
     have hw2:IntKind.i64.wrap ((at':Int)+(n:Int))=((at'+n:Nat):Int):=by rw [w64 (by omega) (by omega)];rfl
     refine ⟨fun h=>?_,fun h=>?_⟩
     ·conv=>whnf
      have h:IntKind.i64.wrap ((b.length:Int) - (at':Int))<(n:Int):=h
      rw [hw] at h
      have hn:elemB t (t::b)=none:=by rw [heb,zqo (fun hh=>by have hh:at'+n≤b.length:=hh.2;omega)]
      refine errs _ (elemC_bad hn) fun H' h1 h2 h3=>?_
      conv=>whnf
      rw [elemC_bad hn]
      exact ⟨rfl,h1,h2,h3⟩
     ·conv=>whnf
      have h:¬IntKind.i64.wrap ((b.length:Int) - (at':Int))<(n:Int):=h
      rw [hw] at h
      have hfit:at'+n≤b.length:=by omega
      have hs:elemC t (some (t::b))=(some (b.drop (at'+n)),some ((b.drop at').take n)):=by
       show (match elemB t (t::b) with | none=>(none,none) | some (x,r)=>(some r,some x))=_
       rw [heb,zqp ⟨rfl,hfit⟩]
      refine ⟨⟨by show 0≤IntKind.i64.wrap ((at':Int)+(n:Int));rw [hw2];omega,by show IntKind.i64.wrap ((at':Int)+(n:Int))≤(b.length:Int);rw [hw2];omega,by omega⟩,?_⟩
      conv=>whnf
      ((conv in (_[_]?)=>tactic=>exact hc0);(conv=>whnf))
      refine ⟨⟨by show (0:Int)≤(at':Int);omega,by show (at':Int)≤IntKind.i64.wrap ((at':Int)+(n:Int));rw [hw2];omega,by show IntKind.i64.wrap ((at':Int)+(n:Int))≤(b.length:Int);rw [hw2];omega⟩,?_⟩
      conv=>whnf
      have e1:=sl_cut b (at':Int) (IntKind.i64.wrap ((at':Int)+(n:Int))) ⟨by omega,by rw [hw2];omega,by rw [hw2];omega⟩
      have e2:=sl_cut b (IntKind.i64.wrap ((at':Int)+(n:Int))) (b.length:Int) ⟨by rw [hw2];omega,by rw [hw2];omega,by omega⟩
      have e3:(b.take (IntKind.i64.wrap ((at':Int)+(n:Int))).toNat).drop (at':Int).toNat=(b.drop at').take n:=by
       rw [hw2,Int.toNat_natCast,Int.toNat_natCast,List.drop_take]
       congr 1;omega
      have e4:(b.take (b.length:Int).toNat).drop (IntKind.i64.wrap ((at':Int)+(n:Int))).toNat=b.drop (at'+n):=by
       rw [hw2,Int.toNat_natCast,Int.toNat_natCast,List.take_length]
      refine cA (args':=[sl ((b.drop at').take n)]) (zqm (fun x=>[x]) (e1.trans (by rw [e3]))) (cP (c131 _ (by rw [zqr,List.length_drop];omega)) ?_)
      conv=>whnf
      rw [hs]
      exact ⟨rfl,(Upd.refl (X:=(·=c)) H).set (c:=c) (.inl rfl) _,⟨_,v+1,gS hc0,fun l hl=>by
       have hl:b.drop (at'+n)=l:=Option.some.inj hl
       rw [←hl]
       exact e2.trans (by rw [e4])⟩,fun y u hy=>by
       rw [hc0] at hy
       cases hy
       rw [curStep_yes hs,←e4,←e2];rfl⟩
   ·have ht:¬t=tag:=fun e=>h (show (t.toNat:Int)=(tag.toNat:Int) by rw [e])
    have hn:elemB tag (t::b)=none:=by
     show (if t=tag then _ else none)=none
     rw [zqo ht]
    conv=>whnf
    refine errs _ (elemC_bad hn) fun H' h1 h2 h3=>?_
    conv=>whnf
    rw [elemC_bad hn]
    exact ⟨rfl,h1,h2,h3⟩
theorem c171 (c:Nat) (tag:UInt8) (s:Option (List UInt8)) (H:PH) (hc:curAt H c s) (hl:∀l,s=some l→l.length≤140737488355328) :
  CK prog 171 [.ptr (some (c,0)),bC tag] H fun r H'=>∃d,r=.ptr (some (d,0))∧H.length≤d∧Upd (·=c) H H'∧curAt H' c (elemC tag s).1∧curAt H' d (elemC tag s).2:=by
 (refine fnS (imm:=imm171) ttC_ok func171 ?_;(conv=>whnf))
 refine cO (c173 c tag s H hc hl) ?_
 rintro _ H1 ⟨rfl,h1,h2,h3⟩
 revert h2
 generalize elemC tag s=q
 obtain ⟨s',o⟩:=q
 intro h2
 have h2:curAt H1 c s':=h2
 cases o with
 | none =>
  conv=>whnf
  exact ⟨H1.length,rfl,h1.1,h1.push _,h2.keep (X:=fun _=>False) ((Upd.refl H1).push _) (fun f=>f),_,0,gL _ _,fun l hl=>by cases hl⟩
 | some x =>
  conv=>whnf
  exact ⟨H1.length,rfl,h1.1,h1.push _,h2.keep (X:=fun _=>False) ((Upd.refl H1).push _) (fun f=>f),sl x,0,gL _ _,fun l hl=>by cases hl;rfl⟩
theorem c172 (c:Nat) (s:Option (List UInt8)) (H:PH) (hc:curAt H c s) (hl:∀l,s=some l→l.length≤140737488355328) :
  CK prog 172 [.ptr (some (c,0))] H fun r H'=>r=.str ((elemC 27 s).2.getD [])∧Upd (·=c) H H'∧curAt H' c (elemC 27 s).1:=by
 (refine fnS (imm:=imm172) ttC_ok func172 ?_;(conv=>whnf))
 refine cO (c173 c 27 s H hc hl) ?_
 rintro _ H1 ⟨rfl,h1,h2,h3⟩
 conv=>whnf
 refine ⟨_,⟨rfl,rfl⟩,?_⟩
 conv=>whnf
 exact ⟨rfl,h1,h2⟩
theorem c137 (c:Nat) (s:Option (List UInt8)) (H:PH) (hc:curAt H c s) (hl:∀l,s=some l→l.length≤140737488355328) :
  CK prog 137 [.ptr (some (c,0))] H fun r H'=>r=sl ((elemC 4 s).2.getD [])∧Upd (·=c) H H'∧curAt H' c (elemC 4 s).1∧∀y u,H[c]? = some ⟨265,[y,.bool s.isNone],u⟩→H'=H.set c (curStep 4 s u):=by
 (refine fnS (imm:=imm137) ttC_ok func137 ?_;(conv=>whnf))
 refine cO (c173 c 4 s H hc hl) ?_
 rintro _ H1 ⟨rfl,h1,h2,h3⟩
 conv=>whnf
 exact ⟨rfl,h1,h2,h3⟩
def numW (l:List UInt8):Int:=l.foldl (fun n x=>IntKind.i64.wrap (ishl .i64 n 8+IntKind.i64.wrap (x.toNat:Int))) 0
def intR (s':Option (List UInt8)):Option (List UInt8)→Option (List UInt8)×Int
 | none=>(s',0)
 | some b=>if isNumB b=true∧numW (b.take 8)≤4611686018427387904 then (s',numW (b.take 8)) else (none,0)
def intC (s:Option (List UInt8)):Option (List UInt8)×Int:=intR (elemC 2 s).1 (elemC 2 s).2
theorem intR_no {s':Option (List UInt8)} {b:List UInt8} (h:¬(isNumB b=true∧numW (b.take 8)≤4611686018427387904)):intR s' (some b)=(none,0):=zqo h
theorem intR_yes {s':Option (List UInt8)} {b:List UInt8} (h:isNumB b=true∧numW (b.take 8)≤4611686018427387904):intR s' (some b)=(s',numW (b.take 8)):=zqp h
structure NuS where
 k:Nat
theorem c135 (c:Nat) (s:Option (List UInt8)) (H:PH) (hc:curAt H c s) (hl:∀l,s=some l→l.length≤140737488355328) :
  CK prog 135 [.ptr (some (c,0))] H fun r H'=>r=.int .i64 (intC s).2∧Upd (·=c) H H'∧curAt H' c (intC s).1:=by
 (refine fnS (imm:=imm135) ttC_ok func135 ?_;(conv=>whnf))
 refine cO (c173 c 2 s H hc hl) ?_
 rintro _ H1 ⟨rfl,h1,h2,h3⟩
 unfold intC
 revert h2
 generalize elemC 2 s=q
 obtain ⟨s',o⟩:=q
 intro h2
 have h2:curAt H1 c s':=h2
 cases o with
 | none =>
  conv=>whnf
  exact ⟨rfl,h1,h2⟩
 | some b =>
  conv=>whnf
  have hcut:=sl_cut b 0 (min (b.length:Int) 8) ⟨by decide,by omega,by omega⟩
  have hL:(b.take (min (b.length:Int) 8).toNat).drop (0:Int).toNat=b.take 8:=by
   show (b.take (min (b.length:Int) 8).toNat).drop 0=_
   rw [List.drop_zero]
   by_cases h:b.length≤8
   ·rw [show (min (b.length:Int) 8).toNat=b.length by omega,List.take_length,List.take_of_length_le h]
   ·rw [show (min (b.length:Int) 8).toNat=8 by omega]
  rw [hL] at hcut
  have hm:(min (b.length:Int) 8).toNat - (0:Int).toNat=(b.take 8).length:=by rw [zqr];omega
  refine ⟨⟨by decide,by show (0:Int)≤min (b.length:Int) 8;omega,by show min (b.length:Int) 8≤(b.length:Int);omega⟩,?_⟩
  conv=>whnf
  refine lO NuS (fun x=>[(0,.ptr (some (c,0))),(3,slo b (some 5)),(19,sl (b.take 8)),(20,.int .i64 (b.take 8).length),(21,.int .i64 x.k),(5,.int .i64 (numW ((b.take 8).take x.k)))]) (fun _=>H1) (fun x=>x.k≤(b.take 8).length) (fun x=>(b.take 8).length - x.k)
   ⟨⟨0⟩,Nat.zero_le _,⟨rfl,rfl,hcut,zqm (fun n:Nat=>PV.int .i64 (n:Int)) hm,rfl,rfl,zqv⟩,rfl⟩ ?_
  rintro ⟨k⟩ hk
  have hk:k≤(b.take 8).length:=hk
  have h8:(b.take 8).length≤8:=by rw [zqr];omega
  conv=>whnf
  refine ⟨fun h=>?_,fun h=>?_⟩
  ·conv=>whnf
   have h:(k:Int)<((b.take 8).length:Int):=h
   have hi:k<(b.take 8).length:=by omega
   refine ⟨⟨by show (0:Int)≤(k:Int);omega,h⟩,[bC (b.take 8)[k]],at1 ?_,?_⟩
   ·show ((b.take 8).map bC)[(k:Int).toNat*1]? = _
    rw [Int.toNat_natCast,Nat.mul_one,List.getElem?_map,zqc hi];rfl
   conv=>whnf
   refine ⟨by decide,?_⟩
   conv=>whnf
   refine ⟨⟨k+1⟩,by show k+1≤_;omega,⟨rfl,rfl,rfl,rfl,?_,?_,zqv⟩,rfl,by show (b.take 8).length - (k+1)<(b.take 8).length - k;omega⟩
   ·show PV.int _ (IntKind.i64.wrap ((k:Int)+1))=PV.int _ ((k+1:Nat):Int)
    rw [w64 (by omega) (by omega)];rfl
   ·rw [List.take_succ_eq_append_getElem hi]
    unfold numW
    rw [List.foldl_append]
    rfl
  ·conv=>whnf
   have h:¬(k:Int)<((b.take 8).length:Int):=h
   rw [List.take_of_length_le (l:=b.take 8) (by omega)]
   refine cP (c174 b) ?_
   cases hn:isNumB b
   ·conv=>whnf
    refine cO (c175 c s' H1 h2) fun r H2 ⟨k1,k2,k3,_⟩=>?_
    subst k1
    conv=>whnf
    have hq:intR s' (some b)=(none,0):=intR_no (fun hh=>by rw [hn] at hh;cases hh.1)
    rw [show intR (s',some b).1 (s',some b).2=(none,0) from hq]
    exact ⟨rfl,h1.trans k2,k3⟩
   ·conv=>whnf
    refine ⟨fun h5=>?_,fun h5=>?_⟩
    ·conv=>whnf
     have h5:(4611686018427387904:Int)<numW (b.take 8):=h5
     refine cO (c175 c s' H1 h2) fun r H2 ⟨k1,k2,k3,_⟩=>?_
     subst k1
     conv=>whnf
     have hq:intR s' (some b)=(none,0):=intR_no (fun hh=>by omega)
     rw [show intR (s',some b).1 (s',some b).2=(none,0) from hq]
     exact ⟨rfl,h1.trans k2,k3⟩
    ·conv=>whnf
     have h5:¬(4611686018427387904:Int)<numW (b.take 8):=h5
     have hq:intR s' (some b)=(s',numW (b.take 8)):=intR_yes ⟨hn,by omega⟩
     rw [show intR (s',some b).1 (s',some b).2=(s',numW (b.take 8)) from hq]
     exact ⟨rfl,h1,h2⟩
def princC (s:Option (List UInt8)):Option (List UInt8)×(List UInt8×List UInt8) :=
 ((elemC 48 s).1,((elemC 27 (elemC 48 s).2).2.getD [],(elemC 27 (elemC 27 (elemC 48 s).2).1).2.getD []))
theorem elemB_len {tag:UInt8} {l x r:List UInt8} (h:elemB tag l=some (x,r)):x.length≤l.length∧r.length≤l.length∧x.length≤65535:=by
 cases l with
 | nil=>cases h
 | cons t b =>
  have h:(if t=tag then (if (headB b).2.2=true∧(headB b).1+(headB b).2.1≤b.length then some ((b.drop (headB b).1).take (headB b).2.1,b.drop ((headB b).1+(headB b).2.1)) else none) else none)=some (x,r):=h
  split at h
  ·split at h
   ·rename_i h1 h2
    have:=head_le b h2.1
    cases h
    simp only [zqr,List.length_drop,List.length_cons]
    omega
   ·cases h
  ·cases h
theorem elemC_len {tag:UInt8} {s:Option (List UInt8)} {B:Nat} (h:∀l,s=some l→l.length≤B):(∀l,(elemC tag s).1=some l→l.length≤B)∧(∀l,(elemC tag s).2=some l→l.length≤B∧l.length≤65535):=by
 cases s with
 | none=>exact ⟨(fun l h=>by cases h),(fun l h=>by cases h)⟩
 | some l =>
  have hb:=h l rfl
  have e:elemC tag (some l)=(match elemB tag l with | none=>(none,none) | some (x,r)=>(some r,some x)):=rfl
  rw [e]
  cases he:elemB tag l with
  | none=>exact ⟨(fun l h=>by cases h),(fun l h=>by cases h)⟩
  | some p =>
   obtain ⟨x,r⟩:=p
   have hl:=elemB_len he
   exact ⟨(fun l h=>by cases h;omega),(fun l h=>by cases h;omega)⟩
theorem intC_len {s:Option (List UInt8)} {B:Nat} (h:∀l,s=some l→l.length≤B):∀l,(intC s).1=some l→l.length≤B:=by
 have hl:=(elemC_len (tag:=2) h).1
 unfold intC
 revert hl
 generalize elemC 2 s=q
 obtain ⟨s',o⟩:=q
 intro hl l
 cases o with
 | none=>exact hl l
 | some b =>
  show (if isNumB b=true∧numW (b.take 8)≤4611686018427387904 then (s',numW (b.take 8)) else (none,0)).1=some l→_
  split
  ·exact hl l
  ·intro e;cases e
def keyC (k:Nat→UInt8):List PV:=[bC (k 0),bC (k 1),bC (k 2),bC (k 3),bC (k 4),bC (k 5),bC (k 6),bC (k 7),bC (k 8),bC (k 9),bC (k 10),bC (k 11),bC (k 12),bC (k 13),bC (k 14),bC (k 15),bC (k 16),bC (k 17),bC (k 18),bC (k 19),bC (k 20),bC (k 21),bC (k 22),bC (k 23),bC (k 24),bC (k 25),bC (k 26),bC (k 27),bC (k 28),bC (k 29),bC (k 30),bC (k 31)]
def keyB (k:Nat→UInt8):List UInt8:=[k 0,k 1,k 2,k 3,k 4,k 5,k 6,k 7,k 8,k 9,k 10,k 11,k 12,k 13,k 14,k 15,k 16,k 17,k 18,k 19,k 20,k 21,k 22,k 23,k 24,k 25,k 26,k 27,k 28,k 29,k 30,k 31]
theorem keyB_len (k:Nat→UInt8):(keyB k).length=32:=rfl
def octC (s:Option (List UInt8)):Option (List UInt8)×List UInt8:=((elemC 4 s).1,(elemC 4 s).2.getD [])
end Go.Proofs.Tryz
/- PSem, part 34: as part 25, where what the kit asks speaks of the objects too. -/
namespace Ps
open Go Go.RowKit
section
variable {P : Program}
end
end Ps
/- PSem, part 35: what is known of a call in a world of which nothing is named holds in every world. -/
namespace Ps
open Go Go.RowKit
section
variable {P : Program}
end
end Ps
/- PSem, part 36: what is known of a call in a world of which nothing is named holds in every world: answers and arguments that name no object. -/
namespace Ps
open Go Go.RowKit
section
variable {P : Program}
end
end Ps
/- PSem, part 27: a law over arguments of a bound. -/
namespace Ps
open Go Go.RowKit
section
variable {P : Program}
section
variable {H : Type} {enc : TypeId × Value → H}
end
end
end Ps
/- A call's new row becomes a value of its own. -/
namespace Ps
open Go
section
variable {P : Program}
end
end Ps
/- A call's own row becomes an object. -/
namespace Ps
open Go
section
variable {P : Program}
end
end Ps
/- An argument that is nil is a row of nothing. -/
namespace Ps
open Go
def nilLe (a b:PV):Prop:=a=b∨(a=.nilS∧b=.slice 0 [] none)
theorem nilLe_vc {P:Program} {g:Gh} {w:World} {v:Value} {a b:PV} (h:nilLe a b) (k:VC P g w v a):VC P g w v b:=by
 rcases h with rfl | ⟨rfl,rfl⟩
 ·exact k
 ·rcases k with k | ⟨_,_,_,_,k,_⟩
  ·cases k;exact .inl (.snil _)
  ·cases k
theorem nilLe_own {v:Value} {a b:PV} {i bb:Nat} (h:nilLe a b) (k:ownAt v b i bb):ownAt v a i bb:=by
 rcases h with rfl | ⟨rfl,rfl⟩
 ·exact k
 ·cases k.2.1
inductive NilLe:List PV→List PV→Prop
 | nil:NilLe [] []
 | same (c:PV) {a b:List PV} (h:NilLe a b):NilLe (c::a) (c::b)
 | turn {a b:List PV} (h:NilLe a b):NilLe (.nilS::a) (.slice 0 [] none::b)
theorem NilLe.len {a b:List PV} (h:NilLe a b):a.length=b.length:=by
 induction h with
 | nil=>rfl
 | same c h ih=>simp [ih]
 | turn h ih=>simp [ih]
theorem NilLe.get {a b:List PV} (h:NilLe a b):∀i t,nilLe ((args0 i a).get t) ((args0 i b).get t):=by
 induction h with
 | nil=>exact fun i t=>.inl rfl
 | same c h ih =>
  intro i t
  show nilLe (Env.get ((i,c)::args0 (i+1) _) t) (Env.get ((i,c)::args0 (i+1) _) t)
  rw [Env.get_cons,Env.get_cons]
  split
  ·exact .inl rfl
  ·exact ih _ _
 | turn h ih =>
  intro i t
  show nilLe (Env.get ((i,_)::args0 (i+1) _) t) (Env.get ((i,_)::args0 (i+1) _) t)
  rw [Env.get_cons,Env.get_cons]
  split
  ·exact .inr ⟨rfl,rfl⟩
  ·exact ih _ _
theorem CK.nils {P:Program} {f:Nat} {a b:List PV} {H:PH} {Q:PV→PH→Prop} (h:CK P f b H Q) (hn:NilLe a b):CK P f a H Q:=fun g w vs hs hr =>
 h g w vs (hs.trans hn.len) ⟨hr.h,fun t=>nilLe_vc (hn.get 0 t) (hr.e t),fun t i t' i' bb h1 h2=>hr.ss t i t' i' bb (nilLe_own (hn.get 0 t) h1) (nilLe_own (hn.get 0 t') h2),fun t i bb h1=>hr.sc t i bb (nilLe_own (hn.get 0 t) h1),hr.cc⟩
end Ps
/- What a call made is forgotten; what it wrote stays. -/
namespace Ps
open Go
section
variable {P : Program}
end
end Ps
/- PSem, part 37: a walk of the kit's kind over PSem's invariant; maps that are ranged over, and what is deleted from them. -/
namespace Ps
open Go Go.ChangeMaps
section
variable {P : Program} {tt : TT} {imm : List Nat} {g0 : Gh} {w0 : World} {H0 : PH} {F0 : Nat → Prop} {N : Nat} {g : Gh} {w : World} {a : Act} {E : Env} {H : PH}
/-! ### a map's entries, paired -/
end
end Ps
namespace Go.Proofs.Tryz
open Go Ps Go.ChangeMaps
structure Crd where
 r:List UInt8
 n:List UInt8
 kv:Int
 b:List UInt8
 k:Nat→UInt8
 en:Int
def Crd.cells (c:Crd):List PV:=[.str c.r,.str c.n]++[.int .i64 c.kv,.slice c.b.length (c.b.map bC) none]++keyC c.k++[.int .i64 c.en]
def z83c:PObj:=⟨83,[.str [],.str [],.int .i64 0,.slice 0 [] (some 5)]++List.replicate 32 (.int .u8 0)++[.int .i64 0],0⟩
open Go Ps
structure S4 where
 a:Int
 b:Int
 c:Int
 d:Int
def xorW (x y:Int):Int:=ibits .xor .u64 x y
def S4.out (s:S4):Int:=xorW (xorW (xorW s.a s.b) s.c) s.d
def ttR:TT:=[(3,⟨.int .i64,1,8,[.int .i64 0]⟩),(4,⟨.bool,1,1,[.bool false]⟩),(5,⟨.int .u8,1,1,[.int .u8 0]⟩),(9,⟨.str,1,16,[.str []]⟩),(36,⟨.strct [(9,0),(9,1)],2,32,[.str [],.str []]⟩),(100,⟨.ptr,1,8,[.ptr none]⟩),(26,⟨.int .i64,1,8,[.int .i64 0]⟩),(31,⟨.arr 32 5,32,32,List.replicate 32 (.int .u8 0)⟩),(106,⟨.ptr,1,8,[.ptr none]⟩),(63,⟨.strct [(3,0),(51,1),(55,7),(57,16),(59,23),(61,28)],30,448,[.int .i64 0,.str [],.str [],.str [],.str [],.int .i64 0,.int .i64 0,.str [],.str [],.int .i64 0,.slice 0 [] (some 5),.slice 0 [] (some 5),.str [],.str [],.int .i64 0,.int .i64 0,.str [],.str [],.str [],.str [],.int .i64 0,.slice 0 [] (some 5),.slice 0 [] (some 5),.str [],.str [],.int .i64 0,.slice 0 [] (some 5),.slice 0 [] (some 5),.int .i64 0,.int .i64 0]⟩),(152,⟨.fn,1,8,[.nilF]⟩),(154,⟨.ptr,1,8,[.ptr none]⟩),(155,⟨.strct [(36,0),(83,2)],39,136,[.str [],.str [],.str [],.str [],.int .i64 0,.slice 0 [] (some 5)]++List.replicate 32 (.int .u8 0)++[.int .i64 0]⟩),(159,⟨.strct [(158,0)],1,8,[.undef]⟩),(212,⟨.fn,1,8,[.nilF]⟩),(197,⟨.ptr,1,8,[.ptr none]⟩),(179,⟨.arr 16 5,16,16,List.replicate 16 (.int .u8 0)⟩),(200,⟨.strct [(197,0),(179,1),(105,17),(105,18),(105,19)],20,48,[.ptr none]++List.replicate 16 (.int .u8 0)++[.int .i64 0,.int .i64 0,.int .i64 0]⟩),(184,⟨.int .u32,1,4,[.int .u32 0]⟩),(185,⟨.arr 27 184,27,108,List.replicate 27 (.int .u32 0)⟩),(243,⟨.strct [(179,0),(241,16),(185,19),(235,46)],47,140,List.replicate 16 (.int .u8 0)++[.int .u32 0,.int .i32 0]++List.replicate 29 (.int .u32 0)⟩)]
theorem ttR_ok:ttOk prog ttR=true:=by kernel_rfl
def imm115:List Nat:=[1]
def imm70:List Nat:=[1]
def speckO (k:List UInt8):PObj:=⟨243,k.map bC++([.int .u32 0,.int .i32 0]++List.replicate 29 (.int .u32 0)),0⟩
theorem c115 (k:List UInt8) (hk:k.length=16) (H:PH):CK prog 115 [.agg (k.map bC)] H fun r H'=>r=.ptr (some (H.length,0))∧H'=H++[speckO k]:=by
 match k,hk with
 | [a0,a1,a2,a3,a4,a5,a6,a7,a8,a9,a10,a11,a12,a13,a14,a15],_ =>
  (refine fnS (imm:=imm115) ttR_ok func115 ?_;(conv=>whnf))
  exact ⟨rfl,rfl⟩
def boxO (k:List UInt8) (n:Nat):PObj:=⟨200,[.ptr (some (n,0))]++(k.drop 16).map bC++[.int .i64 0,.int .i64 0,.int .i64 0],0⟩
def D70:Draw:={ imp:=[3,8],win:=[(4,0,1),(5,0,1),(6,0,1),(7,1,1),(8,1,1),(9,2,2)] }
theorem c70 (k:List UInt8) (hk:k.length=32) (H:PH):CK prog 70 [.agg (k.map bC)] H fun r H'=>r=.ptr (some (H.length+1,0))∧H'=H++[speckO (k.take 16),boxO k H.length]:=by
 match k,hk with
 | [a0,a1,a2,a3,a4,a5,a6,a7,a8,a9,a10,a11,a12,a13,a14,a15,b0,b1,b2,b3,b4,b5,b6,b7,b8,b9,b10,b11,b12,b13,b14,b15],_ =>
  (refine fnS (imm:=imm70) ttR_ok func70 ?_;(conv=>whnf))
  refine dO2 D70 [H,H++[speckO [a0,a1,a2,a3,a4,a5,a6,a7,a8,a9,a10,a11,a12,a13,a14,a15]],H++[speckO [a0,a1,a2,a3,a4,a5,a6,a7,a8,a9,a10,a11,a12,a13,a14,a15],boxO [a0,a1,a2,a3,a4,a5,a6,a7,a8,a9,a10,a11,a12,a13,a14,a15,b0,b1,b2,b3,b4,b5,b6,b7,b8,b9,b10,b11,b12,b13,b14,b15] H.length]] (by kernel_rfl) rfl trivial ?_
  conv=>whnf
  iterate 3 (refine dS ?_;(conv=>whnf))
  apply exA
  ·conv=>whnf
   refine cO (c115 [a0,a1,a2,a3,a4,a5,a6,a7,a8,a9,a10,a11,a12,a13,a14,a15] rfl H) ?_
   rintro r H' ⟨rfl,rfl⟩
   conv=>whnf
   exact ⟨rfl,rfl,zqv⟩
  conv=>whnf
  iterate 3 (refine dS2 ?_;(conv=>whnf))
  (refine dS ?_;(conv=>whnf))
  apply exA
  ·conv=>whnf
   refine ⟨rfl,?_,zqv⟩
   exact List.append_assoc _ _ _
  conv=>whnf
  (refine dS ?_;(conv=>whnf))
  refine ⟨?_,rfl⟩
  show PV.ptr (some ((H++[_]).length,0))=_
  rw [zqf];rfl
def ttS:TT:=[(2,⟨.int .i64,1,8,[.int .i64 0]⟩),(3,⟨.int .i64,1,8,[.int .i64 0]⟩),(4,⟨.bool,1,1,[.bool false]⟩),(5,⟨.int .u8,1,1,[.int .u8 0]⟩),(25,⟨.slice 5,1,24,[.slice 0 [] (some 5)]⟩),(106,⟨.ptr,1,8,[.ptr none]⟩),(197,⟨.ptr,1,8,[.ptr none]⟩),(179,⟨.arr 16 5,16,16,List.replicate 16 (.int .u8 0)⟩),(105,⟨.strB [(102,0),(103,0),(2,0)],1,8,[.int .i64 0]⟩),(200,⟨.strct [(197,0),(179,1),(105,17),(105,18),(105,19)],20,48,[.ptr none]++List.replicate 16 (.int .u8 0)++[.int .i64 0,.int .i64 0,.int .i64 0]⟩),(134,⟨.int .u64,1,8,[.int .u64 0]⟩),(192,⟨.slice 25,1,24,[.slice 0 [] (some 25)]⟩),(203,⟨.ptr,1,8,[.ptr none]⟩),(184,⟨.int .u32,1,4,[.int .u32 0]⟩),(230,⟨.slice 184,1,24,[.slice 0 [] (some 184)]⟩)]
theorem ttS_ok:ttOk prog ttS=true:=by kernel_rfl
def imm71:List Nat:=[]
theorem c116 {H:PH} {id off:Nat} {o:PObj} {n:Int} (m:Int) (ho:H[id]? = some o) (hc:o.cs[off]? = some (.int .i64 n)) :
  CK prog 116 [.ptr (some (id,off)),.int .i64 m] H fun r H'=>r=.int .i64 (IntKind.i64.wrap (n+m))∧H'=H.set id ⟨o.T,setCells off [.int .i64 (IntKind.i64.wrap (n+m))] o.cs,o.ver+1⟩ :=
 callOk_add func116 (by kernel_rfl) (by kernel_rfl) (by kernel_rfl) .i64 (by kernel_rfl) m ho hc
theorem c71 {H:PH} {id off:Nat} {o:PObj} {n:Int} (m:Int) (ho:H[id]? = some o) (hc:o.cs[off]? = some (.int .i64 n)) :
  CK prog 71 [.ptr (some (id,off)),.int .i64 m] H fun r H'=>r=.int .i64 (IntKind.i64.wrap (n+m))∧H'=H.set id ⟨o.T,setCells off [.int .i64 (IntKind.i64.wrap (n+m))] o.cs,o.ver+1⟩:=by
 (refine fnS (imm:=imm71) ttS_ok func71 ?_;(conv=>whnf))
 refine cO (c116 m ho hc) ?_
 rintro _ _ ⟨rfl,rfl⟩
 conv=>whnf
 exact ⟨rfl,rfl⟩
def ow (b:List UInt8):PV:=.slice b.length (b.map bC) (some 5)
def boxS (sid:Nat) (sp:List UInt8) (s o r:Int) (v:Nat):PObj:=⟨200,[.ptr (some (sid,0))]++sp.map bC++[.int .i64 s,.int .i64 o,.int .i64 r],v⟩
set_option maxHeartbeats 2000000
def rot32S (k:Int):Int:=ibits .and .u64 (IntKind.u64.wrap k) 31
def rot32 (x k:Int):Int:=ibits .or .u32 (ishl .u32 x (rot32S k)) (ishr .u32 x (IntKind.u64.wrap (32 - rot32S k)))
def add32 (x y:Int):Int:=IntKind.u32.wrap (x+y)
def xor32 (x y:Int):Int:=ibits .xor .u32 x y
def orB (x:Int) (c:UInt8) (s:Int):Int:=ibits .or .u32 x (ishl .u32 (IntKind.u32.wrap (c.toNat:Int)) s)
def wN (k:List UInt8):Nat→S4
 | 0=>⟨0,0,0,0⟩
 | i+1=>match i / 4 with
  | 0=>{ wN k i with a:=orB (wN k i).a (k.getD i 0) (8*((i % 4:Nat):Int)) }
  | 1=>{ wN k i with b:=orB (wN k i).b (k.getD i 0) (8*((i % 4:Nat):Int)) }
  | 2=>{ wN k i with c:=orB (wN k i).c (k.getD i 0) (8*((i % 4:Nat):Int)) }
  | _=>{ wN k i with d:=orB (wN k i).d (k.getD i 0) (8*((i % 4:Nat):Int)) }
def spN (k:List UInt8):Nat→S4
 | 0=>wN k 16
 | i+1=>⟨xor32 (rot32 (spN k i).a 3) (xor32 (add32 (spN k i).a (rot32 (spN k i).b (-8))) (IntKind.u32.wrap (i:Int))),(spN k i).c,(spN k i).d,xor32 (add32 (spN k i).a (rot32 (spN k i).b (-8))) (IntKind.u32.wrap (i:Int))⟩
def u32C (x:Int):PV:=.int .u32 x
def keyO (k:List UInt8) (d m s:Int) (l:List Int) (md:Int) (v:Nat):PObj:=⟨243,(k.map bC++[.int .u32 d,.int .i32 m,.int .u32 s])++l.map u32C++[.int .u32 md],v⟩
def spW (k:List UInt8):List Int:=(List.range 27).map fun j=>(spN k j).a
set_option maxHeartbeats 1000000
def KeySt (k:List UInt8) (o:PObj):Prop:=(∃v,o=keyO k 0 0 0 (List.replicate 27 0) 0 v)∨(∃v,o=keyO k 1 0 0 (spW k) 1 v)
set_option maxHeartbeats 1600000
open Go
end Go.Proofs.Tryz
/- Calls that were deferred; and a walk of the kit's over what the calculus knows. -/
namespace Ps
open Go
section
variable {P : Program} {tt : TT} {imm : List Nat}
end
section
variable {P : Program}
end
end Ps
set_option maxHeartbeats 3000000
namespace Go.Proofs.Tryz
open Go Ps
set_option maxHeartbeats 1000000
set_option maxHeartbeats 2000000
set_option maxHeartbeats 4000000
set_option maxHeartbeats 2000000
set_option maxHeartbeats 1000000
/-! How the heap goes on while boxes seal and open. -/
def keyT:Nat:=(keyO [] 0 0 0 [] 0 0).T
def boxT:Nat:=(boxS 0 [] 0 0 0 0).T
theorem KeySt.T {k:List UInt8} {o:PObj} (h:KeySt k o):o.T=keyT:=by rcases h with ⟨v,rfl⟩ | ⟨v,rfl⟩ <;> rfl
def BoxAt (H:PH) (bid:Nat) (key:List UInt8):Prop:=key.length=32∧∃sid s o r v so,H[bid]? = some (boxS sid (key.drop 16) s o r v)∧H[sid]? = some so∧KeySt (key.take 16) so
structure Evo (S:Nat→Prop) (H H':PH):Prop where
 len:H.length≤H'.length
 box:∀bid key,BoxAt H bid key→BoxAt H' bid key
 same:∀(id:Nat) (o:PObj),H[id]? = some o→¬S id→o.T≠keyT→o.T≠boxT→H'[id]? = some o
theorem Evo.trans {S:Nat→Prop} {H H1 H2:PH} (h:Evo S H H1) (k:Evo S H1 H2):Evo S H H2 :=
 ⟨Nat.le_trans h.len k.len,fun b key hb=>k.box b key (h.box b key hb),fun id o ho hs h1 h2=>k.same id o (h.same id o ho hs h1 h2) hs h1 h2⟩
theorem Evo.mono {S S':Nat→Prop} {H H':PH} (h:Evo S H H') (hs:∀id,S id→S' id):Evo S' H H':=⟨h.len,h.box,fun id o ho hn=>h.same id o ho fun hh=>hn (hs id hh)⟩
theorem Evo.app {S:Nat→Prop} (H l:PH):Evo S H (H++l) :=
 have g:∀(id:Nat) (o:PObj),H[id]? = some o→(H++l)[id]? = some o:=fun id o h=>by rw [zq2 (zq1.1 h).1];exact h
 ⟨by simp,fun b key ⟨hk,sid,s,o,r,v,so,h1,h2,h3⟩=>⟨hk,sid,s,o,r,v,so,g _ _ h1,g _ _ h2,h3⟩,fun id o h _ _ _=>g id o h⟩
theorem Evo.setOther {S:Nat→Prop} {H:PH} {id:Nat} {o o':PObj} (h:H[id]? = some o) (hs:S id) (h1:o.T≠keyT) (h2:o.T≠boxT):Evo S H (H.set id o'):=by
 refine ⟨by simp,fun b key ⟨hkl,sid2,s2,o2,r2,v2,so2,g1,g2,g3⟩=>?_,fun id2 x hx hn _ _=>?_⟩
 ·have e1:id≠b:=fun e=>by
   subst e
   rw [h] at g1;cases g1
   exact h2 rfl
  have e2:id≠sid2:=fun e=>by
   subst e
   rw [h] at g2;cases g2
   exact h1 g3.T
  exact ⟨hkl,sid2,s2,o2,r2,v2,so2,by rw [zqj e1];exact g1,by rw [zqj e2];exact g2,g3⟩
 ·have e:id≠id2:=fun e=>hn (e▸hs)
  rw [zqj e];exact hx
/-! What is sealed, and opened. -/
theorem speck_key (k:List UInt8):KeySt k (speckO k):=by
 refine .inl ⟨0,?_⟩
 show PObj.mk _ (k.map bC++([.int .u32 0,.int .i32 0]++List.replicate 29 (.int .u32 0))) 0=PObj.mk _ ((k.map bC++[.int .u32 0,.int .i32 0,.int .u32 0])++(List.replicate 27 (0:Int)).map u32C++[.int .u32 0]) 0
 rw [List.append_assoc,List.append_assoc]
 rfl
end Go.Proofs.Tryz
/- PSem, part 33: counts of writes are ours to name. -/
namespace Ps
open Go
end Ps
namespace Go.Proofs.Tryz
open Go Ps
structure Tk where
 r:List UInt8
 n:List UInt8
 kv:Int
 b:List UInt8
def tickD (s:Option (List UInt8)):Tk:=⟨(princC s).2.1,(princC s).2.2,(intC (princC s).1).2,(octC (intC (princC s).1).1).2⟩
def tickC (s:Option (List UInt8)):Option (List UInt8)×Tk:=((elemC 97 s).1,tickD (elemC 97 s).2)
def mZ:Msg:=⟨0,[],[],[],[],0,0,[],[],0,[],some 5,[],some 5,[],[],0,0,[],[],[],[],0,[],some 5,[],some 5,[],[],0,[],some 5,[],some 5,0,0⟩
def tkAs (s:Option (List UInt8)):Msg:={ mZ with kind:=1,a1:=(princC s).2.1,a2:=(princC s).2.2,a3:=(princC (princC s).1).2.1,a4:=(princC (princC s).1).2.2,aTill:=(intC (princC (princC s).1).1).2,aNonce:=(intC (intC (princC (princC s).1).1).1).2 }
def tkTgs (s:Option (List UInt8)):Msg:={ mZ with kind:=2,t1:=(tickC s).2.r,t2:=(tickC s).2.n,tKv:=(tickC s).2.kv,tB:=(tickC s).2.b,tBo:=none,tAu:=(octC (tickC s).1).2,tAuo:=none,t3:=(princC (octC (tickC s).1).1).2.1,t4:=(princC (octC (tickC s).1).1).2.2,tTill:=(intC (princC (octC (tickC s).1).1).1).2,tNonce:=(intC (intC (princC (octC (tickC s).1).1).1).1).2 }
def tkRep (s:Option (List UInt8)):Msg:={ mZ with kind:=3,r1:=(princC s).2.1,r2:=(princC s).2.2,r3:=(tickC (princC s).1).2.r,r4:=(tickC (princC s).1).2.n,rKv:=(tickC (princC s).1).2.kv,rB:=(tickC (princC s).1).2.b,rBo:=none,rBl:=(octC (tickC (princC s).1).1).2,rBlo:=none }
def tkAp (s:Option (List UInt8)):Msg:={ mZ with kind:=4,p1:=(tickC s).2.r,p2:=(tickC s).2.n,pKv:=(tickC s).2.kv,pB:=(tickC s).2.b,pBo:=none,pAu:=(octC (tickC s).1).2,pAuo:=none }
def tkFail (s:Option (List UInt8)):Msg:={ mZ with kind:=5,fErr:=(intC s).2,fNonce:=(intC (intC s).1).2 }
def takenT (t:UInt8) (s:Option (List UInt8)):Msg :=
 if t.toNat=106 then tkAs s else if t.toNat=108 then tkTgs s else if t.toNat=107 then tkRep s else if t.toNat=110 then tkAp s else if t.toNat=126 then tkFail s else mZ
def takenB:List UInt8→Msg
 | []=>mZ
 | t::r=>takenT t (elemC t (some (t::r))).2
set_option maxHeartbeats 2000000
theorem Upd.over {X Y:Nat→Prop} {H H1 H2:PH} (h:Upd X H H1) (k:Upd Y H1 H2) (hy:∀i,i<H.length→Y i→X i):Upd X H H2 :=
 ⟨Nat.le_trans h.1 k.1,fun i hi hx=>(k.2 i (Nat.lt_of_lt_of_le hi h.1) fun hY=>hx (hy i hi hY)).trans (h.2 i hi hx)⟩
theorem curAt.set_ne {H:PH} {c j:Nat} {s:Option (List UInt8)} (h:curAt H c s) (hj:j≠c) (o:PObj):curAt (H.set j o) c s:=by
 obtain ⟨x,v,h1,h2⟩:=h
 exact ⟨x,v,by rw [zqj hj];exact h1,h2⟩
theorem c133 (b:List UInt8) (tag:UInt8) (hb:b.length≤140737488355328) (H:PH):CK prog 133 [sl b,bC tag] H fun r H' =>
  ∃d,r=.agg [.ptr (some (d,0))]∧H.length≤d∧Upd (fun _=>False) H H'∧curAt H' d (elemC tag (some b)).2:=by
 (refine fnS (imm:=imm133) ttC_ok func133 ?_;(conv=>whnf))
 refine cO (c170 b hb _) ?_
 rintro _ _ ⟨rfl,rfl⟩
 conv=>whnf
 obtain ⟨H1,hH1⟩:∃H1,H1=H++[PObj.mk 215 [.ptr none] 0]:=⟨_,rfl⟩
 have hl1:H1.length=H.length+1:=by rw [hH1];simp
 have h0:H1[H.length]? = some ⟨215,[.ptr none],0⟩:=by rw [hH1];exact gL _ _
 have u1:Upd (fun _=>False) H H1:=by rw [hH1];exact (Upd.refl H).push _
 rw [←hH1]
 have hcur:curAt (H1++[PObj.mk 265 [sl b,.bool false] 0]) H1.length (some b):=⟨sl b,0,gL _ _,fun l hl=>by cases hl;rfl⟩
 refine cO (c171 H1.length tag (some b) (H1++[PObj.mk 265 [sl b,.bool false] 0]) hcur (fun l hl=>by cases hl;exact hb)) ?_
 rintro _ H2 ⟨d,rfl,k1,k2,k3,k4⟩
 have hl2:(H1++[PObj.mk 265 [sl b,.bool false] 0]).length=H.length+2:=by simp [hl1]
 have u2:Upd (fun _=>False) H (H1++[⟨265,[sl b,.bool false],0⟩]):=u1.push _
 have u3:Upd (fun _=>False) H H2:=u2.over k2 (fun i hi e=>by have e:i=H1.length:=e;omega)
 have hat:H2[H.length]? = some ⟨215,[.ptr none],0⟩:=by
  rw [k2.2 H.length (by omega) (fun e=>by have e:H.length=H1.length:=e;omega),zq2 (by omega)]
  exact h0
 conv=>whnf
 ((conv in (_[_]?)=>tactic=>exact hat);(conv=>whnf))
 ((conv in (_[_]?)=>tactic=>exact gS hat);(conv=>whnf))
 exact ⟨d,rfl,by omega,u3.set (.inr (zqn _)) _,k4.set_ne (by omega) _⟩
theorem c134 (d:Nat) (s:Option (List UInt8)) (H:PH) (hc:curAt H d s) (hl:∀l,s=some l→l.length≤140737488355328) :
  CK prog 134 [.agg [.ptr (some (d,0))]] H fun r H'=>r=.agg [.str (princC s).2.1,.str (princC s).2.2]∧Upd (·=d) H H'∧curAt H' d (princC s).1:=by
 have hd:=hc.lt
 have g0:=elemC_len (tag:=48) hl
 have g1:∀l,(elemC 48 s).2=some l→l.length≤140737488355328:=fun l h=>(g0.2 l h).1
 have g2:=(elemC_len (tag:=27) g1).1
 (refine fnS (imm:=imm134) ttC_ok func134 ?_;(conv=>whnf))
 obtain ⟨H1,hH1⟩:∃H1,H1=H++[PObj.mk 36 [.str [],.str []] 0]:=⟨_,rfl⟩
 have hl1:H1.length=H.length+1:=by rw [hH1];simp
 have h0:H1[H.length]? = some ⟨36,[.str [],.str []],0⟩:=by rw [hH1];exact gL _ _
 have u1:Upd (·=d) H H1:=by rw [hH1];exact (Upd.refl H).push _
 have hc1:curAt H1 d s:=hc.keep (X:=fun _=>False) (by rw [hH1];exact (Upd.refl H).push _) (fun f=>f)
 rw [←hH1]
 refine cO (c171 d 48 s H1 hc1 hl) ?_
 rintro _ H2 ⟨e,rfl,k1,k2,k3,k4⟩
 conv=>whnf
 refine cO (c172 e _ H2 k4 g1) ?_
 rintro _ H3 ⟨rfl,k5,k6⟩
 conv=>whnf
 refine cO (c172 e _ H3 k6 g2) ?_
 rintro _ H4 ⟨rfl,k7,k8⟩
 have u4:Upd (fun i=>i=d∨i=e) H1 H4:=((k2.mono fun i _ h=>.inl h).trans (k5.mono fun i _ h=>.inr h)).trans (k7.mono fun i _ h=>.inr h)
 have hat:H4[H.length]? = some ⟨36,[.str [],.str []],0⟩:=by
  rw [u4.2 H.length (by omega) (fun h=>by rcases h with h | h <;> omega)]
  exact h0
 have u5:Upd (·=d) H H4:=u1.over u4 (fun i hi h=>by rcases h with h | h;exact h;omega)
 have hc4:curAt H4 d (elemC 48 s).1:=(k3.keep k5 (fun h=>by omega)).keep k7 (fun h=>by omega)
 conv=>whnf
 ((conv in (_[_]?)=>tactic=>exact hat);(conv=>whnf))
 ((conv in (_[_]?)=>tactic=>exact gS hat);(conv=>whnf))
 exact ⟨rfl,u5.set (.inr (zqn _)) _,hc4.set_ne (by omega) _⟩
theorem get_mid (H:PH) (o o':PObj):(H++[o]++[o'])[H.length]? = some o:=by
 rw [zq2 (by simp)];exact gL _ _
theorem getD_len {o:Option (List UInt8)} {B:Nat} (h:∀l,o=some l→l.length≤B∧l.length≤65535):(o.getD []).length≤65535:=by
 cases o with
 | none=>exact Nat.zero_le _
 | some l=>exact (h l rfl).2
set_option maxHeartbeats 4000000
def ttN:TT:=[(3,⟨.int .i64,1,8,[.int .i64 0]⟩),(4,⟨.bool,1,1,[.bool false]⟩),(5,⟨.int .u8,1,1,[.int .u8 0]⟩),(9,⟨.str,1,16,[.str []]⟩),(25,⟨.slice 5,1,24,[.slice 0 [] (some 5)]⟩),(36,⟨.strct [(9,0),(9,1)],2,32,[.str [],.str []]⟩),(51,⟨.strct [(36,0),(36,2),(3,4),(3,5)],6,80,[.str [],.str [],.str [],.str [],.int .i64 0,.int .i64 0]⟩),(53,⟨.strct [(36,0),(3,2),(25,3)],4,64,[.str [],.str [],.int .i64 0,.slice 0 [] (some 5)]⟩),(55,⟨.strct [(53,0),(25,4),(36,5),(3,7),(3,8)],9,136,[.str [],.str [],.int .i64 0,.slice 0 [] (some 5),.slice 0 [] (some 5),.str [],.str [],.int .i64 0,.int .i64 0]⟩),(57,⟨.strct [(36,0),(53,2),(25,6)],7,120,[.str [],.str [],.str [],.str [],.int .i64 0,.slice 0 [] (some 5),.slice 0 [] (some 5)]⟩),(59,⟨.strct [(53,0),(25,4)],5,88,[.str [],.str [],.int .i64 0,.slice 0 [] (some 5),.slice 0 [] (some 5)]⟩),(26,⟨.int .i64,1,8,[.int .i64 0]⟩),(61,⟨.strct [(26,0),(3,1)],2,16,[.int .i64 0,.int .i64 0]⟩),(63,⟨.strct [(3,0),(51,1),(55,7),(57,16),(59,23),(61,28)],30,448,[.int .i64 0,.str [],.str [],.str [],.str [],.int .i64 0,.int .i64 0,.str [],.str [],.int .i64 0,.slice 0 [] (some 5),.slice 0 [] (some 5),.str [],.str [],.int .i64 0,.int .i64 0,.str [],.str [],.str [],.str [],.int .i64 0,.slice 0 [] (some 5),.slice 0 [] (some 5),.str [],.str [],.int .i64 0,.slice 0 [] (some 5),.slice 0 [] (some 5),.int .i64 0,.int .i64 0]⟩),(150,⟨.fn,1,8,[.nilF]⟩),(213,⟨.ptr,1,8,[.ptr none]⟩),(215,⟨.strct [(213,0)],1,8,[.ptr none]⟩)]
theorem ttN_ok:ttOk prog ttN=true:=by kernel_rfl
def imm136:List Nat:=[1]
def imm87:List Nat:=[]
def imm86:List Nat:=[4]
def imm44:List Nat:=[]
structure TakS (T:Nat) (zc:List PV) (B K:PH) (r a e q:Nat) (s:Option (List UInt8)) (cells:List PV) (ver:Nat):Prop where
 z:K[r]? = some ⟨T,zc,0⟩
 c:K[a]? = some ⟨215,[.ptr (some (e,0))],1⟩
 p:K[q]? = some ⟨T,cells,ver⟩
 cur:curAt K e s
 up:Upd (·=e) B K
 lb:B.length≤q
 n1:r≠e
 n2:a≠e
 n3:q≠e
 n4:q≠a
 n5:q≠r
theorem TakS.call {T:Nat} {zc:List PV} {B K K':PH} {r a e q:Nat} {s s':Option (List UInt8)} {cells:List PV} {ver:Nat} (h:TakS T zc B K r a e q s cells ver) (u:Upd (·=e) K K') (c:curAt K' e s') :
  TakS T zc B K' r a e q s' cells ver:=by
 have lt:∀{i:Nat} {o:PObj},K[i]? = some o→i<K.length:=fun h=>(zq1.1 h).1
 exact ⟨(u.2 _ (lt h.z) h.n1).trans h.z,(u.2 _ (lt h.c) h.n2).trans h.c,(u.2 _ (lt h.p) h.n3).trans h.p,c,h.up.trans u,h.lb,h.n1,h.n2,h.n3,h.n4,h.n5⟩
theorem TakS.store {T:Nat} {zc:List PV} {B K:PH} {r a e q:Nat} {s:Option (List UInt8)} {cells:List PV} {ver:Nat} (h:TakS T zc B K r a e q s cells ver) (cells':List PV) (ver':Nat) :
  TakS T zc B (K.set q ⟨T,cells',ver'⟩) r a e q s cells' ver':=by
 refine ⟨?_,?_,gS h.p,h.cur.set_ne h.n3 _,h.up.set (.inr h.lb) _,h.lb,h.n1,h.n2,h.n3,h.n4,h.n5⟩
 ·rw [zqj h.n5];exact h.z
 ·rw [zqj h.n4];exact h.c
theorem c136 (d:Nat) (s:Option (List UInt8)) (H:PH) (hc:curAt H d s) (hl:∀l,s=some l→l.length≤140737488355328) :
  CK prog 136 [.agg [.ptr (some (d,0))]] H fun r H'=>r=.agg [.str (tickC s).2.r,.str (tickC s).2.n,.int .i64 (tickC s).2.kv,sl (tickC s).2.b]∧Upd (·=d) H H'∧curAt H' d (tickC s).1:=by
 have hd:=hc.lt
 have g0:=elemC_len (tag:=97) hl
 have hs0:∀l,(elemC 97 s).2=some l→l.length≤140737488355328:=fun l h=>(g0.2 l h).1
 have hs1:=(elemC_len (tag:=48) hs0).1
 have hs2:=intC_len hs1
 (refine fnS (imm:=imm136) ttN_ok func136 ?_;(conv=>whnf))
 obtain ⟨H1,hH1⟩:∃H1,H1=H++[PObj.mk 53 [.str [],.str [],.int .i64 0,.slice 0 [] (some 5)] 0]:=⟨_,rfl⟩
 have hl1:H1.length=H.length+1:=by rw [hH1];simp
 have h0:H1[H.length]? = some ⟨53,[.str [],.str [],.int .i64 0,.slice 0 [] (some 5)],0⟩:=by rw [hH1];exact gL _ _
 have u1:Upd (·=d) H H1:=by rw [hH1];exact (Upd.refl H).push _
 have hc1:curAt H1 d s:=hc.keep (X:=fun _=>False) (by rw [hH1];exact (Upd.refl H).push _) (fun f=>f)
 rw [←hH1]
 refine cO (c171 d 97 s H1 hc1 hl) ?_
 rintro _ H2 ⟨e,rfl,k1,k2,k3,k4⟩
 have hle:=k4.lt
 have uB:Upd (·=d) H H2:=u1.trans k2
 conv=>whnf
 ((conv in (_[_]?)=>tactic=>exact gL _ _);(conv=>whnf))
 obtain ⟨H3,hH3⟩:∃H3,H3=(H2++[PObj.mk 215 [.ptr none] 0]).set H2.length (PObj.mk 215 [.ptr (some (e,0))] 1):=⟨_,rfl⟩
 have hH3':H3=H2++[PObj.mk 215 [.ptr (some (e,0))] 1]:=by rw [hH3,sL]
 have u3:Upd (·=e) H2 H3:=by rw [hH3'];exact (Upd.refl H2).push _
 have h3c:H3[H2.length]? = some ⟨215,[.ptr (some (e,0))],1⟩:=by rw [hH3'];exact gL _ _
 have h3e:curAt H3 e (elemC 97 s).2:=k4.keep (X:=fun _=>False) (by rw [hH3'];exact (Upd.refl H2).push _) (fun f=>f)
 have h3z:H3[H.length]? = some ⟨53,[.str [],.str [],.int .i64 0,.slice 0 [] (some 5)],0⟩:=by
  rw [hH3',zq2 (by omega),k2.2 _ (by omega) (by omega)];exact h0
 have h3l:H3.length=H2.length+1:=by rw [hH3'];simp
 subst hH3
 ((conv in (_[_]?)=>tactic=>exact h3c);(conv=>whnf))
 refine cO (c134 e _ _ h3e hs0) ?_
 rintro _ K1 ⟨rfl,u4,g4⟩
 have D1:TakS 53 [.str [],.str [],.int .i64 0,.slice 0 [] (some 5)] H2 ((K1++[PObj.mk 53 [.str [],.str [],.int .i64 0,.slice 0 [] (some 5)] 0]).set K1.length ⟨53,[.str (princC (elemC 97 s).2).2.1,.str (princC (elemC 97 s).2).2.2,.int .i64 0,.slice 0 [] (some 5)],1⟩) H.length H2.length e K1.length (princC (elemC 97 s).2).1 [.str (princC (elemC 97 s).2).2.1,.str (princC (elemC 97 s).2).2.2,.int .i64 0,.slice 0 [] (some 5)] 1:=by
  have hk:H2.length+1≤K1.length:=Nat.le_trans (Nat.le_of_eq h3l.symm) u4.1
  rw [sL]
  refine ⟨?_,?_,gL _ _,g4.keep (X:=fun _=>False) ((Upd.refl K1).push _) (fun f=>f),(u3.trans u4).push _,by omega,by omega,by omega,by omega,by omega,by omega⟩
  ·rw [zq2 (by omega),u4.2 _ (Nat.lt_of_lt_of_le (show H.length<H2.length+1 by omega) (Nat.le_of_eq h3l.symm)) (by omega)];exact h3z
  ·rw [zq2 (by omega),u4.2 _ (Nat.lt_of_lt_of_le (show H2.length<H2.length+1 by omega) (Nat.le_of_eq h3l.symm)) (by omega)];exact h3c
 conv=>whnf
 ((conv in (_[_]?)=>tactic=>exact gL _ _);(conv=>whnf))
 ((conv in (_[_]?)=>tactic=>exact D1.c);(conv=>whnf))
 refine cO (c135 e _ _ D1.cur hs1) ?_
 rintro _ K2 ⟨rfl,u5,g5⟩
 have D2:=D1.call u5 g5
 conv=>whnf
 ((conv in (_[_]?)=>tactic=>exact D2.p);(conv=>whnf))
 have D3:=D2.store [.str (princC (elemC 97 s).2).2.1,.str (princC (elemC 97 s).2).2.2,.int .i64 (intC (princC (elemC 97 s).2).1).2,.slice 0 [] (some 5)] 2
 ((conv in (_[_]?)=>tactic=>exact D3.c);(conv=>whnf))
 refine cO (c137 e _ _ D3.cur hs2) ?_
 rintro _ K4 ⟨rfl,u6,g6,_⟩
 have D4:=D3.call u6 g6
 conv=>whnf
 ((conv in (_[_]?)=>tactic=>exact D4.p);(conv=>whnf))
 have D5:=D4.store [.str (princC (elemC 97 s).2).2.1,.str (princC (elemC 97 s).2).2.2,.int .i64 (intC (princC (elemC 97 s).2).1).2,sl (octC (intC (princC (elemC 97 s).2).1).1).2] 3
 ((conv in (_[_]?)=>tactic=>exact D5.p);(conv=>whnf))
 ((conv in (_[_]?)=>tactic=>exact D5.z);(conv=>whnf))
 ((conv in (_[_]?)=>tactic=>exact gS D5.z);(conv=>whnf))
 have uF:=uB.over D5.up (fun i hi h=>by omega)
 exact ⟨rfl,uF.set (.inr (zqn _)) _,(k3.keep D5.up (by omega)).set_ne (by omega) _⟩
theorem sl_get0 (t:UInt8) (b:List UInt8):∀(j:Nat) (c:PV),[bC t][j]? = some c→((t::b).map bC)[0*1+j]? = some c:=by
 intro j c hj
 match j with
 | 0=>exact hj
 | j+1=>simp at hj
theorem get_mid_set (H:PH) (o o' o'':PObj):((H++[o]++[o']).set (H++[o]).length o'')[H.length]? = some o:=by
 rw [sL];exact get_mid _ _ _
theorem c87x (b:List UInt8) (hb:b.length≤140737488355328) (H:PH):CK prog 87 [sl b] H fun r H'=>r=.agg (takenB b).d.cells∧∃ext,H'=H++ext:=by
 (refine fnS (imm:=imm87) ttN_ok func87 ?_;(conv=>whnf))
 ((conv in (_[_]?)=>tactic=>exact gL _ _);(conv=>whnf))
 cases b with
 | nil =>
  refine ⟨fun _=>?_,fun h=>absurd rfl h⟩
  conv=>whnf
  ((conv in (_[_]?)=>tactic=>exact gS (gL _ _));(conv=>whnf))
  ((conv in (_[_]?)=>tactic=>exact get_mid_set _ _ _ _);(conv=>whnf))
  ((conv in (_[_]?)=>tactic=>exact gS (get_mid_set _ _ _ _));(conv=>whnf))
  exact ⟨rfl,((((Ext.refl H).push _).push _).set (by simp) _).set (zqn _) _⟩
 | cons t b =>
  refine ⟨fun h=>absurd h (by simp <;> omega),fun _=>?_⟩
  conv=>whnf
  obtain ⟨HA,hHA⟩:∃HA,HA=H++[PObj.mk 63 mZ.cells 0]:=⟨_,rfl⟩
  obtain ⟨H1,hH1⟩:∃H1,H1=(HA++[PObj.mk 63 mZ.cells 0]).set HA.length (PObj.mk 63 mZ.cells 1):=⟨_,rfl⟩
  have hlA:HA.length=H.length+1:=by rw [hHA];simp
  have hH1':H1=HA++[PObj.mk 63 mZ.cells 1]:=by rw [hH1,sL]
  have hl1:H1.length=H.length+2:=by rw [hH1'];simp [hlA]
  have h1r:H1[H.length]? = some ⟨63,mZ.cells,0⟩:=by rw [hH1',zq2 (by omega),hHA];exact gL _ _
  have h1q:H1[HA.length]? = some ⟨63,mZ.cells,1⟩:=by rw [hH1'];exact gL _ _
  have u1:Upd (fun _=>False) H H1:=by rw [hH1',hHA];exact ((Upd.refl H).push _).push _
  refine ⟨⟨by decide,by first | (simp;done) | (simp;omega)⟩,[bC t],sl_get0 t b,?_⟩
  conv=>whnf
  subst hH1
  subst hHA
  refine cO (c133 (t::b) t hb _) ?_
  rintro _ H2 ⟨e,rfl,k1,k2,k3⟩
  have k1:((H++[PObj.mk 63 mZ.cells 0]++[PObj.mk 63 mZ.cells 0]).set (H++[PObj.mk 63 mZ.cells 0]).length (PObj.mk 63 mZ.cells 1)).length≤e:=k1
  rw [hl1] at k1
  have k2:Upd (fun _=>False) ((H++[PObj.mk 63 mZ.cells 0]++[PObj.mk 63 mZ.cells 0]).set (H++[PObj.mk 63 mZ.cells 0]).length (PObj.mk 63 mZ.cells 1)) H2:=k2
  have hle:=k3.lt
  have hs0:∀l,(elemC t (some (t::b))).2=some l→l.length≤140737488355328:=fun l h=>((elemC_len (tag:=t) (fun l h=>by cases h;exact hb)).2 l h).1
  show _
  have e0:takenB (t::b)=takenT t (elemC t (some (t::b))).2:=rfl
  rw [e0]
  generalize (elemC t (some (t::b))).2=s at hs0 k3
  have D0:TakS 63 mZ.cells H ((H2++[PObj.mk 215 [.ptr none] 0]).set H2.length (PObj.mk 215 [.ptr (some (e,0))] 1)) H.length H2.length e (H++[PObj.mk 63 mZ.cells 0]).length s mZ.cells 1:=by
   rw [sL]
   have hk:H.length+2≤H2.length:=Nat.le_trans (Nat.le_of_eq hl1.symm) k2.1
   refine ⟨?_,gL _ _,?_,k3.keep (X:=fun _=>False) ((Upd.refl H2).push _) (fun f=>f),((u1.over k2 (fun _ _ h=>h)).push _).mono (fun i _ h=>h.elim),by omega,by omega,by omega,by omega,by omega,by omega⟩
   ·rw [zq2 (by omega),k2.2 _ (by omega) (fun f=>f)];exact h1r
   ·rw [zq2 (by omega),k2.2 _ (by omega) (fun f=>f)];exact h1q
  have fin:∀{K:PH} {s':Option (List UInt8)} {cells:List PV} {ver:Nat} (D:TakS 63 mZ.cells H K H.length H2.length e (H++[PObj.mk 63 mZ.cells 0]).length s' cells ver) (o:PObj),∃ext,K.set H.length o=H++ext:=fun D o =>
   Upd.ext ((D.up.mono (Y:=fun _=>False) (fun i hi h=>by have h:i=e:=h;omega)).set (.inr (zqn _)) o)
  conv=>whnf
  ((conv in (_[_]?)=>tactic=>exact gL _ _);(conv=>whnf))
  refine ⟨⟨by decide,by first | (simp;done) | (simp;omega)⟩,[bC t],sl_get0 t b,?_⟩
  conv=>whnf
  refine ⟨fun h1=>?_,fun h1=>?_⟩
  ·have h1:(t.toNat:Int)=106:=h1
   have et:takenT t s=tkAs s:=by unfold takenT;rw [zqp (by omega)]
   rw [et]
   conv=>whnf
   ((conv in (_[_]?)=>tactic=>exact D0.p);(conv=>whnf))
   have E0:=D0.store ({ mZ with kind:=1 }:Msg).cells 2
   ((conv in (_[_]?)=>tactic=>exact E0.c);(conv=>whnf))
   have l0:∀l,s=some l→l.length≤140737488355328:=hs0
   refine cO (c134 e _ _ E0.cur l0) ?_
   rintro _ K0 ⟨rfl,u0,g0⟩
   have F0:=E0.call u0 g0
   conv=>whnf
   ((conv in (_[_]?)=>tactic=>exact F0.p);(conv=>whnf))
   have E1:=F0.store ({ mZ with kind:=1,a1:=(princC s).2.1,a2:=(princC s).2.2 }:Msg).cells 3
   ((conv in (_[_]?)=>tactic=>exact E1.c);(conv=>whnf))
   have l1:∀l,(princC s).1=some l→l.length≤140737488355328:=(elemC_len (tag:=48) l0).1
   refine cO (c134 e _ _ E1.cur l1) ?_
   rintro _ K1 ⟨rfl,u1,g1⟩
   have F1:=E1.call u1 g1
   conv=>whnf
   ((conv in (_[_]?)=>tactic=>exact F1.p);(conv=>whnf))
   have E2:=F1.store ({ mZ with kind:=1,a1:=(princC s).2.1,a2:=(princC s).2.2,a3:=(princC (princC s).1).2.1,a4:=(princC (princC s).1).2.2 }:Msg).cells 4
   ((conv in (_[_]?)=>tactic=>exact E2.c);(conv=>whnf))
   have l2:∀l,(princC (princC s).1).1=some l→l.length≤140737488355328:=(elemC_len (tag:=48) l1).1
   refine cO (c135 e _ _ E2.cur l2) ?_
   rintro _ K2 ⟨rfl,u2,g2⟩
   have F2:=E2.call u2 g2
   conv=>whnf
   ((conv in (_[_]?)=>tactic=>exact F2.p);(conv=>whnf))
   have E3:=F2.store ({ mZ with kind:=1,a1:=(princC s).2.1,a2:=(princC s).2.2,a3:=(princC (princC s).1).2.1,a4:=(princC (princC s).1).2.2,aTill:=(intC (princC (princC s).1).1).2 }:Msg).cells 5
   ((conv in (_[_]?)=>tactic=>exact E3.c);(conv=>whnf))
   have l3:∀l,(intC (princC (princC s).1).1).1=some l→l.length≤140737488355328:=intC_len l2
   refine cO (c135 e _ _ E3.cur l3) ?_
   rintro _ K3 ⟨rfl,u3,g3⟩
   have F3:=E3.call u3 g3
   conv=>whnf
   ((conv in (_[_]?)=>tactic=>exact F3.p);(conv=>whnf))
   have E4:=F3.store ({ mZ with kind:=1,a1:=(princC s).2.1,a2:=(princC s).2.2,a3:=(princC (princC s).1).2.1,a4:=(princC (princC s).1).2.2,aTill:=(intC (princC (princC s).1).1).2,aNonce:=(intC (intC (princC (princC s).1).1).1).2 }:Msg).cells 6
   ((conv in (_[_]?)=>tactic=>exact E4.p);(conv=>whnf))
   ((conv in (_[_]?)=>tactic=>exact E4.z);(conv=>whnf))
   ((conv in (_[_]?)=>tactic=>exact gS E4.z);(conv=>whnf))
   exact ⟨rfl,fin E4 _⟩
  conv=>whnf
  have h1:¬(t.toNat:Int)=106:=h1
  refine ⟨fun h2=>?_,fun h2=>?_⟩
  ·have h2:(t.toNat:Int)=108:=h2
   have et:takenT t s=tkTgs s:=by unfold takenT;rw [zqo (by omega)];rw [zqp (by omega)]
   rw [et]
   conv=>whnf
   ((conv in (_[_]?)=>tactic=>exact D0.p);(conv=>whnf))
   have E0:=D0.store ({ mZ with kind:=2 }:Msg).cells 2
   ((conv in (_[_]?)=>tactic=>exact E0.c);(conv=>whnf))
   have l0:∀l,s=some l→l.length≤140737488355328:=hs0
   refine cO (c136 e _ _ E0.cur l0) ?_
   rintro _ K0 ⟨rfl,u0,g0⟩
   have F0:=E0.call u0 g0
   conv=>whnf
   ((conv in (_[_]?)=>tactic=>exact F0.p);(conv=>whnf))
   have E1:=F0.store ({ mZ with kind:=2,t1:=(tickC s).2.r,t2:=(tickC s).2.n,tKv:=(tickC s).2.kv,tB:=(tickC s).2.b,tBo:=none }:Msg).cells 3
   ((conv in (_[_]?)=>tactic=>exact E1.c);(conv=>whnf))
   have l1:∀l,(tickC s).1=some l→l.length≤140737488355328:=(elemC_len (tag:=97) l0).1
   refine cO (c137 e _ _ E1.cur l1) ?_
   rintro _ K1 ⟨rfl,u1,g1,_⟩
   have F1:=E1.call u1 g1
   conv=>whnf
   ((conv in (_[_]?)=>tactic=>exact F1.p);(conv=>whnf))
   have E2:=F1.store ({ mZ with kind:=2,t1:=(tickC s).2.r,t2:=(tickC s).2.n,tKv:=(tickC s).2.kv,tB:=(tickC s).2.b,tBo:=none,tAu:=(octC (tickC s).1).2,tAuo:=none }:Msg).cells 4
   ((conv in (_[_]?)=>tactic=>exact E2.c);(conv=>whnf))
   have l2:∀l,(octC (tickC s).1).1=some l→l.length≤140737488355328:=(elemC_len (tag:=4) l1).1
   refine cO (c134 e _ _ E2.cur l2) ?_
   rintro _ K2 ⟨rfl,u2,g2⟩
   have F2:=E2.call u2 g2
   conv=>whnf
   ((conv in (_[_]?)=>tactic=>exact F2.p);(conv=>whnf))
   have E3:=F2.store ({ mZ with kind:=2,t1:=(tickC s).2.r,t2:=(tickC s).2.n,tKv:=(tickC s).2.kv,tB:=(tickC s).2.b,tBo:=none,tAu:=(octC (tickC s).1).2,tAuo:=none,t3:=(princC (octC (tickC s).1).1).2.1,t4:=(princC (octC (tickC s).1).1).2.2 }:Msg).cells 5
   ((conv in (_[_]?)=>tactic=>exact E3.c);(conv=>whnf))
   have l3:∀l,(princC (octC (tickC s).1).1).1=some l→l.length≤140737488355328:=(elemC_len (tag:=48) l2).1
   refine cO (c135 e _ _ E3.cur l3) ?_
   rintro _ K3 ⟨rfl,u3,g3⟩
   have F3:=E3.call u3 g3
   conv=>whnf
   ((conv in (_[_]?)=>tactic=>exact F3.p);(conv=>whnf))
   have E4:=F3.store ({ mZ with kind:=2,t1:=(tickC s).2.r,t2:=(tickC s).2.n,tKv:=(tickC s).2.kv,tB:=(tickC s).2.b,tBo:=none,tAu:=(octC (tickC s).1).2,tAuo:=none,t3:=(princC (octC (tickC s).1).1).2.1,t4:=(princC (octC (tickC s).1).1).2.2,tTill:=(intC (princC (octC (tickC s).1).1).1).2 }:Msg).cells 6
   ((conv in (_[_]?)=>tactic=>exact E4.c);(conv=>whnf))
   have l4:∀l,(intC (princC (octC (tickC s).1).1).1).1=some l→l.length≤140737488355328:=intC_len l3
   refine cO (c135 e _ _ E4.cur l4) ?_
   rintro _ K4 ⟨rfl,u4,g4⟩
   have F4:=E4.call u4 g4
   conv=>whnf
   ((conv in (_[_]?)=>tactic=>exact F4.p);(conv=>whnf))
   have E5:=F4.store ({ mZ with kind:=2,t1:=(tickC s).2.r,t2:=(tickC s).2.n,tKv:=(tickC s).2.kv,tB:=(tickC s).2.b,tBo:=none,tAu:=(octC (tickC s).1).2,tAuo:=none,t3:=(princC (octC (tickC s).1).1).2.1,t4:=(princC (octC (tickC s).1).1).2.2,tTill:=(intC (princC (octC (tickC s).1).1).1).2,tNonce:=(intC (intC (princC (octC (tickC s).1).1).1).1).2 }:Msg).cells 7
   ((conv in (_[_]?)=>tactic=>exact E5.p);(conv=>whnf))
   ((conv in (_[_]?)=>tactic=>exact E5.z);(conv=>whnf))
   ((conv in (_[_]?)=>tactic=>exact gS E5.z);(conv=>whnf))
   exact ⟨rfl,fin E5 _⟩
  conv=>whnf
  have h2:¬(t.toNat:Int)=108:=h2
  refine ⟨fun h3=>?_,fun h3=>?_⟩
  ·have h3:(t.toNat:Int)=107:=h3
   have et:takenT t s=tkRep s:=by unfold takenT;rw [zqo (by omega)];rw [zqo (by omega)];rw [zqp (by omega)]
   rw [et]
   conv=>whnf
   ((conv in (_[_]?)=>tactic=>exact D0.p);(conv=>whnf))
   have E0:=D0.store ({ mZ with kind:=3 }:Msg).cells 2
   ((conv in (_[_]?)=>tactic=>exact E0.c);(conv=>whnf))
   have l0:∀l,s=some l→l.length≤140737488355328:=hs0
   refine cO (c134 e _ _ E0.cur l0) ?_
   rintro _ K0 ⟨rfl,u0,g0⟩
   have F0:=E0.call u0 g0
   conv=>whnf
   ((conv in (_[_]?)=>tactic=>exact F0.p);(conv=>whnf))
   have E1:=F0.store ({ mZ with kind:=3,r1:=(princC s).2.1,r2:=(princC s).2.2 }:Msg).cells 3
   ((conv in (_[_]?)=>tactic=>exact E1.c);(conv=>whnf))
   have l1:∀l,(princC s).1=some l→l.length≤140737488355328:=(elemC_len (tag:=48) l0).1
   refine cO (c136 e _ _ E1.cur l1) ?_
   rintro _ K1 ⟨rfl,u1,g1⟩
   have F1:=E1.call u1 g1
   conv=>whnf
   ((conv in (_[_]?)=>tactic=>exact F1.p);(conv=>whnf))
   have E2:=F1.store ({ mZ with kind:=3,r1:=(princC s).2.1,r2:=(princC s).2.2,r3:=(tickC (princC s).1).2.r,r4:=(tickC (princC s).1).2.n,rKv:=(tickC (princC s).1).2.kv,rB:=(tickC (princC s).1).2.b,rBo:=none }:Msg).cells 4
   ((conv in (_[_]?)=>tactic=>exact E2.c);(conv=>whnf))
   have l2:∀l,(tickC (princC s).1).1=some l→l.length≤140737488355328:=(elemC_len (tag:=97) l1).1
   refine cO (c137 e _ _ E2.cur l2) ?_
   rintro _ K2 ⟨rfl,u2,g2,_⟩
   have F2:=E2.call u2 g2
   conv=>whnf
   ((conv in (_[_]?)=>tactic=>exact F2.p);(conv=>whnf))
   have E3:=F2.store ({ mZ with kind:=3,r1:=(princC s).2.1,r2:=(princC s).2.2,r3:=(tickC (princC s).1).2.r,r4:=(tickC (princC s).1).2.n,rKv:=(tickC (princC s).1).2.kv,rB:=(tickC (princC s).1).2.b,rBo:=none,rBl:=(octC (tickC (princC s).1).1).2,rBlo:=none }:Msg).cells 5
   ((conv in (_[_]?)=>tactic=>exact E3.p);(conv=>whnf))
   ((conv in (_[_]?)=>tactic=>exact E3.z);(conv=>whnf))
   ((conv in (_[_]?)=>tactic=>exact gS E3.z);(conv=>whnf))
   exact ⟨rfl,fin E3 _⟩
  conv=>whnf
  have h3:¬(t.toNat:Int)=107:=h3
  refine ⟨fun h4=>?_,fun h4=>?_⟩
  ·have h4:(t.toNat:Int)=110:=h4
   have et:takenT t s=tkAp s:=by unfold takenT;rw [zqo (by omega)];rw [zqo (by omega)];rw [zqo (by omega)];rw [zqp (by omega)]
   rw [et]
   conv=>whnf
   ((conv in (_[_]?)=>tactic=>exact D0.p);(conv=>whnf))
   have E0:=D0.store ({ mZ with kind:=4 }:Msg).cells 2
   ((conv in (_[_]?)=>tactic=>exact E0.c);(conv=>whnf))
   have l0:∀l,s=some l→l.length≤140737488355328:=hs0
   refine cO (c136 e _ _ E0.cur l0) ?_
   rintro _ K0 ⟨rfl,u0,g0⟩
   have F0:=E0.call u0 g0
   conv=>whnf
   ((conv in (_[_]?)=>tactic=>exact F0.p);(conv=>whnf))
   have E1:=F0.store ({ mZ with kind:=4,p1:=(tickC s).2.r,p2:=(tickC s).2.n,pKv:=(tickC s).2.kv,pB:=(tickC s).2.b,pBo:=none }:Msg).cells 3
   ((conv in (_[_]?)=>tactic=>exact E1.c);(conv=>whnf))
   have l1:∀l,(tickC s).1=some l→l.length≤140737488355328:=(elemC_len (tag:=97) l0).1
   refine cO (c137 e _ _ E1.cur l1) ?_
   rintro _ K1 ⟨rfl,u1,g1,_⟩
   have F1:=E1.call u1 g1
   conv=>whnf
   ((conv in (_[_]?)=>tactic=>exact F1.p);(conv=>whnf))
   have E2:=F1.store ({ mZ with kind:=4,p1:=(tickC s).2.r,p2:=(tickC s).2.n,pKv:=(tickC s).2.kv,pB:=(tickC s).2.b,pBo:=none,pAu:=(octC (tickC s).1).2,pAuo:=none }:Msg).cells 4
   ((conv in (_[_]?)=>tactic=>exact E2.p);(conv=>whnf))
   ((conv in (_[_]?)=>tactic=>exact E2.z);(conv=>whnf))
   ((conv in (_[_]?)=>tactic=>exact gS E2.z);(conv=>whnf))
   exact ⟨rfl,fin E2 _⟩
  conv=>whnf
  have h4:¬(t.toNat:Int)=110:=h4
  refine ⟨fun h5=>?_,fun h5=>?_⟩
  ·have h5:(t.toNat:Int)=126:=h5
   have et:takenT t s=tkFail s:=by unfold takenT;rw [zqo (by omega)];rw [zqo (by omega)];rw [zqo (by omega)];rw [zqo (by omega)];rw [zqp (by omega)]
   rw [et]
   conv=>whnf
   ((conv in (_[_]?)=>tactic=>exact D0.p);(conv=>whnf))
   have E0:=D0.store ({ mZ with kind:=5 }:Msg).cells 2
   ((conv in (_[_]?)=>tactic=>exact E0.c);(conv=>whnf))
   have l0:∀l,s=some l→l.length≤140737488355328:=hs0
   refine cO (c135 e _ _ E0.cur l0) ?_
   rintro _ K0 ⟨rfl,u0,g0⟩
   have F0:=E0.call u0 g0
   conv=>whnf
   ((conv in (_[_]?)=>tactic=>exact F0.p);(conv=>whnf))
   have E1:=F0.store ({ mZ with kind:=5,fErr:=(intC s).2 }:Msg).cells 3
   ((conv in (_[_]?)=>tactic=>exact E1.c);(conv=>whnf))
   have l1:∀l,(intC s).1=some l→l.length≤140737488355328:=intC_len l0
   refine cO (c135 e _ _ E1.cur l1) ?_
   rintro _ K1 ⟨rfl,u1,g1⟩
   have F1:=E1.call u1 g1
   conv=>whnf
   ((conv in (_[_]?)=>tactic=>exact F1.p);(conv=>whnf))
   have E2:=F1.store ({ mZ with kind:=5,fErr:=(intC s).2,fNonce:=(intC (intC s).1).2 }:Msg).cells 4
   ((conv in (_[_]?)=>tactic=>exact E2.p);(conv=>whnf))
   ((conv in (_[_]?)=>tactic=>exact E2.z);(conv=>whnf))
   ((conv in (_[_]?)=>tactic=>exact gS E2.z);(conv=>whnf))
   exact ⟨rfl,fin E2 _⟩
  conv=>whnf
  have h5:¬(t.toNat:Int)=126:=h5
  have et:takenT t s=mZ:=by unfold takenT;rw [zqo (by omega),zqo (by omega),zqo (by omega),zqo (by omega),zqo (by omega)]
  rw [et]
  ((conv in (_[_]?)=>tactic=>exact D0.p);(conv=>whnf))
  ((conv in (_[_]?)=>tactic=>exact D0.z);(conv=>whnf))
  ((conv in (_[_]?)=>tactic=>exact gS D0.z);(conv=>whnf))
  exact ⟨rfl,fin D0 _⟩
theorem old_cells (m:Msg):oldPs m.d.cells=true:=by
 simp [Msg.cells,Msg.as,Msg.tgs,Msg.rep,Msg.ap,Msg.fail,Msg.d,oldPs,oldP,slo,oldPs_bytes]
theorem c87 (b:List UInt8) (hb:b.length≤140737488355328):Pure prog 87 [sl b] (.agg (takenB b).d.cells):=Pure.of_gc (old_cells _) (c87x b hb)
theorem small (t:UInt8) (s:Option (List UInt8)):((elemC t s).2.getD []).length≤65535 :=
 getD_len (B:=(s.getD []).length) (elemC_len (fun l h=>by subst h;exact zqn _)).2
theorem small2 (t:UInt8) (s:Option (List UInt8)):((elemC t s).2.getD []).length≤1099511620000:=Nat.le_trans (small t s) (by decide)
theorem taken_fits (b:List UInt8):(takenB b).fits:=by
 cases b with
 | nil=>simp [takenB,mZ,Msg.fits]
 | cons t b =>
  show (takenT t _).fits
  generalize (elemC t (some (t::b))).2=s
  unfold takenT
  have z:∀n:Nat,([]:List UInt8).length≤n:=fun n=>Nat.zero_le _
  split
  ·refine ⟨?_,?_,?_,?_,?_,?_,?_,?_,?_,?_,?_,?_,?_,?_⟩ <;> first | exact z _ | exact small2 _ _
  ·split
   ·refine ⟨?_,?_,?_,?_,?_,?_,?_,?_,?_,?_,?_,?_,?_,?_⟩ <;> first | exact z _ | exact small2 _ _
   ·split
    ·refine ⟨?_,?_,?_,?_,?_,?_,?_,?_,?_,?_,?_,?_,?_,?_⟩ <;> first | exact z _ | exact small2 _ _
    ·split
     ·refine ⟨?_,?_,?_,?_,?_,?_,?_,?_,?_,?_,?_,?_,?_,?_⟩ <;> first | exact z _ | exact small2 _ _
     ·split
      ·refine ⟨?_,?_,?_,?_,?_,?_,?_,?_,?_,?_,?_,?_,?_,?_⟩ <;> first | exact z _ | exact small2 _ _
      ·refine ⟨?_,?_,?_,?_,?_,?_,?_,?_,?_,?_,?_,?_,?_,?_⟩ <;> first | exact z _ | exact small2 _ _
def okM (m:Msg) (b:List UInt8):Bool:=isB m&&(decide ((laidB m).length≤2000)&&decide (laidB m=b))
def agM (m:Msg) (b:List UInt8):PV:=match okM m b with
 | true=>.tup [.agg m.d.cells,.int .i64 0]
 | false=>.tup [.agg mZ.d.cells,.int .i64 2]
theorem agM_yes {m:Msg} {b:List UInt8} (h:okM m b=true):agM m b=.tup [.agg m.d.cells,.int .i64 0]:=by unfold agM;rw [h]
theorem agM_no {m:Msg} {b:List UInt8} (h:okM m b=false):agM m b=.tup [.agg mZ.d.cells,.int .i64 2]:=by unfold agM;rw [h]
theorem encV_yes {m:Msg} (h:isB m=true∧(laidB m).length≤2000):encV m=.tup [sl (laidB m),.int .i64 0]:=zqp h
theorem encV_no {m:Msg} (h:¬(isB m=true∧(laidB m).length≤2000)):encV m=.tup [.slice 0 [] (some 5),.int .i64 1]:=zqo h
theorem c86x (m:Msg) (b:List UInt8) (hm:m.fits) (H:PH):CK prog 86 [sl b,.agg m.d.cells,.func 72 [] []] H fun r H'=>r=agM m b∧∃ext,H'=H++ext:=by
 (refine fnS (imm:=imm86) ttN_ok func86 ?_;(conv=>whnf))
 have hd:encV m.d=encV m:=rfl
 by_cases hb:isB m=true∧(laidB m).length≤2000
 ·refine cP ((c72 m.d hm).of_eq (hd.trans (encV_yes hb))) ?_
  conv=>whnf
  refine ⟨fun _=>?_,fun h=>absurd rfl h⟩
  conv=>whnf
  refine cP (c132 (laidB m) b) ?_
  cases hq:decide (laidB m=b)
  ·have hk:okM m b=false:=by unfold okM;rw [hq,zq3,zq3]
   rw [agM_no hk]
   conv=>whnf
   ((conv in (_[_]?)=>tactic=>exact gL _ _);(conv=>whnf))
   ((conv in (_[_]?)=>tactic=>exact get_mid _ _ _);(conv=>whnf))
   ((conv in (_[_]?)=>tactic=>exact gS (get_mid _ _ _));(conv=>whnf))
   exact ⟨rfl,(((Ext.refl H).push _).push _).set (zqn _) _⟩
  ·have hk:okM m b=true:=by unfold okM;rw [hq,hb.1,zqe hb.2];rfl
   rw [agM_yes hk]
   conv=>whnf
   ((conv in (_[_]?)=>tactic=>exact get_mid _ _ _);(conv=>whnf))
   ((conv in (_[_]?)=>tactic=>exact gS (get_mid _ _ _));(conv=>whnf))
   exact ⟨rfl,(((Ext.refl H).push _).push _).set (zqn _) _⟩
 ·refine cP ((c72 m.d hm).of_eq (hd.trans (encV_no hb))) ?_
  have hk:okM m b=false:=by
   unfold okM
   cases h1:isB m
   ·rfl
   ·rw [zqd (fun h2=>hb ⟨h1,h2⟩)];rfl
  rw [agM_no hk]
  conv=>whnf
  refine ⟨fun h=>absurd h (by decide),fun _=>?_⟩
  conv=>whnf
  ((conv in (_[_]?)=>tactic=>exact gL _ _);(conv=>whnf))
  ((conv in (_[_]?)=>tactic=>exact get_mid _ _ _);(conv=>whnf))
  ((conv in (_[_]?)=>tactic=>exact gS (get_mid _ _ _));(conv=>whnf))
  exact ⟨rfl,(((Ext.refl H).push _).push _).set (zqn _) _⟩
theorem agM_old (m:Msg) (b:List UInt8):oldR (agM m b)=true:=by
 cases h:okM m b
 ·rw [agM_no h];simp [oldR,oldPs,oldP,old_cells]
 ·rw [agM_yes h];simp [oldR,oldPs,oldP,old_cells]
theorem c86 (m:Msg) (b:List UInt8) (hm:m.fits):Pure prog 86 [sl b,.agg m.d.cells,.func 72 [] []] (agM m b):=Pure.of_gc (agM_old m b) (c86x m b hm)
def decV (b:List UInt8):PV:=agM (takenB b) b
theorem c44x (b:List UInt8) (hb:b.length≤140737488355328) (H:PH):CK prog 44 [sl b] H fun r H'=>r=decV b∧∃ext,H'=H++ext:=by
 (refine fnS (imm:=imm44) ttN_ok func44 ?_;(conv=>whnf))
 refine cP (c87 b hb) ?_
 conv=>whnf
 refine cP (c86 (takenB b) b (taken_fits b)) ?_
 unfold decV
 cases h:okM (takenB b) b
 ·rw [agM_no h]
  conv=>whnf
  ((conv in (_[_]?)=>tactic=>exact gL _ _);(conv=>whnf))
  ((conv in (_[_]?)=>tactic=>exact gS (gL _ _));(conv=>whnf))
  exact ⟨rfl,((Ext.refl H).push _).set (zqn _) _⟩
 ·rw [agM_yes h]
  conv=>whnf
  ((conv in (_[_]?)=>tactic=>exact gL _ _);(conv=>whnf))
  ((conv in (_[_]?)=>tactic=>exact gS (gL _ _));(conv=>whnf))
  exact ⟨rfl,((Ext.refl H).push _).set (zqn _) _⟩
theorem c44 (b:List UInt8) (hb:b.length≤140737488355328):Pure prog 44 [sl b] (decV b):=Pure.of_gc (agM_old _ b) (c44x b hb)
end Go.Proofs.Tryz
namespace Go.Proofs.YtldfjimgfnjdjaaGreatDoor
open Go Go.RowKit Ps
theorem rows_ints {k:IntKind}:∀{rs:List (List PV)},(∀r∈rs,∃x,r=[.int k x]∧(Lit.int k x).wf=true)→∃xs:List Int,rs.length=xs.length∧rs.flatten=xs.map (.int k)∧∀x∈xs,(Lit.int k x).wf=true
 | [],_=>⟨[],rfl,rfl,fun x h=>by cases h⟩
 | r::rs,h=>by
  obtain ⟨x,rfl,hx⟩:=h r List.mem_cons_self
  obtain ⟨xs,h1,h2,h3⟩:=rows_ints fun r hr=>h r (List.mem_cons_of_mem _ hr)
  exact ⟨x::xs,by simp [h1],by simp [h2],fun y hy=>by
   rcases List.mem_cons.1 hy with rfl | hy
   ·exact hx
   ·exact h3 y hy⟩
theorem bytes_of:∀{xs:List Int},(∀x∈xs,(Lit.int .u8 x).wf=true)→∃bs:List UInt8,xs.length=bs.length∧xs.map (PV.int .u8)=bs.map bC
 | [],_=>⟨[],rfl,rfl⟩
 | x::xs,h=>by
  obtain ⟨bs,h1,h2⟩:=bytes_of fun y hy=>h y (List.mem_cons_of_mem _ hy)
  have hx:=bounds_u8 (h x List.mem_cons_self)
  refine ⟨UInt8.ofNat x.toNat::bs,by simp [h1],?_⟩
  rw [List.map_cons,List.map_cons,h2]
  congr 1
  show PV.int .u8 x=.int .u8 _
  rw [UInt8.toNat_ofNat']
  congr 1;omega
theorem own:ownKnob Tryz.prog.godebug=none:=by kernel_rfl
theorem laidOut:laidOutB Tryz.prog=true:=by kernel_rfl
def litV:DataW Unit→Value
 | .lit (.int k n)=>.int k n
 | _=>Go.undef
def litVs:DataW Unit→List Value
 | .agg l=>l.map litV
 | d=>[litV d]
def tabVs:DataW Unit→List Value
 | .agg l=>l.flatMap litVs
 | _=>[]
def fillTab (l:List Value):Obj→Obj
 | .cells _ t frozen=>.cells l.toArray t frozen
 | o=>o
noncomputable def laidWorld (os:Os):World :=
 { World.holding Tryz.prog os ⟨#[],#[],[]⟩ with heap:=((World.holding Tryz.prog os ⟨#[],#[],[]⟩).heap.modify 0 (fillTab (tabVs Rows.laid_unicode_utf8_first))).modify 1 (fillTab (tabVs Rows.laid_unicode_utf8_acceptRanges)) }
theorem laid_met (os : Os) (args : Array Value) : laidMet Tryz.prog [("unicode/utf8.acceptRanges", Rows.laid_unicode_utf8_acceptRanges), ("unicode/utf8.first", Rows.laid_unicode_utf8_first)] ((laidWorld os).forCall (fun _ _ => 0) ⟨#[], args, []⟩).memory :=
 laidMet_of_run' 8 (by kernel_rfl) (by kernel_rfl)
theorem varsB (os:Os) (args:Array Value):((laidWorld os).forCall (fun _ _=>0) ⟨#[],args,[]⟩).variablesB Tryz.checked.prog=true:=by kernel_rfl
theorem heapB (os : Os) (args : Array Value) : (((laidWorld os).forCall (fun _ _ => 0) ⟨#[], args, []⟩).heap.toList.drop Tryz.checked.prog.globals.size).take ((begin Tryz.checked.prog (fun _ _ => 0) default).world.heap.size - Tryz.checked.prog.globals.size) =
      (begin Tryz.checked.prog (fun _ _ => 0) default).world.heap.toList.drop Tryz.checked.prog.globals.size := by kernel_rfl
theorem noLooks:false=Tryz.prog.looks []:=by kernel_rfl
theorem plainOf {name:String} {k:Nat} {g:Func} (hn:Tryz.prog.funcNamed name=some k) (hg:Tryz.prog.funcs[k]? = some g) (hall:(g.params.toList.all fun t=>Tryz.prog.wantsStandIn t==false)=true)
  (f:FuncId) (fn:Func) (hf:Tryz.pinned.checked.prog.funcNamed name=some f) (hfn:Tryz.pinned.checked.prog.funcs[f]? = some fn) :
  false=Tryz.pinned.checked.prog.looks []∧∀(j:Nat) t,fn.params[j]? = some t→Tryz.pinned.checked.prog.wantsStandIn t=false:=by
 obtain rfl:f=k:=Option.some.inj (hn.symm.trans hf) |>.symm
 obtain rfl:fn=g:=(Option.some.inj (hg.symm.trans hfn)).symm
 refine ⟨noLooks,fun j t ht=>?_⟩
 have h:Tryz.prog.wantsStandIn t=false:=by simpa using List.all_eq_true.1 hall t (Array.mem_toList_iff.2 (Array.mem_of_getElem? ht))
 exact h
end Go.Proofs.YtldfjimgfnjdjaaGreatDoor
namespace Go.Proofs.Tryz
open Go Ps
def ttK:TT:=[(2,⟨.int .i64,1,8,[.int .i64 0]⟩),(3,⟨.int .i64,1,8,[.int .i64 0]⟩),(4,⟨.bool,1,1,[.bool false]⟩),(5,⟨.int .u8,1,1,[.int .u8 0]⟩),(9,⟨.str,1,16,[.str []]⟩),(22,⟨.slice 9,1,24,[.slice 0 [] (some 9)]⟩),(23,⟨.ptr,1,8,[.ptr none]⟩),(25,⟨.slice 5,1,24,[.slice 0 [] (some 5)]⟩),(26,⟨.int .i64,1,8,[.int .i64 0]⟩),(28,⟨.ptr,1,8,[.ptr none]⟩),(29,⟨.ptr,1,8,[.ptr none]⟩),(31,⟨.arr 32 5,32,32,List.replicate 32 (.int .u8 0)⟩),(33,⟨.strct [(28,0),(29,1),(3,2),(31,3),(3,35)],36,64,[.ptr none,.ptr none,.int .i64 0]++List.replicate 32 (.int .u8 0)++[.int .i64 0]⟩),(36,⟨.strct [(9,0),(9,1)],2,32,[.str [],.str []]⟩),(43,⟨.strct [(3,0),(3,1),(9,2),(9,3),(3,4),(25,5),(3,6)],7,88,[.int .i64 0,.int .i64 0,.str [],.str [],.int .i64 0,.slice 0 [] (some 5),.int .i64 0]⟩),(51,⟨.strct [(36,0),(36,2),(3,4),(3,5)],6,80,[.str [],.str [],.str [],.str [],.int .i64 0,.int .i64 0]⟩),(53,⟨.strct [(36,0),(3,2),(25,3)],4,64,[.str [],.str [],.int .i64 0,.slice 0 [] (some 5)]⟩),(55,⟨.strct [(53,0),(25,4),(36,5),(3,7),(3,8)],9,136,[.str [],.str [],.int .i64 0,.slice 0 [] (some 5),.slice 0 [] (some 5),.str [],.str [],.int .i64 0,.int .i64 0]⟩),(57,⟨.strct [(36,0),(53,2),(25,6)],7,120,[.str [],.str [],.str [],.str [],.int .i64 0,.slice 0 [] (some 5),.slice 0 [] (some 5)]⟩),(59,⟨.strct [(53,0),(25,4)],5,88,[.str [],.str [],.int .i64 0,.slice 0 [] (some 5),.slice 0 [] (some 5)]⟩),(61,⟨.strct [(26,0),(3,1)],2,16,[.int .i64 0,.int .i64 0]⟩),(63,⟨.strct [(3,0),(51,1),(55,7),(57,16),(59,23),(61,28)],30,448,[.int .i64 0,.str [],.str [],.str [],.str [],.int .i64 0,.int .i64 0,.str [],.str [],.int .i64 0,.slice 0 [] (some 5),.slice 0 [] (some 5),.str [],.str [],.int .i64 0,.int .i64 0,.str [],.str [],.str [],.str [],.int .i64 0,.slice 0 [] (some 5),.slice 0 [] (some 5),.str [],.str [],.int .i64 0,.slice 0 [] (some 5),.slice 0 [] (some 5),.int .i64 0,.int .i64 0]⟩),(73,⟨.strct [(36,0),(3,2),(3,3)],4,48,[.str [],.str [],.int .i64 0,.int .i64 0]⟩),(83,⟨.strct [(53,0),(31,4),(3,36)],37,104,[.str [],.str [],.int .i64 0,.slice 0 [] (some 5)]++List.replicate 32 (.int .u8 0)++[.int .i64 0]⟩),(86,⟨.slice 156,1,24,[.slice 0 [] (some 156)]⟩),(88,⟨.strct [(86,0)],1,24,[.slice 0 [] (some 156)]⟩),(90,⟨.strct [(36,0),(31,2),(88,34),(3,35),(3,36),(3,37),(3,38),(3,39),(3,40),(36,41),(22,43),(31,44),(3,76),(4,77)],78,240,[.str [],.str []]++List.replicate 32 (.int .u8 0)++[.slice 0 [] (some 156)]++List.replicate 6 (.int .i64 0)++[.str [],.str [],.slice 0 [] (some 9)]++List.replicate 32 (.int .u8 0)++[.int .i64 0,.bool false]⟩),(100,⟨.ptr,1,8,[.ptr none]⟩),(105,⟨.strB [(102,0),(103,0),(2,0)],1,8,[.int .i64 0]⟩),(106,⟨.ptr,1,8,[.ptr none]⟩),(108,⟨.strct [(3,0),(106,1),(3,2),(4,3)],4,32,[.int .i64 0,.ptr none,.int .i64 0,.bool false]⟩),(110,⟨.strct [(36,0),(31,2),(100,34),(105,35),(105,36),(105,37),(3,38),(26,39),(3,40),(36,41),(22,43),(108,44)],48,208,[.str [],.str []]++List.replicate 32 (.int .u8 0)++[.ptr none]++List.replicate 6 (.int .i64 0)++[.str [],.str [],.slice 0 [] (some 9),.int .i64 0,.ptr none,.int .i64 0,.bool false]⟩),(123,⟨.strct [(31,0),(36,32),(3,34),(3,35),(3,36)],37,88,List.replicate 32 (.int .u8 0)++[.str [],.str [],.int .i64 0,.int .i64 0,.int .i64 0]⟩),(156,⟨.strct [(36,0),(83,2)],39,136,[.str [],.str [],.str [],.str [],.int .i64 0,.slice 0 [] (some 5)]++List.replicate 32 (.int .u8 0)++[.int .i64 0]⟩),(158,⟨.map 36 83,1,8,[.undef]⟩),(160,⟨.strct [(158,0)],1,8,[.undef]⟩),(164,⟨.fn,1,8,[.nilF]⟩),(171,⟨.fn,1,8,[.nilF]⟩)]
theorem ttK_ok:ttOk prog ttK=true:=by kernel_rfl
def imm13:List Nat:=[]
def imm14:List Nat:=[4]
def imm15:List Nat:=[]
def imm17:List Nat:=[]
def imm20:List Nat:=[]
def imm21:List Nat:=[]
def imm25:List Nat:=[]
def imm28:List Nat:=[4]
def imm31:List Nat:=[4]
def imm34:List Nat:=[2,3]
def imm37:List Nat:=[2,3]
def imm38:List Nat:=[1]
def imm39:List Nat:=[]
def imm40:List Nat:=[4]
def imm41:List Nat:=[]
def imm43:List Nat:=[2,3]
def imm77:List Nat:=[]
def imm81:List Nat:=[]
def imm82:List Nat:=[]
def imm84:List Nat:=[]
def imm85:List Nat:=[]
def krb (r:List UInt8):List UInt8:=krbB++r
def isUserB (r n:List UInt8):Bool:=isPrincB r n&&!(targetB n).2
theorem c39 (n:Int):Pure prog 39 [.int .i64 n] (.bool (inZ n 0 1073741824)):=by
 intro H
 (refine fnS (imm:=imm39) ttK_ok func39 ?_;(conv=>whnf))
 unfold inZ
 refine ⟨fun h=>?_,fun h=>?_⟩
 ·have h:(0:Int)≤n:=h
  conv=>whnf
  refine ⟨fun h2=>?_,fun h2=>?_⟩
  ·have h2:n≤1073741824:=h2
   conv=>whnf
   exact ⟨zqm PV.bool (by rw [zqe h,zqe h2];rfl),rfl⟩
  ·have h2:¬n≤1073741824:=h2
   conv=>whnf
   exact ⟨zqm PV.bool (by rw [zqd h2,zq3]),rfl⟩
 ·have h:¬(0:Int)≤n:=h
  conv=>whnf
  exact ⟨zqm PV.bool (by rw [zqd h,zq4]),rfl⟩
theorem c81 (r:List UInt8) (hr:r.length≤1099511627775):Pure prog 81 [.str r] (.str (krb r)):=by
 intro H
 (refine fnS (imm:=imm81) ttK_ok func81 ?_;(conv=>whnf))
 refine ⟨by show 7+r.length≤9223372036854775807;omega,?_⟩
 conv=>whnf
 exact ⟨rfl,rfl⟩
theorem c38 (r n:List UInt8) (h1:r.length≤1099511627775) (h2:n.length≤1099511627775):Pure prog 38 [.agg [.str r,.str n]] (.bool (isUserB r n)):=by
 intro H
 have k78:=c78 n h2
 have k79:=c79 r n h1 h2
 unfold isUserB
 generalize (targetB n).1=t1 at *
 generalize (targetB n).2=t2 at *
 generalize isPrincB r n=b at *
 cases b
 ·(refine fnS (imm:=imm38) ttK_ok func38 ?_;(conv=>whnf))
  (repeat (first | ((first | (apply exA;(focus exact oN)) | refine bT ?_ | refine bF ?_ | refine bW (bT ?_) | refine bW (bF ?_) | (apply cP;(focus assumption)) | (apply cE;(focus assumption)) | refine ⟨by first | decide | omega,?_⟩);((conv=>whnf))) | ((conv in (_[_]?)=>tactic=>first | exact oL | exact gS (by assumption));(conv=>whnf))))
  exact ⟨rfl,rfl⟩
 ·(refine fnS (imm:=imm38) ttK_ok func38 ?_;(conv=>whnf))
  (repeat (first | ((first | (apply exA;(focus exact oN)) | refine bT ?_ | refine bF ?_ | refine bW (bT ?_) | refine bW (bF ?_) | (apply cP;(focus assumption)) | (apply cE;(focus assumption)) | refine ⟨by first | decide | omega,?_⟩);((conv=>whnf))) | ((conv in (_[_]?)=>tactic=>first | exact oL | exact gS (by assumption));(conv=>whnf))))
  exact ⟨rfl,rfl⟩
def tillI (now:Int):Int:=min (now+1000) 1073741824
theorem c84 (now:Int) (h0:0≤now) (h1:now≤1073741824):Pure prog 84 [.int .i64 now] (.int .i64 (tillI now)):=by
 intro H
 have hw:IntKind.i64.wrap (now+1000)=now+1000:=w64 (by omega) (by omega)
 (refine fnS (imm:=imm84) ttK_ok func84 ?_;(conv=>whnf))
 exact ⟨zqm (PV.int .i64) (by rw [hw];rfl),rfl⟩
theorem gA2 (H:PH) (a b:PObj):(H++[a]++[b])[H.length]? = some a:=by rw [List.append_assoc,zqi (zqn _),Nat.sub_self];rfl
/-! The cache. -/
def cacheC:List Crd→List PV
 | []=>[]
 | c::L=>.agg [.str c.r,.str c.n]::.agg c.cells::cacheC L
def cacheO (mid:Nat) (v:Nat):PObj:=⟨160,[.mref mid],v⟩
def mapO (L:List Crd) (v:Nat):PObj:=⟨158,cacheC L,v⟩
def Crd.is (r n:List UInt8) (c:Crd):Bool:=decide (c.r=r)&&decide (c.n=n)
def findL (r n:List UInt8) (L:List Crd):Option Crd:=L.find? (Crd.is r n)
theorem Crd.is_iff {r n:List UInt8} {c:Crd}:c.is r n=true↔c.r=r∧c.n=n:=by
 unfold Crd.is;rw [zqb];exact ⟨fun h=>⟨of_decide_eq_true h.1,of_decide_eq_true h.2⟩,fun h=>⟨zqe h.1,zqe h.2⟩⟩
theorem keyEq {r n:List UInt8} {c:Crd}:(PV.agg [.str r,.str n]=PV.agg [.str c.r,.str c.n])↔c.is r n=true:=by
 rw [Crd.is_iff]
 constructor
 ·intro h
  injection h with h
  injection h with h1 h2
  injection h1 with h1
  injection h2 with h2 _
  injection h2 with h2
  exact ⟨h1.symm,h2.symm⟩
 ·rintro ⟨h1,h2⟩;rw [h1,h2]
theorem mapFind_none {r n:List UInt8} {K:Option (Nat×PV)→Prop} (k:K none):∀{L:List Crd} (i:Nat),findL r n L=none→mapFind (.agg [.str r,.str n]) i (cacheC L) K
 | [],_,_=>k
 | c::L,i,h=>by
  unfold findL at h
  rw [List.find?_cons] at h
  refine ⟨fun e=>?_,fun _=>mapFind_none k (i+1) ?_⟩
  ·rw [keyEq.1 e] at h;cases h
  ·cases hc:c.is r n
   ·rw [hc] at h;exact h
   ·rw [hc] at h;cases h
theorem mapFind_some {r n:List UInt8} {K:Option (Nat×PV)→Prop} {c:Crd}:∀{L:List Crd} (i:Nat),findL r n L=some c→(∀j,L[j]? = some c→K (some (i+j,.agg c.cells)))→mapFind (.agg [.str r,.str n]) i (cacheC L) K
 | [],_,h,_=>by cases h
 | x::L,i,h,k=>by
  unfold findL at h
  rw [List.find?_cons] at h
  refine ⟨fun e=>?_,fun e=>mapFind_some (i+1) (c:=c) ?_ (fun j hj=>?_)⟩
  ·rw [keyEq.1 e] at h
   cases h
   exact k 0 rfl
  ·cases hc:x.is r n
   ·rw [hc] at h;exact h
   ·exact absurd (keyEq.2 hc) e
  ·have:=k (j+1) hj
   rwa [show i+(j+1)=i+1+j by omega] at this
theorem kf36 (r n:List UInt8):keyFit ttK 36 (.agg [.str r,.str n]):=⟨rfl,⟨by show 1≤2;omega,r,rfl⟩,rfl,⟨by show 1≤1;omega,n,rfl⟩,rfl⟩
theorem ksL:∀L:List Crd,keysFit ttK 36 (cacheC L)
 | []=>trivial
 | c::L=>⟨kf36 c.r c.n,ksL L⟩
def Xt (H H':PH):Prop:=∃ext,H'=H++ext
theorem Xt.refl (H:PH):Xt H H:=⟨[],by simp⟩
theorem Xt.app {H H':PH} (h:Xt H H') (l:PH):Xt H (H'++l):=by obtain ⟨e,rfl⟩:=h;exact ⟨e++l,by simp⟩
theorem Xt.set {H H':PH} (h:Xt H H') {i:Nat} (hi:H.length≤i) (o:PObj):Xt H (H'.set i o):=by
 obtain ⟨e,rfl⟩:=h
 exact ⟨_,List.set_append_right _ _ hi⟩
theorem Xt.get {H H':PH} (h:Xt H H') {i:Nat} {o:PObj} (ho:H[i]? = some o):H'[i]? = some o:=by
 obtain ⟨e,rfl⟩:=h
 rw [zq2 (zq1.1 ho).1];exact ho
theorem Xt.len {H H':PH} (h:Xt H H'):H.length≤H'.length:=by obtain ⟨e,rfl⟩:=h;simp
theorem drawK_at {P:Program} {tt:TT} {imm:List Nat} {N:Nat} {ops:List Oper} {E:Env} {H Y:PH} {K:Env→PH→Prop} (e:H=Y) (h:drawK P tt imm N ops E Y K):drawK P tt imm N ops E H K:=e▸h
theorem callK_at {P:Program} {f:Nat} {args:List PV} {H Y:PH} {K:PV→PH→Prop} (e:H=Y) (h:callK P f args Y K):callK P f args H K:=e▸h
theorem oR {A:Prop} (h:A:=by (conv=>whnf);exact ⟨⟨rfl,rfl,zqv⟩,gL _ _⟩):A:=h
theorem drawK_of3 {P:Program} {tt:TT} {imm:List Nat} {N:Nat} {ops:List Oper} {E:Env} {H:PH} {K:Env→PH→Prop} (D:Draw) (Hs:List PH) (Hf:PH) (h0:drawOk N ops D=true) (h1:startOk D H Hs)
  (h2:pVers D Hs D.fs) (hf:hk Hs (cnt D.isImp ops.length)=Hf) (h:pDr2 P tt imm ops D Hs 0 ops E fun E'=>K E' Hf):drawK P tt imm N ops E H K :=
 dO2 D Hs h0 h1 h2 (by rw [hf];exact h)
def zCrd:Crd:=⟨[],[],0,[],fun _=>0,0⟩
def D40 (b:Nat):Draw:={ imp:=[10],win:=[(8,0,1),(11,1,1)],robs:=[z83c],res:=[(9,0)],base:=b }
theorem c40n {H:PH} {caid mid v v2:Nat} {L:List Crd} {r n:List UInt8} (now:Int) (hc:H[caid]? = some (cacheO mid v)) (hm:H[mid]? = some (mapO L v2)) (hf:findL r n L=none) :
  CK prog 40 [.ptr (some (caid,0)),.agg [.str r,.str n],.int .i64 now] H fun x H'=>x=.tup [.agg zCrd.cells,.bool false]∧H'=H:=by
 refine (CK.gc (Q:=fun x H'=>x=.tup [.agg zCrd.cells,.bool false]∧Xt H H') ?_ (fun r H' h=>⟨by rw [h.1];rfl,h.2⟩)).mono (fun x H' h=>⟨h.2.choose_spec.1,h.1⟩)
 have e1:=(Xt.refl H).app [z83c]
 have hlt:=e1.len
 have g1:(H++[z83c])[H.length]? = some z83c:=gL _ _
 generalize hX:H++[z83c]=X at *
 have e2:=e1.app [z83c]
 have hc2:=e2.get hc
 have hm2:=e2.get hm
 have hg2:=gL X z83c
 have hXl:H.length<X.length:=by rw [←hX];simp
 obtain ⟨Y,hY⟩:∃Y,(X++[z83c]).set X.length ⟨83,z83c.cs,1⟩=Y:=⟨_,rfl⟩
 have e3:Xt H Y:=hY▸e2.set hlt _
 have g3:Y[H.length]? = some z83c:=by rw [←hY,zqj (by omega),zq2 hXl];exact g1
 (refine fnS (imm:=imm40) ttK_ok func40 ?_;(conv=>whnf))
 refine drawK_at hX ?_
 refine drawK_of3 (D40 X.length) [X++[z83c],Y] Y (by kernel_rfl) ⟨rfl,rfl⟩ trivial rfl ?_
 conv=>whnf
 (repeat (first | ((first | (apply exA;(focus exact oN)) | refine bT ?_ | refine bF ?_ | refine bW (bT ?_) | refine bW (bF ?_) | (apply cP;(focus assumption)) | (apply cE;(focus assumption)) | refine ⟨by first | decide | omega,?_⟩);((conv=>whnf))) | ((conv in (_[_]?)=>tactic=>first | exact oL | exact gS (by assumption));(conv=>whnf))))
 apply exA
 ·conv=>whnf
  ((conv in (_[_]?)=>tactic=>exact hm2);(conv=>whnf))
  refine ⟨⟨kf36 _ _,ksL L⟩,?_⟩
  refine mapFind_none ?_ 0 hf
  exact ⟨rfl,rfl,zqv⟩
 conv=>whnf
 (repeat (first | ((first | (apply exA;(focus exact oN)) | refine bT ?_ | refine bF ?_ | refine bW (bT ?_) | refine bW (bF ?_) | (apply cP;(focus assumption)) | (apply cE;(focus assumption)) | refine ⟨by first | decide | omega,?_⟩);((conv=>whnf))) | ((conv in (_[_]?)=>tactic=>first | exact oL | exact gS (by assumption));(conv=>whnf))))
 apply exA
 ·exact oR
 conv=>whnf
 apply exA
 ·conv=>whnf
  ((conv in (_[_]?)=>tactic=>exact hg2);(conv=>whnf))
  exact ⟨rfl,hY,zqv⟩
 conv=>whnf
 (repeat (first | ((first | (apply exA;(focus exact oN)) | refine bT ?_ | refine bF ?_ | refine bW (bT ?_) | refine bW (bF ?_) | (apply cP;(focus assumption)) | (apply cE;(focus assumption)) | refine ⟨by first | decide | omega,?_⟩);((conv=>whnf))) | ((conv in (_[_]?)=>tactic=>first | exact oL | exact gS (by assumption));(conv=>whnf))))
 exact ⟨rfl,e3.set (zqn _) _⟩
theorem c40o {H:PH} {caid mid v v2:Nat} {L:List Crd} {r n:List UInt8} (now:Int) (hc:H[caid]? = some (cacheO mid v)) (hm:H[mid]? = some (mapO L v2)) {c:Crd} (hf:findL r n L=some c) (hen:c.en<now) :
  CK prog 40 [.ptr (some (caid,0)),.agg [.str r,.str n],.int .i64 now] H fun x H'=>x=.tup [.agg zCrd.cells,.bool false]∧H'=H:=by
 refine (CK.gc (Q:=fun x H'=>x=.tup [.agg zCrd.cells,.bool false]∧Xt H H') ?_ (fun r H' h=>⟨by rw [h.1];rfl,h.2⟩)).mono (fun x H' h=>⟨h.2.choose_spec.1,h.1⟩)
 have e1:=(Xt.refl H).app [z83c]
 have hlt:=e1.len
 have g1:(H++[z83c])[H.length]? = some z83c:=gL _ _
 generalize hX:H++[z83c]=X at *
 have e2:=e1.app [z83c]
 have hc2:=e2.get hc
 have hm2:=e2.get hm
 have hg2:=gL X z83c
 have hXl:H.length<X.length:=by rw [←hX];simp
 obtain ⟨Y,hY⟩:∃Y,(X++[z83c]).set X.length ⟨83,c.cells,1⟩=Y:=⟨_,rfl⟩
 have e3:Xt H Y:=hY▸e2.set hlt _
 have g3:Y[H.length]? = some z83c:=by rw [←hY,zqj (by omega),zq2 hXl];exact g1
 (refine fnS (imm:=imm40) ttK_ok func40 ?_;(conv=>whnf))
 refine drawK_at hX ?_
 refine drawK_of3 (D40 X.length) [X++[z83c],Y] Y (by kernel_rfl) ⟨rfl,rfl⟩ trivial rfl ?_
 conv=>whnf
 (repeat (first | ((first | (apply exA;(focus exact oN)) | refine bT ?_ | refine bF ?_ | refine bW (bT ?_) | refine bW (bF ?_) | (apply cP;(focus assumption)) | (apply cE;(focus assumption)) | refine ⟨by first | decide | omega,?_⟩);((conv=>whnf))) | ((conv in (_[_]?)=>tactic=>first | exact oL | exact gS (by assumption));(conv=>whnf))))
 apply exA
 ·conv=>whnf
  ((conv in (_[_]?)=>tactic=>exact hm2);(conv=>whnf))
  refine ⟨⟨kf36 _ _,ksL L⟩,?_⟩
  refine mapFind_some 0 hf (fun j _=>?_)
  exact ⟨rfl,rfl,zqv⟩
 conv=>whnf
 (repeat (first | ((first | (apply exA;(focus exact oN)) | refine bT ?_ | refine bF ?_ | refine bW (bT ?_) | refine bW (bF ?_) | (apply cP;(focus assumption)) | (apply cE;(focus assumption)) | refine ⟨by first | decide | omega,?_⟩);((conv=>whnf))) | ((conv in (_[_]?)=>tactic=>first | exact oL | exact gS (by assumption));(conv=>whnf))))
 apply exA
 ·exact oR
 conv=>whnf
 apply exA
 ·conv=>whnf
  ((conv in (_[_]?)=>tactic=>exact hg2);(conv=>whnf))
  exact ⟨rfl,hY,zqv⟩
 have g4:Y[X.length]? = some (⟨83,c.cells,1⟩:PObj):=by rw [←hY,List.getElem?_set_self (by simp)]
 conv=>whnf
 (repeat (first | ((first | (apply exA;(focus exact oN)) | refine bT ?_ | refine bF ?_ | refine bW (bT ?_) | refine bW (bF ?_) | (apply cP;(focus assumption)) | (apply cE;(focus assumption)) | refine ⟨by first | decide | omega,?_⟩);((conv=>whnf))) | ((conv in (_[_]?)=>tactic=>first | exact oL | exact gS (by assumption));(conv=>whnf))))
 exact ⟨rfl,e3.set (zqn _) _⟩
theorem Evo.xt {S:Nat→Prop} {H H':PH} (h:Xt H H'):Evo S H H':=by obtain ⟨e,rfl⟩:=h;exact Evo.app _ _
structure MapAt (H:PH) (mid:Nat) (L:List Crd):Prop where
 ex:∃v,H[mid]? = some (mapO L v)
structure Cs where
 r:List UInt8
 n:List UInt8
 k:Nat→UInt8
 ca:Nat
 nn:Int
 sn:Int
 qn:Int
 st:Int
 er:Int
 se:Int
 tr:List UInt8
 tn:List UInt8
 vis:PV
 on:Int
 ob:PV
 ou:Int
 fi:Bool
def cliO (c:Cs) (v:Nat):PObj:=⟨110,[.str c.r,.str c.n]++keyC c.k++[.ptr (some (c.ca,0)),.int .i64 c.nn,.int .i64 c.sn,.int .i64 c.qn,.int .i64 c.st,.int .i64 c.er,.int .i64 c.se,.str c.tr,.str c.tn,c.vis,.int .i64 c.on,c.ob,.int .i64 c.ou,.bool c.fi],v⟩
theorem cliT (c:Cs) (v:Nat):(cliO c v).T≠keyT∧(cliO c v).T≠boxT:=⟨fun h=>absurd (show 110=keyT from h) (by decide),fun h=>absurd (show 110=boxT from h) (by decide)⟩
theorem cacheOT (m:Nat) (v:Nat):(cacheO m v).T≠keyT∧(cacheO m v).T≠boxT:=⟨fun h=>absurd (show 160=keyT from h) (by decide),fun h=>absurd (show 160=boxT from h) (by decide)⟩
theorem mapOT (L:List Crd) (v:Nat):(mapO L v).T≠keyT∧(mapO L v).T≠boxT:=⟨fun h=>absurd (show 158=keyT from h) (by decide),fun h=>absurd (show 158=boxT from h) (by decide)⟩
structure Cl (H:PH) (cid mid:Nat) (c:Cs) (L:List Crd):Prop where
 o:∃v,H[cid]? = some (cliO c v)
 a:∃v,H[c.ca]? = some (cacheO mid v)
 m:MapAt H mid L
theorem ne_of_T {H:PH} {i j:Nat} {o p:PObj} (h:H[i]? = some o) (k:H[j]? = some p) (hn:o.T≠p.T):i≠j:=fun e=>by
 subst e
 rw [h] at k;cases k
 exact hn rfl
theorem Cl.ne {H:PH} {cid mid:Nat} {c:Cs} {L:List Crd} (h:Cl H cid mid c L):cid≠c.ca∧cid≠mid∧c.ca≠mid:=by
 obtain ⟨⟨v,h1⟩,⟨w,h2⟩,⟨u,h3⟩⟩:=h
 exact ⟨ne_of_T h1 h2 (show 110≠160 by decide),ne_of_T h1 h3 (show 110≠158 by decide),ne_of_T h2 h3 (show 160≠158 by decide)⟩
theorem Cl.evo {S:Nat→Prop} {H H':PH} {cid mid:Nat} {c:Cs} {L:List Crd} (h:Cl H cid mid c L) (k:Evo S H H') (h1:¬S cid) (h2:¬S c.ca) (h3:¬S mid):Cl H' cid mid c L:=by
 obtain ⟨⟨v,g1⟩,⟨w,g2⟩,⟨u,g3⟩⟩:=h
 exact ⟨⟨v,k.same _ _ g1 h1 (cliT ..).1 (cliT ..).2⟩,⟨w,k.same _ _ g2 h2 (cacheOT ..).1 (cacheOT ..).2⟩,⟨u,k.same _ _ g3 h3 (mapOT ..).1 (mapOT ..).2⟩⟩
theorem Cl.put {H:PH} {cid mid:Nat} {c:Cs} {L:List Crd} (h:Cl H cid mid c L) (c':Cs) (hca:c'.ca=c.ca) (v:Nat):Cl (H.set cid (cliO c' v)) cid mid c' L∧Evo (·=cid) H (H.set cid (cliO c' v)):=by
 have hn:=h.ne
 obtain ⟨⟨w,g1⟩,⟨x,g2⟩,⟨u,g3⟩⟩:=h
 have he:Evo (·=cid) H (H.set cid (cliO c' v)):=Evo.setOther g1 rfl (cliT ..).1 (cliT ..).2
 refine ⟨⟨⟨v,gS g1⟩,⟨x,?_⟩,⟨u,?_⟩⟩,he⟩
 ·rw [hca];exact he.same _ _ g2 (Ne.symm hn.1) (cacheOT ..).1 (cacheOT ..).2
 ·exact he.same _ _ g3 (Ne.symm hn.2.1) (mapOT ..).1 (mapOT ..).2
theorem Cl.xt {H H':PH} {cid mid:Nat} {c:Cs} {L:List Crd} (h:Cl H cid mid c L) (e:Xt H H'):Cl H' cid mid c L:=by
 obtain ⟨⟨v,g1⟩,⟨w,g2⟩,⟨u,g3⟩⟩:=h
 exact ⟨⟨v,e.get g1⟩,⟨w,e.get g2⟩,⟨u,e.get g3⟩⟩
def Wc (cid mid:Nat) (i:Nat):Prop:=i=cid∨i=mid
theorem Evo.c {cid mid:Nat} {H H':PH} (h:Evo (·=cid) H H'):Evo (Wc cid mid) H H':=h.mono fun _ h=>.inl h
def z36o:PObj:=⟨36,[.str [],.str []],0⟩
def D41:Draw:={ imp:=[12] }
theorem c41 {H:PH} {cid:Nat} {c:Cs} {v:Nat} (ho:H[cid]? = some (cliO c v)) (hr:c.r.length≤1000000) :
  CK prog 41 [.ptr (some (cid,0))] H fun x H'=>x=.agg [.str c.r,.str (krb c.r)]∧H'=H:=by
 refine (CK.gc (Q:=fun x H'=>x=.agg [.str c.r,.str (krb c.r)]∧Xt H H') ?_ (fun r H' h=>⟨by rw [h.1];rfl,h.2⟩)).mono (fun x H' h=>⟨h.2.choose_spec.1,h.1⟩)
 have e1:=(Xt.refl H).app [z36o]
 have ho1:=e1.get ho
 have hg:=gL H z36o
 have k81:=c81 c.r (by omega)
 have e2:=e1.set (zqn _) (⟨36,[.str c.r,.str (krb c.r)],1⟩:PObj)
 (refine fnS (imm:=imm41) ttK_ok func41 ?_;(conv=>whnf))
 refine drawK_of3 D41 [H++[z36o],(H++[z36o]).set H.length ⟨36,[.str c.r,.str (krb c.r)],1⟩] _ (by kernel_rfl) rfl trivial rfl ?_
 conv=>whnf
 (repeat (first | ((first | (apply exA;(focus exact oN)) | refine bT ?_ | refine bF ?_ | refine bW (bT ?_) | refine bW (bF ?_) | (apply cP;(focus assumption)) | (apply cE;(focus assumption)) | refine ⟨by first | decide | omega,?_⟩);((conv=>whnf))) | ((conv in (_[_]?)=>tactic=>first | exact oL | exact gS (by assumption));(conv=>whnf))))
 exact ⟨rfl,e2⟩
theorem inZ_of {n lo hi:Int} (h1:lo≤n) (h2:n≤hi):inZ n lo hi=true:=by unfold inZ;rw [zqe h1,zqe h2];rfl
def msgOk (m:Msg):Prop:=isB m=true∧(laidB m).length≤2000∧m.fits
def outO (on:Int) (ob:PV) (ou:Int) (fi:Bool) (v:Nat):PObj:=⟨108,[.int .i64 on,ob,.int .i64 ou,.bool fi],v⟩
theorem outT (on:Int) (ob:PV) (ou:Int) (fi:Bool) (v:Nat):(outO on ob ou fi v).T≠keyT∧(outO on ob ou fi v).T≠boxT:=⟨fun h=>absurd (show 108=keyT from h) (by decide),fun h=>absurd (show 108=boxT from h) (by decide)⟩
def Cs.out (c:Cs) (ob:PV) (ou:Int) (fi:Bool):Cs:={ c with nn:=c.nn+1,on:=c.nn+1,ob:=ob,ou:=ou,fi:=fi,se:=c.se+1 }
theorem Evo.drop {S:Nat→Prop} {H H':PH} {a:Nat} (h:Evo (fun i=>S i∨i=a) H H') (ha:H.length≤a):Evo S H H' :=
 ⟨h.len,h.box,fun id o ho hs=>h.same id o ho fun hh=>by
  rcases hh with hh | hh
  ·exact hs hh
  ·have:=(zq1.1 ho).1
   omega⟩
theorem Evo.own {S:Nat→Prop} {H X:PH} (e:Evo S H X) {a:Nat} {o:PObj} (ha:X[a]? = some o) (h1:o.T≠keyT) (h2:o.T≠boxT) (hle:H.length≤a) (o':PObj):Evo S H (X.set a o') :=
 Evo.drop ((e.mono fun _ h=>.inl h).trans ((Evo.setOther (S:=(·=a)) ha rfl h1 h2).mono fun _ h=>.inr h)) hle
theorem c82 {H:PH} {cid mid:Nat} {c:Cs} {L:List Crd} (hC:Cl H cid mid c L) (bid:Nat) (ou:Int) (fi:Bool) (f:Nat) (caps:List PV) (m:Msg) (hm:msgOk m) (h0:0≤c.nn) (h1:c.nn≤100000) (h2:0≤c.se) (h3:c.se≤100000) (hcaps:caps.map dem=caps)
  (hreq:∀H',(∃v,H'[cid]? = some (cliO (c.out (.ptr (some (bid,0))) ou fi) v))→Evo (·=cid) H H'→CK prog f ([]++[.int .i64 (c.nn+1)]++caps) H' fun r H''=>r=.agg m.cells∧H''=H') :
  ∃H1,Cl H1 cid mid (c.out (.ptr (some (bid,0))) ou fi) L∧Evo (·=cid) H H1∧CK prog 82 [.ptr (some (cid,0)),.agg [.int .i64 0,.ptr (some (bid,0)),.int .i64 ou,.bool fi],.func f [] caps] H fun r H'=>r=sl (laidB m)∧H'=H1:=by
 obtain ⟨v,ho⟩:=hC.o
 have hlt:cid<H.length:=(zq1.1 ho).1
 have e0:=(Xt.refl H).app [outO 0 (.ptr (some (bid,0))) ou fi 0]
 have hC0:=hC.xt e0
 have ho0:=e0.get ho
 have hg0:=gL H (outO 0 (.ptr (some (bid,0))) ou fi 0)
 have E0:Evo (·=cid) H (H++[outO 0 (.ptr (some (bid,0))) ou fi 0]):=Evo.xt e0
 generalize hX0:H++[outO 0 (.ptr (some (bid,0))) ou fi 0]=X0 at *
 have hw:IntKind.i64.wrap (c.nn+1)=c.nn+1:=w64 (by omega) (by omega)
 have hws:IntKind.i64.wrap (c.se+1)=c.se+1:=w64 (by omega) (by omega)
 have hne:cid≠H.length:=by omega
 have k71:=c71 (off:=0+35) (n:=c.nn) 1 ho0 rfl
 rw [hw] at k71
 obtain ⟨hC1,E1⟩:=hC0.put { c with nn:=c.nn+1 } rfl (v+1)
 obtain ⟨X1,hX1⟩:∃X1,X0.set cid (cliO { c with nn:=c.nn+1 } (v+1))=X1:=⟨_,rfl⟩
 have k71':CK prog 71 [.ptr (some (cid,0+35)),.int .i64 1] X0 fun r H'=>r=.int .i64 (c.nn+1)∧H'=X1:=by rw [←hX1];exact k71
 have hg1:X1[H.length]? = some (outO 0 (.ptr (some (bid,0))) ou fi 0):=by rw [←hX1,zqj hne];exact hg0
 have ho1:X1[cid]? = some (cliO { c with nn:=c.nn+1 } (v+1)):=by rw [←hX1];exact gS ho0
 rw [hX1] at hC1 E1
 clear k71 hX1
 have E2:=(E0.trans E1).own hg1 (outT ..).1 (outT ..).2 (zqn _) (outO (c.nn+1) (.ptr (some (bid,0))) ou fi 1)
 have hC2:Cl (X1.set H.length (outO (c.nn+1) (.ptr (some (bid,0))) ou fi 1)) cid mid { c with nn:=c.nn+1 } L:=hC1.evo (S:=(·=H.length)) (Evo.setOther hg1 rfl (outT ..).1 (outT ..).2) hne (fun e=>by have:=(zq1.1 hC.a.choose_spec).1;have e:c.ca=H.length:=e;omega) (fun e=>by have:=(zq1.1 hC.m.ex.choose_spec).1;have e:mid=H.length:=e;omega)
 have hg2:(X1.set H.length (outO (c.nn+1) (.ptr (some (bid,0))) ou fi 1))[H.length]? = some (outO (c.nn+1) (.ptr (some (bid,0))) ou fi 1):=gS hg1
 have ho2:(X1.set H.length (outO (c.nn+1) (.ptr (some (bid,0))) ou fi 1))[cid]? = some (cliO { c with nn:=c.nn+1 } (v+1)):=by rw [zqj (Ne.symm hne)];exact ho1
 obtain ⟨hC3,E3⟩:=hC2.put { c with nn:=c.nn+1,on:=c.nn+1,ob:=.ptr (some (bid,0)),ou:=ou,fi:=fi } rfl (v+2)
 have hg3:((X1.set H.length (outO (c.nn+1) (.ptr (some (bid,0))) ou fi 1)).set cid (cliO { c with nn:=c.nn+1,on:=c.nn+1,ob:=.ptr (some (bid,0)),ou:=ou,fi:=fi } (v+2)))[H.length]? = some (outO (c.nn+1) (.ptr (some (bid,0))) ou fi 1):=by rw [zqj hne];exact hg2
 have ho3:((X1.set H.length (outO (c.nn+1) (.ptr (some (bid,0))) ou fi 1)).set cid (cliO { c with nn:=c.nn+1,on:=c.nn+1,ob:=.ptr (some (bid,0)),ou:=ou,fi:=fi } (v+2)))[cid]? = some (cliO { c with nn:=c.nn+1,on:=c.nn+1,ob:=.ptr (some (bid,0)),ou:=ou,fi:=fi } (v+2)):=gS ho2
 obtain ⟨hC4,E4⟩:=hC3.put (c.out (.ptr (some (bid,0))) ou fi) rfl (v+3)
 have hg4:(((X1.set H.length (outO (c.nn+1) (.ptr (some (bid,0))) ou fi 1)).set cid (cliO { c with nn:=c.nn+1,on:=c.nn+1,ob:=.ptr (some (bid,0)),ou:=ou,fi:=fi } (v+2))).set cid (cliO (c.out (.ptr (some (bid,0))) ou fi) (v+3)))[H.length]? = some (outO (c.nn+1) (.ptr (some (bid,0))) ou fi 1):=by rw [zqj hne];exact hg3
 have hXw:(((X1.set H.length (outO (c.nn+1) (.ptr (some (bid,0))) ou fi 1)).set cid (cliO { c with nn:=c.nn+1,on:=c.nn+1,ob:=.ptr (some (bid,0)),ou:=ou,fi:=fi } (v+2))).set cid (cliO { c.out (.ptr (some (bid,0))) ou fi with se:=IntKind.i64.wrap (c.se+1) } (v+3)))=(((X1.set H.length (outO (c.nn+1) (.ptr (some (bid,0))) ou fi 1)).set cid (cliO { c with nn:=c.nn+1,on:=c.nn+1,ob:=.ptr (some (bid,0)),ou:=ou,fi:=fi } (v+2))).set cid (cliO (c.out (.ptr (some (bid,0))) ou fi) (v+3))):=by rw [hws];rfl
 have hg4w:(((X1.set H.length (outO (c.nn+1) (.ptr (some (bid,0))) ou fi 1)).set cid (cliO { c with nn:=c.nn+1,on:=c.nn+1,ob:=.ptr (some (bid,0)),ou:=ou,fi:=fi } (v+2))).set cid (cliO { c.out (.ptr (some (bid,0))) ou fi with se:=IntKind.i64.wrap (c.se+1) } (v+3)))[H.length]? = some (outO (c.nn+1) (.ptr (some (bid,0))) ou fi 1):=by rw [hXw];exact hg4
 have E14:=(E2.trans E3).trans E4
 have kr:=hreq (((X1.set H.length (outO (c.nn+1) (.ptr (some (bid,0))) ou fi 1)).set cid (cliO { c with nn:=c.nn+1,on:=c.nn+1,ob:=.ptr (some (bid,0)),ou:=ou,fi:=fi } (v+2))).set cid (cliO (c.out (.ptr (some (bid,0))) ou fi) (v+3))) hC4.o E14
 have k72:=c72 m hm.2.2
 rw [encV_yes ⟨hm.1,hm.2.1⟩] at k72
 refine ⟨(((X1.set H.length (outO (c.nn+1) (.ptr (some (bid,0))) ou fi 1)).set cid (cliO { c with nn:=c.nn+1,on:=c.nn+1,ob:=.ptr (some (bid,0)),ou:=ou,fi:=fi } (v+2))).set cid (cliO (c.out (.ptr (some (bid,0))) ou fi) (v+3))),hC4,E14,?_⟩
 clear hC0 hC1 hC2 hC3 E2 E3 E4 E1 E0 hreq hC4 E14 hC
 (refine fnS (imm:=imm82) ttK_ok func82 ?_;(conv=>whnf))
 refine callK_at hX0 ?_
 refine cE k71' ?_
 conv=>whnf
 ((conv in (_[_]?)=>tactic=>exact hg1);(conv=>whnf))
 ((conv in (_[_]?)=>tactic=>exact hg2);(conv=>whnf))
 ((conv in (_[_]?)=>tactic=>exact ho2);(conv=>whnf))
 repeat ((conv in (_[_]?)=>tactic=>exact ho3);(conv=>whnf))
 ((conv in (_[_]?)=>tactic=>exact hg4w);(conv=>whnf))
 refine callK_at hXw ?_
 refine cE kr ?_
 conv=>whnf
 refine cP k72 ?_
 conv=>whnf
 exact ⟨rfl,rfl⟩
def asM (r n:List UInt8) (till nonce:Int):Msg:={ mZ with kind:=1,a1:=r,a2:=n,a3:=r,a4:=krb r,aTill:=till,aNonce:=nonce }
def z63o:PObj:=⟨63,mZ.cells,0⟩
def D85:Draw:={ imp:=[11] }
theorem c85 {H:PH} {cid:Nat} {c:Cs} {v:Nat} (ho:H[cid]? = some (cliO c v)) (hr:c.r.length≤1000000) (now nonce:Int) (h0:0≤now) (h1:now≤1073741824) :
  CK prog 85 [.int .i64 nonce,.elem [.ptr (some (cid,0))],.elem [.int .i64 now]] H fun x H'=>x=.agg (asM c.r c.n (tillI now) nonce).d.cells∧H'=H:=by
 refine (CK.gc (Q:=fun x H'=>x=.agg (asM c.r c.n (tillI now) nonce).d.cells∧Xt H H') ?_ (fun r H' h=>⟨by rw [h.1];exact old_cells (asM c.r c.n (tillI now) nonce),h.2⟩)).mono (fun x H' h=>⟨h.2.choose_spec.1,h.1⟩)
 have e1:=(Xt.refl H).app [z63o]
 have ho1:=e1.get ho
 have hg:=gL H z63o
 have k84:=c84 now h0 h1
 have k41:=c41 ho1 hr
 have e2:=e1.set (zqn _) (⟨63,(asM c.r c.n (tillI now) nonce).cells,1⟩:PObj)
 (refine fnS (imm:=imm85) ttK_ok func85 ?_;(conv=>whnf))
 refine drawK_of3 D85 [H++[z63o],(H++[z63o]).set H.length ⟨63,(asM c.r c.n (tillI now) nonce).cells,1⟩] _ (by kernel_rfl) rfl trivial rfl ?_
 conv=>whnf
 (repeat (first | ((first | (apply exA;(focus exact oN)) | refine bT ?_ | refine bF ?_ | refine bW (bT ?_) | refine bW (bF ?_) | (apply cP;(focus assumption)) | (apply cE;(focus assumption)) | refine ⟨by first | decide | omega,?_⟩);((conv=>whnf))) | ((conv in (_[_]?)=>tactic=>first | exact oL | exact gS (by assumption));(conv=>whnf))))
 exact ⟨rfl,e2⟩
theorem o3 {A:Prop} (h:A:=by
 (conv=>whnf);apply And.intro
 ·exact oN
 ·(conv=>whnf);apply And.intro
  ·exact oN
  ·exact oN):A:=h
theorem o2x {A:Prop} (h:A:=by
 (conv=>whnf);apply And.intro
 ·exact oN
 ·exact oN):A:=h
theorem dX {O R:PV→Prop} {v:PV} (k:R v) (h:O v:=by first | exact oR | exact o2x | exact o3):∃v,O v∧R v:=⟨v,h,k⟩
theorem wX {A:Prop} (h:A:=by
 repeat (first | (first | ((first | (apply exA;(focus exact oN)) | refine bT ?_ | refine bF ?_ | refine bW (bT ?_) | refine bW (bF ?_) | (apply cP;(focus assumption)) | (apply cE;(focus assumption)) | refine ⟨by first | decide | omega,?_⟩);((conv=>whnf))) | ((conv in (_[_]?)=>tactic=>first | exact oL | exact gS (by assumption));(conv=>whnf))) | (refine dX ?_;(conv=>whnf)))
 exact ⟨rfl,rfl⟩):A:=h
theorem wR {A:Prop} (h:A:=by
 repeat (first | (first | ((first | (apply exA;(focus exact oN)) | refine bT ?_ | refine bF ?_ | refine bW (bT ?_) | refine bW (bF ?_) | (apply cP;(focus assumption)) | (apply cE;(focus assumption)) | refine ⟨by first | decide | omega,?_⟩);((conv=>whnf))) | ((conv in (_[_]?)=>tactic=>first | exact oL | exact gS (by assumption));(conv=>whnf))) | (refine dX ?_;(conv=>whnf)))
 rfl):A:=h
theorem newBox (H:PH) {k:List UInt8} (hk:k.length=32):BoxAt (H++[speckO (k.take 16),boxO k H.length]) (H.length+1) k:=by
 refine ⟨hk,H.length,0,0,0,0,speckO (k.take 16),?_,?_,speck_key _⟩
 ·rw [zqi (by omega),show H.length+1 - H.length=1 by omega];rfl
 ·rw [zqi (by omega),show H.length - H.length=0 by omega];rfl
def D43:Draw:={ imp:=[10,13],win:=[(0,0,2),(1,0,2),(2,0,2),(3,0,2),(4,0,2),(5,0,1),(11,1,1),(12,0,1),(13,1,1),(14,2,2),(15,2,2)] }
theorem c43 {H:PH} {cid mid:Nat} {c:Cs} {L:List Crd} (hC:Cl H cid mid c L) (now:Int) (hn0:0≤now) (hn1:now≤1073741824) (hr:c.r.length≤1000000) (hm:msgOk (asM c.r c.n (tillI now) (c.nn+1)).d)
  (h0:0≤c.nn) (h1:c.nn≤100000) (h2:0≤c.se) (h3:c.se≤100000) :
  ∃H1 bid,BoxAt H1 bid (keyB c.k)∧Cl H1 cid mid (c.out (.ptr (some (bid,0))) 3 true) L∧Evo (·=cid) H H1∧CK prog 43 [.ptr (some (cid,0)),.int .i64 now] H fun r H'=>r=.tup [.str c.r,sl (laidB (asM c.r c.n (tillI now) (c.nn+1)))]∧H'=H1:=by
 obtain ⟨v,ho⟩:=hC.o
 have e1:=(Xt.refl H).app [speckO ((keyB c.k).take 16),boxO (keyB c.k) H.length]
 have hb:=newBox H (keyB_len c.k)
 have k70:=c70 (keyB c.k) (keyB_len c.k) H
 have ho1:=e1.get ho
 obtain ⟨H1,g1,g2,g3⟩:=c82 (hC.xt e1) (H.length+1) 3 true 85 [.elem [.ptr (some (cid,0))],.elem [.int .i64 now]] (asM c.r c.n (tillI now) (c.nn+1)).d hm h0 h1 h2 h3 rfl
  (fun H' ⟨v,ho⟩ _=>c85 (c:=c.out (.ptr (some (H.length+1,0))) 3 true) ho hr now (c.nn+1) hn0 hn1)
 refine ⟨H1,H.length+1,g2.box _ _ hb,g1,(Evo.xt e1).trans g2,?_⟩
 obtain ⟨v2,ho2⟩:=g1.o
 clear g1 g2 hm hC e1 hb
 generalize hX:H++[speckO ((keyB c.k).take 16),boxO (keyB c.k) H.length]=X at *
 (refine fnS (imm:=imm43) ttK_ok func43 ?_;(conv=>whnf))
 refine drawK_of3 D43 [H,X,H1] _ (by kernel_rfl) rfl trivial rfl ?_
 conv=>whnf
 exact wX
theorem o4 {A:Prop} (h:A:=by
 (conv=>whnf);apply And.intro
 ·exact oN
 ·exact o3):A:=h
theorem o5 {A:Prop} (h:A:=by
 (conv=>whnf);apply And.intro
 ·exact oN
 ·exact o4):A:=h
theorem dY {O R:PV→Prop} {v:PV} (k:R v) (h:O v:=by first | exact o4 | exact o5):∃v,O v∧R v:=⟨v,h,k⟩
def D14a:Draw:={ imp:=[8,11,14,17,20],win:=[(1,0,1),(2,0,2),(3,0,3),(4,0,4),(5,0,3),(9,1,1),(10,1,1),(11,1,1),(12,2,2),(13,2,2),(14,2,2),(15,3,3),(16,3,3),(17,3,3),(18,4,4),(19,4,4),(20,4,4)] }
def D14b (b:Nat):Draw:={ imp:=[12],win:=[(10,0,1),(13,1,1)],robs:=[z83c],res:=[(11,0)],base:=b }
def Cs.beg (c:Cs) (tr tn:List UInt8):Cs:={ c with st:=1,er:=0,se:=0,tr:=tr,tn:=tn,vis:=.nilS }
theorem c14f {H:PH} {cid mid:Nat} {c:Cs} {L:List Crd} (hC:Cl H cid mid c L) (hst:c.st≠1) (hr:c.r.length≤1000000) (tr tn:List UInt8) (h1:tr.length≤1000000) (h2:tn.length≤1000000) (hu:isUserB tr tn=true) (now:Int) (hn0:0≤now) (hn1:now≤1073741824)
  (hf:findL c.r (krb c.r) L=none∨∃y,findL c.r (krb c.r) L=some y∧y.en<now)
  (hm:msgOk (asM c.r c.n (tillI now) (c.nn+1)).d) (h0:0≤c.nn) (h3:c.nn≤100000) :
  ∃H1 bid,BoxAt H1 bid (keyB c.k)∧Cl H1 cid mid ((c.beg tr tn).out (.ptr (some (bid,0))) 3 true) L∧Evo (Wc cid mid) H H1∧CK prog 14 [.ptr (some (cid,0)),.agg [.str tr,.str tn],.int .i64 now] H fun r H'=>r=.tup [.str c.r,sl (laidB (asM c.r c.n (tillI now) (c.nn+1))),.int .i64 0]∧H'=H1:=by
 obtain ⟨v,ho⟩:=hC.o
 have k38:Pure prog 38 [.agg [.str tr,.str tn]] (.bool true):=(c38 tr tn (by omega) (by omega)).of_eq (by rw [hu])
 have k39:Pure prog 39 [.int .i64 now] (.bool true):=(c39 now).of_eq (by rw [inZ_of hn0 hn1])
 obtain ⟨hC1,e1⟩:=hC.put { c with st:=1 } rfl (v+1)
 have ho1:=gS (o':=cliO { c with st:=1 } (v+1)) ho
 obtain ⟨hC2,e2⟩:=hC1.put { c with st:=1,er:=0 } rfl (v+2)
 have ho2:=gS (o':=cliO { c with st:=1,er:=0 } (v+2)) ho1
 obtain ⟨hC3,e3⟩:=hC2.put { c with st:=1,er:=0,se:=0 } rfl (v+3)
 have ho3:=gS (o':=cliO { c with st:=1,er:=0,se:=0 } (v+3)) ho2
 obtain ⟨hC4,e4⟩:=hC3.put { c with st:=1,er:=0,se:=0,tr:=tr,tn:=tn } rfl (v+4)
 have ho4:=gS (o':=cliO { c with st:=1,er:=0,se:=0,tr:=tr,tn:=tn } (v+4)) ho3
 obtain ⟨hC5,e5⟩:=hC4.put (c.beg tr tn) rfl (v+5)
 have ho5:=gS (o':=cliO (c.beg tr tn) (v+5)) ho4
 have E5:=(((e1.trans e2).trans e3).trans e4).trans e5
 generalize hY5:(((((H.set cid (cliO { c with st:=1 } (v+1))).set cid (cliO { c with st:=1,er:=0 } (v+2))).set cid (cliO { c with st:=1,er:=0,se:=0 } (v+3))).set cid (cliO { c with st:=1,er:=0,se:=0,tr:=tr,tn:=tn } (v+4))).set cid (cliO (c.beg tr tn) (v+5)))=Y5 at hC5 E5 ho5
 clear hC1 hC2 hC3 hC4 e1 e2 e3 e4 e5
 have x6:=(Xt.refl Y5).app [z83c]
 have hC6:=hC5.xt x6
 have g6:=gL Y5 z83c
 obtain ⟨v6,ho6⟩:=hC6.o
 obtain ⟨w6,ha6⟩:=hC6.a
 obtain ⟨u6,hm6⟩:=hC6.m.ex
 have k41:=c41 ho6 hr
 have k40:CK prog 40 [.ptr (some (c.ca,0)),.agg [.str c.r,.str (krb c.r)],.int .i64 now] (Y5++[z83c]) fun x H'=>x=.tup [.agg zCrd.cells,.bool false]∧H'=Y5++[z83c]:=by
  rcases hf with hf | ⟨y,hf,hy⟩
  ·exact c40n now ha6 hm6 hf
  ·exact c40o now ha6 hm6 hf hy
 have x7:=x6.set (zqn _) (⟨83,zCrd.cells,1⟩:PObj)
 generalize hY7:(Y5++[z83c]).set Y5.length (⟨83,zCrd.cells,1⟩:PObj)=Y7 at *
 have hC7:=hC5.xt x7
 obtain ⟨H1,bid,hb,hC8,e8,k43⟩:=c43 hC7 now hn0 hn1 hr hm h0 h3 (Int.le_refl _) (by show (0:Int)≤100000;omega)
 refine ⟨H1,bid,hb,hC8,(E5.trans ((Evo.xt x7).trans e8)).c,?_⟩
 clear hb hC8 e8 hC7 x7 hm6 ha6 hC6 x6 E5 hC5 hf hm hC
 (refine fnS (imm:=imm14) ttK_ok func14 ?_;(conv=>whnf))
 repeat (first | (first | ((first | (apply exA;(focus exact oN)) | refine bT ?_ | refine bF ?_ | refine bW (bT ?_) | refine bW (bF ?_) | (apply cP;(focus assumption)) | (apply cE;(focus assumption)) | refine ⟨by first | decide | omega,?_⟩);((conv=>whnf))) | ((conv in (_[_]?)=>tactic=>first | exact oL | exact gS (by assumption));(conv=>whnf))) | (refine dX ?_;(conv=>whnf)))
 refine drawK_of3 D14a [H,(H.set cid (cliO { c with st:=1 } (v+1))),((H.set cid (cliO { c with st:=1 } (v+1))).set cid (cliO { c with st:=1,er:=0 } (v+2))),(((H.set cid (cliO { c with st:=1 } (v+1))).set cid (cliO { c with st:=1,er:=0 } (v+2))).set cid (cliO { c with st:=1,er:=0,se:=0 } (v+3))),((((H.set cid (cliO { c with st:=1 } (v+1))).set cid (cliO { c with st:=1,er:=0 } (v+2))).set cid (cliO { c with st:=1,er:=0,se:=0 } (v+3))).set cid (cliO { c with st:=1,er:=0,se:=0,tr:=tr,tn:=tn } (v+4))),(((((H.set cid (cliO { c with st:=1 } (v+1))).set cid (cliO { c with st:=1,er:=0 } (v+2))).set cid (cliO { c with st:=1,er:=0,se:=0 } (v+3))).set cid (cliO { c with st:=1,er:=0,se:=0,tr:=tr,tn:=tn } (v+4))).set cid (cliO (c.beg tr tn) (v+5)))] _ (by kernel_rfl) rfl trivial hY5 ?_
 conv=>whnf
 repeat (first | (first | ((first | (apply exA;(focus exact oN)) | refine bT ?_ | refine bF ?_ | refine bW (bT ?_) | refine bW (bF ?_) | (apply cP;(focus assumption)) | (apply cE;(focus assumption)) | refine ⟨by first | decide | omega,?_⟩);((conv=>whnf))) | ((conv in (_[_]?)=>tactic=>first | exact oL | exact gS (by assumption));(conv=>whnf))) | (refine dX ?_;(conv=>whnf)) | (refine dY ?_;(conv=>whnf)))
 refine drawK_of3 (D14b Y5.length) [Y5++[z83c],(Y5++[z83c]).set Y5.length (⟨83,zCrd.cells,1⟩:PObj)] _ (by kernel_rfl) ⟨rfl,rfl⟩ trivial hY7 ?_
 conv=>whnf
 exact wX
theorem c14s {H:PH} {cid:Nat} {c:Cs} {v:Nat} (ho:H[cid]? = some (cliO c v)) (hst:c.st=1) (tr tn:List UInt8) (now:Int) :
  CK prog 14 [.ptr (some (cid,0)),.agg [.str tr,.str tn],.int .i64 now] H fun r H'=>r=.tup [.str [],.slice 0 [] (some 5),.int .i64 16]∧H'=H:=by
 (refine fnS (imm:=imm14) ttK_ok func14 ?_;(conv=>whnf))
 exact wX
theorem c14b {H:PH} {cid:Nat} {c:Cs} {v:Nat} (ho:H[cid]? = some (cliO c v)) (hst:c.st≠1) (tr tn:List UInt8) (h1:tr.length≤1000000) (h2:tn.length≤1000000) (now:Int) (hb:(isUserB tr tn&&inZ now 0 1073741824)=false) :
  CK prog 14 [.ptr (some (cid,0)),.agg [.str tr,.str tn],.int .i64 now] H fun r H'=>r=.tup [.str [],.slice 0 [] (some 5),.int .i64 1]∧H'=H:=by
 have k38:=c38 tr tn (by omega) (by omega)
 have k39:=c39 now
 generalize isUserB tr tn=b1 at *
 generalize inZ now 0 1073741824=b2 at *
 cases b1
 ·(refine fnS (imm:=imm14) ttK_ok func14 ?_;(conv=>whnf))
  exact wX
 ·cases b2
  ·(refine fnS (imm:=imm14) ttK_ok func14 ?_;(conv=>whnf))
   exact wX
  ·cases hb
theorem c14n (H:PH) (p:PV) (tr tn:List UInt8) (now:Int) :
  CK prog 14 [.ptr none,.agg [.str tr,.str tn],.int .i64 now] H fun r H'=>r=.tup [.str [],.slice 0 [] (some 5),.int .i64 1]∧H'=H:=by
 (refine fnS (imm:=imm14) ttK_ok func14 ?_;(conv=>whnf))
 exact wX
theorem c20 {H:PH} {cid:Nat} {c:Cs} {v:Nat} (ho:H[cid]? = some (cliO c v)) :
  CK prog 20 [.ptr (some (cid,0))] H fun r H'=>r=.tup [.int .i64 c.st,.int .i64 c.er,.int .i64 c.se]∧H'=H:=by
 (refine fnS (imm:=imm20) ttK_ok func20 ?_;(conv=>whnf))
 repeat (first | (first | ((first | (apply exA;(focus exact oN)) | refine bT ?_ | refine bF ?_ | refine bW (bT ?_) | refine bW (bF ?_) | (apply cP;(focus assumption)) | (apply cE;(focus assumption)) | refine ⟨by first | decide | omega,?_⟩);((conv=>whnf))) | ((conv in (_[_]?)=>tactic=>first | exact oL | exact gS (by assumption));(conv=>whnf))) | (refine dX ?_;(conv=>whnf)) | (refine dP2 (by kernel_rfl) ?_;(conv=>whnf)))
 exact ⟨rfl,rfl⟩
theorem c20n (H:PH):CK prog 20 [.ptr none] H fun r H'=>r=.tup [.int .i64 0,.int .i64 0,.int .i64 0]∧H'=H:=by
 (refine fnS (imm:=imm20) ttK_ok func20 ?_;(conv=>whnf))
 exact wX
theorem c28n (H:PH) (tr tn:List UInt8) (now:Int) :
  CK prog 28 [.ptr none,.agg [.str tr,.str tn],.int .i64 now] H fun r H'=>r=.tup [.slice 0 [] (some 5),.int .i64 1]∧H'=H:=by
 (refine fnS (imm:=imm28) ttK_ok func28 ?_;(conv=>whnf))
 exact wX
theorem c31n (H:PH) (tr tn:List UInt8) (now:Int) :
  CK prog 31 [.ptr none,.agg [.str tr,.str tn],.int .i64 now] H fun r H'=>r=.tup [.agg zCrd.cells,.bool false]∧H'=H:=by
 refine (CK.gc (Q:=fun x H'=>x=.tup [.agg zCrd.cells,.bool false]∧Xt H H') ?_ (fun r H' h=>⟨by rw [h.1];rfl,h.2⟩)).mono (fun x H' h=>⟨h.2.choose_spec.1,h.1⟩)
 have e1:=((Xt.refl H).app [z83c]).set (zqn _) (⟨83,z83c.cs,1⟩:PObj)
 have g1:=gL H z83c
 (refine fnS (imm:=imm31) ttK_ok func31 ?_;(conv=>whnf))
 repeat (first | (first | ((first | (apply exA;(focus exact oN)) | refine bT ?_ | refine bF ?_ | refine bW (bT ?_) | refine bW (bF ?_) | (apply cP;(focus assumption)) | (apply cE;(focus assumption)) | refine ⟨by first | decide | omega,?_⟩);((conv=>whnf))) | ((conv in (_[_]?)=>tactic=>first | exact oL | exact gS (by assumption));(conv=>whnf))) | (refine dX ?_;(conv=>whnf)))
 exact ⟨rfl,e1⟩
theorem c17z (H:PH) (b:List UInt8) (m:Msg) (e:Int) (hd:Pure prog 44 [sl b] (.tup [.agg m.d.cells,.int .i64 e])) (now:Int) :
  CK prog 17 [.ptr none,sl b,.int .i64 now] H fun r H'=>r=.tup [.str [],.slice 0 [] (some 5)]∧H'=H:=by
 refine (CK.gc (Q:=fun x H'=>x=.tup [.str [],.slice 0 [] (some 5)]∧Xt H H') ?_ (fun r H' h=>⟨by rw [h.1];rfl,h.2⟩)).mono (fun x H' h=>⟨h.2.choose_spec.1,h.1⟩)
 have e1:=((Xt.refl H).app [z63o]).set (zqn _) (⟨63,m.d.cells,1⟩:PObj)
 have g0:=gL H z63o
 (refine fnS (imm:=imm17) ttK_ok func17 ?_;(conv=>whnf))
 repeat (first | (first | ((first | (apply exA;(focus exact oN)) | refine bT ?_ | refine bF ?_ | refine bW (bT ?_) | refine bW (bF ?_) | (apply cP;(focus assumption)) | (apply cE;(focus assumption)) | refine ⟨by first | decide | omega,?_⟩);((conv=>whnf))) | ((conv in (_[_]?)=>tactic=>first | exact oL | exact gS (by assumption));(conv=>whnf))) | (refine dX ?_;(conv=>whnf)))
 exact ⟨rfl,e1⟩
theorem c77 (H:PH):CK prog 77 [] H fun r H'=>r=.ptr (some (H.length+1,0))∧H'=H++[mapO [] 0]++[cacheO H.length 0]:=by
 have hl:(H++[mapO [] 0]).length=H.length+1:=by simp
 (refine fnS (imm:=imm77) ttK_ok func77 ?_;(conv=>whnf))
 exact ⟨zqm (fun i=>PV.ptr (some (i,0))) hl,rfl⟩
def cli0 (r n:List UInt8) (k:Nat→UInt8) (ca:Nat):Cs:=⟨r,n,k,ca,0,0,0,0,0,0,[],[],.slice 0 [] (some 9),0,.ptr none,0,false⟩
def D34:Draw:={ imp:=[2,4],win:=[(0,0,1),(1,0,1),(3,1,1),(4,1,1),(5,2,2),(6,2,2)] }
theorem c34 (H:PH) (r n:List UInt8) (k:Nat→UInt8) (h1:r.length≤1000000) (h2:n.length≤1000000) (hu:isUserB r n=true) :
  ∃H1 cid mid,Cl H1 cid mid (cli0 r n k (mid+1)) []∧Evo (fun _=>False) H H1∧H.length≤mid∧H.length≤cid∧CK prog 34 [.agg [.str r,.str n],.agg (keyC k)] H fun x H'=>x=.tup [.ptr (some (cid,0)),.int .i64 0]∧H'=H1:=by
 have k38:Pure prog 38 [.agg [.str r,.str n]] (.bool true):=(c38 r n (by omega) (by omega)).of_eq (by rw [hu])
 have k77:=c77 H
 have e1:=((Xt.refl H).app [mapO [] 0]).app [cacheO H.length 0]
 have ga:=gA2 H (mapO [] 0) (cacheO H.length 0)
 have gb:=gL (H++[mapO [] 0]) (cacheO H.length 0)
 have hl:(H++[mapO [] 0]).length=H.length+1:=by simp
 rw [hl] at gb
 have hl2:(H++[mapO [] 0]++[cacheO H.length 0]).length=H.length+2:=by simp
 generalize hX:H++[mapO [] 0]++[cacheO H.length 0]=X at *
 have e2:=(Xt.refl X).app [cliO (cli0 r n k (H.length+1)) 0]
 refine ⟨X++[cliO (cli0 r n k (H.length+1)) 0],X.length,H.length,⟨⟨0,gL _ _⟩,⟨0,e2.get gb⟩,⟨0,e2.get ga⟩⟩,(Evo.xt e1).trans (Evo.xt e2),zqn _,by omega,?_⟩
 (refine fnS (imm:=imm34) ttK_ok func34 ?_;(conv=>whnf))
 repeat (first | (first | ((first | (apply exA;(focus exact oN)) | refine bT ?_ | refine bF ?_ | refine bW (bT ?_) | refine bW (bF ?_) | (apply cP;(focus assumption)) | (apply cE;(focus assumption)) | refine ⟨by first | decide | omega,?_⟩);((conv=>whnf))) | ((conv in (_[_]?)=>tactic=>first | exact oL | exact gS (by assumption));(conv=>whnf))) | (refine dX ?_;(conv=>whnf)))
 refine drawK_of3 D34 [H,X,X++[cliO (cli0 r n k (H.length+1)) 0]] _ (by kernel_rfl) rfl trivial rfl ?_
 conv=>whnf
 exact wX
theorem c34n (H:PH) (r n:List UInt8) (k:Nat→UInt8) (h1:r.length≤1000000) (h2:n.length≤1000000) (hu:isUserB r n=false) :
  CK prog 34 [.agg [.str r,.str n],.agg (keyC k)] H fun x H'=>x=.tup [.ptr none,.int .i64 1]∧H'=H:=by
 have k38:Pure prog 38 [.agg [.str r,.str n]] (.bool false):=(c38 r n (by omega) (by omega)).of_eq (by rw [hu])
 (refine fnS (imm:=imm34) ttK_ok func34 ?_;(conv=>whnf))
 exact wX
/-! The laws' own: ann, mail, what is out. -/
def aR:List UInt8:=[65]
def aN:List UInt8:=[97,110,110]
def sR:List UInt8:=[83]
def mN:List UInt8:=[109,97,105,108]
def k9:Nat→UInt8:=fun i=>if i=0 then 9 else 0
theorem c25:Pure prog 25 [] (.agg [.str aR,.str aN]):=by
 refine Pure.of_gc rfl fun H=>?_
 have e1:=((Xt.refl H).app [z36o]).set (zqn _) (⟨36,[.str aR,.str aN],1⟩:PObj)
 have g1:=gL H z36o
 (refine fnS (imm:=imm25) ttK_ok func25 ?_;(conv=>whnf))
 repeat (first | (first | ((first | (apply exA;(focus exact oN)) | refine bT ?_ | refine bF ?_ | refine bW (bT ?_) | refine bW (bF ?_) | (apply cP;(focus assumption)) | (apply cE;(focus assumption)) | refine ⟨by first | decide | omega,?_⟩);((conv=>whnf))) | ((conv in (_[_]?)=>tactic=>first | exact oL | exact gS (by assumption));(conv=>whnf))) | (refine dX ?_;(conv=>whnf)))
 exact ⟨rfl,e1⟩
theorem c15:Pure prog 15 [] (.agg [.str sR,.str mN]):=by
 refine Pure.of_gc rfl fun H=>?_
 have e1:=((Xt.refl H).app [z36o]).set (zqn _) (⟨36,[.str sR,.str mN],1⟩:PObj)
 have g1:=gL H z36o
 (refine fnS (imm:=imm15) ttK_ok func15 ?_;(conv=>whnf))
 repeat (first | (first | ((first | (apply exA;(focus exact oN)) | refine bT ?_ | refine bF ?_ | refine bW (bT ?_) | refine bW (bF ?_) | (apply cP;(focus assumption)) | (apply cE;(focus assumption)) | refine ⟨by first | decide | omega,?_⟩);((conv=>whnf))) | ((conv in (_[_]?)=>tactic=>first | exact oL | exact gS (by assumption));(conv=>whnf))) | (refine dX ?_;(conv=>whnf)))
 exact ⟨rfl,e1⟩
theorem c37 (H:PH) (r n:List UInt8) (k:Nat→UInt8) (h1:r.length≤1000000) (h2:n.length≤1000000) (hu:isUserB r n=true) :
  ∃o:PObj,o.T=90∧CK prog 37 [.agg [.str r,.str n],.agg (keyC k)] H fun x H'=>x=.tup [.ptr (some (H.length,0)),.int .i64 0]∧H'=H++[o]:=by
 have k35:=c35 n (by omega)
 have k36:=c36 r n (by omega) (by omega)
 unfold isUserB at hu
 rw [zqb,Bool.not_eq_true'] at hu
 rw [hu.1] at k36
 rw [hu.2] at k35
 refine ⟨⟨90,[.str r,.str n]++keyC k++([.slice 0 [] (some 156)]++List.replicate 6 (.int .i64 0)++[.str [],.str [],.slice 0 [] (some 9)]++List.replicate 32 (.int .u8 0)++[.int .i64 0,.bool false]),0⟩,rfl,?_⟩
 (refine fnS (imm:=imm37) ttK_ok func37 ?_;(conv=>whnf))
 exact wX
def pairO (cid xid:Nat) (n:Int) (k:Nat→UInt8) (u:Int) (v:Nat):PObj:=⟨33,[.ptr (some (cid,0)),.ptr (some (xid,0)),.int .i64 n]++keyC k++[.int .i64 u],v⟩
theorem pairT (cid xid:Nat) (n:Int) (k:Nat→UInt8) (u:Int) (v:Nat):(pairO cid xid n k u v).T≠keyT∧(pairO cid xid n k u v).T≠boxT:=⟨fun h=>absurd (show 33=keyT from h) (by decide),fun h=>absurd (show 33=boxT from h) (by decide)⟩
structure Pr (H:PH) (pid xid cid mid:Nat) (n:Int) (k:Nat→UInt8) (u:Int) (c:Cs) (L:List Crd):Prop where
 p:∃v,H[pid]? = some (pairO cid xid n k u v)
 cl:Cl H cid mid c L
theorem Pr.ne {H:PH} {pid xid cid mid:Nat} {n:Int} {k:Nat→UInt8} {u:Int} {c:Cs} {L:List Crd} (h:Pr H pid xid cid mid n k u c L):pid≠cid∧pid≠c.ca∧pid≠mid:=by
 obtain ⟨⟨v,h0⟩,⟨⟨w,h1⟩,⟨x,h2⟩,⟨y,h3⟩⟩⟩:=h
 exact ⟨ne_of_T h0 h1 (show 33≠110 by decide),ne_of_T h0 h2 (show 33≠160 by decide),ne_of_T h0 h3 (show 33≠158 by decide)⟩
theorem Pr.go {H H':PH} {pid xid cid mid:Nat} {n:Int} {k:Nat→UInt8} {u:Int} {c c':Cs} {L L':List Crd} (h:Pr H pid xid cid mid n k u c L) (e:Evo (Wc cid mid) H H') (hc:Cl H' cid mid c' L'):Pr H' pid xid cid mid n k u c' L':=by
 obtain ⟨h1,h2,h3⟩:=h.ne
 obtain ⟨v,h0⟩:=h.p
 exact ⟨⟨v,e.same _ _ h0 (fun h=>h.elim h1 h3) (pairT ..).1 (pairT ..).2⟩,hc⟩
theorem uAnn:isUserB aR aN=true:=by kernel_rfl
theorem uMail:isUserB sR mN=true:=by kernel_rfl
theorem c13 (H:PH):∃H1 pid xid cid mid,Pr H1 pid xid cid mid 0 k9 3 (cli0 aR aN k9 (mid+1)) []∧H.length≤H1.length∧CK prog 13 [] H fun r H'=>r=.ptr (some (pid,0))∧H'=H1:=by
 have k25:=c25
 obtain ⟨H1,cid,mid,hC,e1,_,_,k34⟩:=c34 H aR aN k9 (by decide) (by decide) uAnn
 obtain ⟨o,ho,k37⟩:=c37 H1 aR aN k9 (by decide) (by decide) uAnn
 have e2:=((Xt.refl H1).app [o]).app [pairO cid H1.length 0 k9 3 0]
 refine ⟨H1++[o]++[pairO cid H1.length 0 k9 3 0],(H1++[o]).length,H1.length,cid,mid,⟨⟨0,gL _ _⟩,hC.xt e2⟩,Nat.le_trans e1.len e2.len,?_⟩
 clear hC e1 e2
 have k34':CK prog 34 [.agg [.str aR,.str aN],.agg ([.int .u8 9]++List.replicate 31 (.int .u8 0))] H fun x H'=>x=.tup [.ptr (some (cid,0)),.int .i64 0]∧H'=H1:=k34
 have k37':CK prog 37 [.agg [.str aR,.str aN],.agg ([.int .u8 9]++List.replicate 31 (.int .u8 0))] H1 fun x H'=>x=.tup [.ptr (some (H1.length,0)),.int .i64 0]∧H'=H1++[o]:=k37
 clear k34 k37
 (refine fnS (imm:=imm13) ttK_ok func13 ?_;(conv=>whnf))
 exact wX
theorem msgOk_d {m:Msg} (h:msgOk m):msgOk m.d:=h
theorem asOk {r n:List UInt8} {till nonce:Int} (h1:isPrincB r n=true) (h2:isPrincB r (krb r)=true) (h3:inZ till 0 1073741824=true) (h4:inZ nonce 0 1073741824=true):msgOk (asM r n till nonce):=by
 have g1:=princ_len h1
 have g2:=princ_len h2
 refine ⟨?_,?_,?_⟩
 ·show (isPrincB r n&&isPrincB r (krb r)&&inZ till 0 1073741824&&inZ nonce 0 1073741824&&othersB (asM r n till nonce))=true
  rw [h1,h2,h3,h4,show othersB (asM r n till nonce)=true from rfl];rfl
 ·have a0:=wrapB_len 106 [princE r n,princE r (krb r),intE till,intE nonce].flatten
  have a1:=princE_len r n
  have a2:=princE_len r (krb r)
  have a3:=intE_len till
  have a4:=intE_len nonce
  show (wrapB 106 [princE r n,princE r (krb r),intE till,intE nonce].flatten).length≤2000
  simp only [zqk,zql,zqf,List.length_nil] at a0 ⊢
  omega
 ·refine ⟨?_,?_,?_,?_,Nat.zero_le _,Nat.zero_le _,Nat.zero_le _,Nat.zero_le _,Nat.zero_le _,Nat.zero_le _,Nat.zero_le _,Nat.zero_le _,Nat.zero_le _,Nat.zero_le _⟩
  ·show r.length≤_;omega
  ·show n.length≤_;omega
  ·show r.length≤_;omega
  ·show (krb r).length≤_;omega
theorem tgt_krb {r:List UInt8} (h:isRealmB r=true):targetB (krb r)=(r,true):=by
 unfold targetB krb
 rw [show (krbB.isPrefixOf (krbB++r))=true from by simp [krbB],show (krbB++r).drop 7=r from rfl,h];rfl
theorem prKrb {r x:List UInt8} (h1:isRealmB r=true) (h2:isRealmB x=true):isPrincB r (krb x)=true:=by
 unfold isPrincB;rw [h1,tgt_krb h2];rfl
theorem pr_realm {r n:List UInt8} (h:isPrincB r n=true):isRealmB r=true:=by
 unfold isPrincB at h;rw [zqb] at h;exact h.1
theorem user_princ {r n:List UInt8} (h:isUserB r n=true):isPrincB r n=true:=by
 unfold isUserB at h;rw [zqb] at h;exact h.1
theorem rA:isRealmB aR=true:=by kernel_rfl
theorem tillZ {now:Int} (h0:0≤now):inZ (tillI now) 0 1073741824=true:=inZ_of (by unfold tillI;omega) (by unfold tillI;omega)
/-! What is answered. -/
def C1 (ca bid:Nat) (q:Int):Cs:=⟨aR,aN,k9,ca,q,0,0,1,0,1,sR,mN,.nilS,q,.ptr (some (bid,0)),3,true⟩
theorem prAnn:isPrincB aR aN=true:=user_princ uAnn
theorem prTgt:isPrincB aR (krb aR)=true:=prKrb rA rA
def m1 (now q:Int):Msg:=asM aR aN (tillI now) q
theorem m1Ok {now q:Int} (h0:0≤now) (h1:0≤q) (h2:q≤1000):msgOk (m1 now q):=asOk prAnn prTgt (tillZ h0) (inZ_of h1 (by omega))
theorem chase1 {H:PH} {pid xid cid mid ca:Nat} (hP:Pr H pid xid cid mid 0 k9 3 (cli0 aR aN k9 ca) []) (now:Int) (h0:0≤now) (h1:now≤1073741824) :
  ∃H1 bid,BoxAt H1 bid (keyB k9)∧Pr H1 pid xid cid mid 0 k9 3 (C1 ca bid 1) []∧CK prog 14 [.ptr (some (cid,0)),.agg [.str sR,.str mN],.int .i64 now] H fun r H'=>r=.tup [.str aR,sl (laidB (m1 now 1)),.int .i64 0]∧H'=H1:=by
 obtain ⟨H1,bid,hb,hC,e,k⟩:=c14f hP.cl (show (0:Int)≠1 by decide) (show aR.length≤1000000 by decide) sR mN (by decide) (by decide) uMail now h0 h1 (.inl rfl) (msgOk_d (m1Ok (q:=1) h0 (by decide) (by decide))) (Int.le_refl _) (show (0:Int)≤100000 by decide)
 exact ⟨H1,bid,hb,hP.go e hC,k⟩
def D21:Draw:={ imp:=[5],win:=[(6,1,1),(7,1,1),(8,1,1),(9,1,1),(10,1,1),(11,1,1),(12,1,1)] }
theorem c21 (H:PH):∃H1,CK prog 21 [] H fun r H'=>r=.bool true∧H'=H1:=by
 obtain ⟨H1,pid,xid,cid,mid,hP,_,k13⟩:=c13 H
 obtain ⟨H2,bid,hb,hP2,k14⟩:=chase1 hP 1 (by decide) (by decide)
 obtain ⟨v,ho⟩:=hP2.cl.o
 obtain ⟨w,hp⟩:=hP.p
 obtain ⟨w2,hp2⟩:=hP2.p
 have k14b:=c14s ho rfl sR mN 1
 have k20:=c20 ho
 have k15:=c15
 have hl:0<(laidB (m1 1 1)).length:=by
  show 0<(wrapB 106 _).length
  simp [wrapB]
 have hl':((0:Int)<((laidB (m1 1 1)).length:Nat)):=by omega
 refine ⟨H2,?_⟩
 clear hP2 hb hP ho
 generalize laidB (m1 1 1)=b at *
 (refine fnS (imm:=imm21) ttK_ok func21 ?_;(conv=>whnf))
 repeat (first | (first | ((first | (apply exA;(focus exact oN)) | refine bT ?_ | refine bF ?_ | refine bW (bT ?_) | refine bW (bF ?_) | (apply cP;(focus assumption)) | (apply cE;(focus assumption)) | refine ⟨by first | decide | omega,?_⟩);((conv=>whnf))) | ((conv in (_[_]?)=>tactic=>first | exact oL | exact gS (by assumption));(conv=>whnf))) | (refine dX ?_;(conv=>whnf)))
 refine drawK_of3 D21 [H1,H2] _ (by kernel_rfl) rfl trivial rfl ?_
 conv=>whnf
 repeat (first | (first | ((first | (apply exA;(focus exact oN)) | refine bT ?_ | refine bF ?_ | refine bW (bT ?_) | refine bW (bF ?_) | (apply cP;(focus assumption)) | (apply cE;(focus assumption)) | refine ⟨by first | decide | omega,?_⟩);((conv=>whnf))) | ((conv in (_[_]?)=>tactic=>first | exact oL | exact gS (by assumption));(conv=>whnf))) | (refine dX ?_;(conv=>whnf)) | (refine dP2 (by kernel_rfl) ?_;(conv=>whnf)))
 exact ⟨rfl,rfl⟩
section
variable {H : PH} {pid xid cid mid : Nat} {n : Int} {k : Nat → UInt8} {u : Int} {c : Cs} {l : List (List UInt8)} {L : List Crd}
end
open Go.Proofs.YtldfjimgfnjdjaaGreatDoor (rows_ints bytes_of)
open Go Ps
def ttF:TT:=[(3,⟨.int .i64,1,8,[.int .i64 0]⟩),(4,⟨.bool,1,1,[.bool false]⟩),(5,⟨.int .u8,1,1,[.int .u8 0]⟩),(9,⟨.str,1,16,[.str []]⟩),(22,⟨.slice 9,1,24,[.slice 0 [] (some 9)]⟩),(23,⟨.ptr,1,8,[.ptr none]⟩),(25,⟨.slice 5,1,24,[.slice 0 [] (some 5)]⟩),(26,⟨.int .i64,1,8,[.int .i64 0]⟩),(28,⟨.ptr,1,8,[.ptr none]⟩),(29,⟨.ptr,1,8,[.ptr none]⟩),(31,⟨.arr 32 5,32,32,List.replicate 32 (.int .u8 0)⟩),(33,⟨.strct [(28,0),(29,1),(3,2),(31,3),(3,35)],36,64,[.ptr none,.ptr none,.int .i64 0]++List.replicate 32 (.int .u8 0)++[.int .i64 0]⟩),(36,⟨.strct [(9,0),(9,1)],2,32,[.str [],.str []]⟩),(43,⟨.strct [(3,0),(3,1),(9,2),(9,3),(3,4),(25,5),(3,6)],7,88,[.int .i64 0,.int .i64 0,.str [],.str [],.int .i64 0,.slice 0 [] (some 5),.int .i64 0]⟩),(51,⟨.strct [(36,0),(36,2),(3,4),(3,5)],6,80,[.str [],.str [],.str [],.str [],.int .i64 0,.int .i64 0]⟩),(53,⟨.strct [(36,0),(3,2),(25,3)],4,64,[.str [],.str [],.int .i64 0,.slice 0 [] (some 5)]⟩),(55,⟨.strct [(53,0),(25,4),(36,5),(3,7),(3,8)],9,136,[.str [],.str [],.int .i64 0,.slice 0 [] (some 5),.slice 0 [] (some 5),.str [],.str [],.int .i64 0,.int .i64 0]⟩),(57,⟨.strct [(36,0),(53,2),(25,6)],7,120,[.str [],.str [],.str [],.str [],.int .i64 0,.slice 0 [] (some 5),.slice 0 [] (some 5)]⟩),(59,⟨.strct [(53,0),(25,4)],5,88,[.str [],.str [],.int .i64 0,.slice 0 [] (some 5),.slice 0 [] (some 5)]⟩),(61,⟨.strct [(26,0),(3,1)],2,16,[.int .i64 0,.int .i64 0]⟩),(63,⟨.strct [(3,0),(51,1),(55,7),(57,16),(59,23),(61,28)],30,448,[.int .i64 0,.str [],.str [],.str [],.str [],.int .i64 0,.int .i64 0,.str [],.str [],.int .i64 0,.slice 0 [] (some 5),.slice 0 [] (some 5),.str [],.str [],.int .i64 0,.int .i64 0,.str [],.str [],.str [],.str [],.int .i64 0,.slice 0 [] (some 5),.slice 0 [] (some 5),.str [],.str [],.int .i64 0,.slice 0 [] (some 5),.slice 0 [] (some 5),.int .i64 0,.int .i64 0]⟩),(73,⟨.strct [(36,0),(3,2),(3,3)],4,48,[.str [],.str [],.int .i64 0,.int .i64 0]⟩),(83,⟨.strct [(53,0),(31,4),(3,36)],37,104,[.str [],.str [],.int .i64 0,.slice 0 [] (some 5)]++List.replicate 32 (.int .u8 0)++[.int .i64 0]⟩)]
theorem ttF_ok:ttOk prog ttF=true:=by kernel_rfl
def imm12:List Nat:=[3,4]
def kZ:Nat→UInt8:=fun _=>0
theorem decNil:decV []=.tup [.agg mZ.d.cells,.int .i64 2]:=by kernel_rfl
theorem c17zn (H:PH) (now:Int):CK prog 17 [.ptr none,.nilS,.int .i64 now] H fun r H'=>r=.tup [.str [],.slice 0 [] (some 5)]∧H'=H :=
 (c17z H [] mZ 2 ((c44 [] (by decide)).of_eq decNil) now).nils (.same _ (.turn (.same _ .nil)))
section
variable (r n r2 n2 : List UInt8) (now : Int) (H : PH)
def w4 (r n r2 n2:List UInt8):Int:=IntKind.i64.wrap (IntKind.i64.wrap (IntKind.i64.wrap ((r.length:Int)+n.length)+r2.length)+n2.length)
theorem w4_eq (h1:r.length≤140737488351232) (h2:n.length≤140737488351232) (h3:r2.length≤140737488351232) (h4:n2.length≤140737488351232):w4 r n r2 n2=(r.length:Int)+n.length+r2.length+n2.length:=by
 unfold w4
 rw [w64 (x:=(r.length:Int)+n.length) (by omega) (by omega),w64 (x:=(r.length:Int)+n.length+r2.length) (by omega) (by omega),w64 (by omega) (by omega)]
theorem c12a (hw:¬(300:Int)<w4 r n r2 n2) (l1:r.length≤300) (l2:n.length≤300) (l3:r2.length≤300) (l4:n2.length≤300) (hu:isUserB r n=false) :
  CK prog 12 [.agg [.str r,.str n],.agg [.str r2,.str n2],.int .i64 now] H fun x _=>x=.bool true:=by
 have k34:CK prog 34 [.agg [.str r,.str n],.agg (List.replicate 32 (.int .u8 0))] H fun x H'=>x=.tup [.ptr none,.int .i64 1]∧H'=H:=c34n H r n kZ (by omega) (by omega) hu
 have k35:=c35 n (by omega)
 have k35b:=c35 n2 (by omega)
 have k36:=c36 r n (by omega) (by omega)
 have k36b:=c36 r2 n2 (by omega) (by omega)
 unfold isUserB at hu
 generalize (targetB n).1=t1 at *
 generalize (targetB n).2=t2 at *
 generalize (targetB n2).1=t3 at *
 generalize (targetB n2).2=t4 at *
 generalize isPrincB r n=b1 at *
 generalize isPrincB r2 n2=b2 at *
 have kn1:=c14n H .undef r2 n2 now
 have kn2:=c17zn H now
 have kn3:=c28n H r2 n2 now
 have kn4:=c31n H r2 n2 now
 have x1:=((Xt.refl H).app [z83c]).set (zqn _) (⟨83,zCrd.cells,1⟩:PObj)
 have g0:=gL H z83c
 have kn5:=c20n ((H++[z83c]).set H.length (⟨83,zCrd.cells,1⟩:PObj))
 obtain ⟨H9,k21⟩:=c21 ((H++[z83c]).set H.length (⟨83,zCrd.cells,1⟩:PObj))
 unfold w4 at hw
 cases b1
 ·(refine fnS (imm:=imm12) ttF_ok func12 ?_;(conv=>whnf))
  exact wR
 ·cases t2
  ·cases hu
  ·(refine fnS (imm:=imm12) ttF_ok func12 ?_;(conv=>whnf))
   exact wR
theorem c12b (hw:¬(300:Int)<w4 r n r2 n2) (l1:r.length≤300) (l2:n.length≤300) (l3:r2.length≤300) (l4:n2.length≤300) (hu:isUserB r n=true) (hv:isUserB r2 n2=true) (hn:inZ now 0 1073741824=true) :
  CK prog 12 [.agg [.str r,.str n],.agg [.str r2,.str n2],.int .i64 now] H fun x _=>x=.bool true:=by
 have hq:=user_princ hu
 obtain ⟨H1,cid,mid,hC,_,_,_,k34x⟩:=c34 H r n kZ (by omega) (by omega) hu
 have k34:CK prog 34 [.agg [.str r,.str n],.agg (List.replicate 32 (.int .u8 0))] H fun x H'=>x=.tup [.ptr (some (cid,0)),.int .i64 0]∧H'=H1:=k34x
 have k35:=c35 n (by omega)
 have k35b:=c35 n2 (by omega)
 have k36:=c36 r n (by omega) (by omega)
 have k36b:=c36 r2 n2 (by omega) (by omega)
 clear k34x
 have hz:=inZ_le hn
 obtain ⟨H2,bid,_,_,_,k14⟩:=c14f hC (show (0:Int)≠1 by decide) (show r.length≤1000000 by omega) r2 n2 (by omega) (by omega) hv now hz.1 hz.2 (.inl rfl) (msgOk_d (asOk (nonce:=0+1) hq (prKrb (pr_realm hq) (pr_realm hq)) (tillZ hz.1) (by decide))) (Int.le_refl _) (show (0:Int)≤100000 by decide)
 have k14':CK prog 14 [.ptr (some (cid,0)),.agg [.str r2,.str n2],.int .i64 now] H1 fun r' H'=>r'=.tup [.str r,sl (laidB (asM r n (tillI now) (0+1))),.int .i64 0]∧H'=H2:=k14
 clear k14 hC hq
 generalize laidB (asM r n (tillI now) (0+1))=b3 at *
 have kn1:=c14n H2 .undef r2 n2 now
 have kn2:=c17zn H2 now
 have kn3:=c28n H2 r2 n2 now
 have kn4:=c31n H2 r2 n2 now
 have x1:=((Xt.refl H2).app [z83c]).set (zqn _) (⟨83,zCrd.cells,1⟩:PObj)
 have g0:=gL H2 z83c
 have kn5:=c20n ((H2++[z83c]).set H2.length (⟨83,zCrd.cells,1⟩:PObj))
 obtain ⟨H9,k21⟩:=c21 ((H2++[z83c]).set H2.length (⟨83,zCrd.cells,1⟩:PObj))
 unfold w4 at hw
 unfold isUserB at hu hv
 generalize (targetB n).1=t1 at *
 generalize (targetB n).2=t2 at *
 generalize (targetB n2).1=t3 at *
 generalize (targetB n2).2=t4 at *
 generalize isPrincB r n=b1 at *
 generalize isPrincB r2 n2=b2 at *
 rw [zqb,Bool.not_eq_true'] at hu
 obtain ⟨rfl,rfl⟩:=hu
 rw [zqb,Bool.not_eq_true'] at hv
 obtain ⟨rfl,rfl⟩:=hv
 have z1:=hz.1
 have z2:=hz.2
 clear hz hn
 (refine fnS (imm:=imm12) ttF_ok func12 ?_;(conv=>whnf))
 exact wR
theorem c12c (hw:¬(300:Int)<w4 r n r2 n2) (l1:r.length≤300) (l2:n.length≤300) (l3:r2.length≤300) (l4:n2.length≤300) (hu:isUserB r n=true) (hv:(isUserB r2 n2&&inZ now 0 1073741824)=false) :
  CK prog 12 [.agg [.str r,.str n],.agg [.str r2,.str n2],.int .i64 now] H fun x _=>x=.bool true:=by
 have hq:=user_princ hu
 obtain ⟨H1,cid,mid,hC,_,_,_,k34x⟩:=c34 H r n kZ (by omega) (by omega) hu
 have k34:CK prog 34 [.agg [.str r,.str n],.agg (List.replicate 32 (.int .u8 0))] H fun x H'=>x=.tup [.ptr (some (cid,0)),.int .i64 0]∧H'=H1:=k34x
 have k35:=c35 n (by omega)
 have k35b:=c35 n2 (by omega)
 have k36:=c36 r n (by omega) (by omega)
 have k36b:=c36 r2 n2 (by omega) (by omega)
 clear k34x
 obtain ⟨v,ho⟩:=hC.o
 have k14:=c14b ho (show (0:Int)≠1 by decide) r2 n2 (by omega) (by omega) now hv
 clear hC hq ho
 have kn1:=c14n H1 .undef r2 n2 now
 have kn2:=c17zn H1 now
 have kn3:=c28n H1 r2 n2 now
 have kn4:=c31n H1 r2 n2 now
 have x1:=((Xt.refl H1).app [z83c]).set (zqn _) (⟨83,zCrd.cells,1⟩:PObj)
 have g0:=gL H1 z83c
 have kn5:=c20n ((H1++[z83c]).set H1.length (⟨83,zCrd.cells,1⟩:PObj))
 obtain ⟨H9,k21⟩:=c21 ((H1++[z83c]).set H1.length (⟨83,zCrd.cells,1⟩:PObj))
 unfold w4 at hw
 unfold isUserB at hu hv
 generalize (targetB n).1=t1 at *
 generalize (targetB n).2=t2 at *
 generalize (targetB n2).1=t3 at *
 generalize (targetB n2).2=t4 at *
 generalize isPrincB r n=b1 at *
 generalize isPrincB r2 n2=b2 at *
 rw [zqb,Bool.not_eq_true'] at hu
 obtain ⟨rfl,rfl⟩:=hu
 cases b2
 ·(refine fnS (imm:=imm12) ttF_ok func12 ?_;(conv=>whnf))
  exact wR
 cases t4
 ·unfold inZ at hv
  by_cases z1:0≤now
  ·by_cases z2:now≤1073741824
   ·rw [zqe z1,zqe z2] at hv;cases hv
   ·clear hv
    (refine fnS (imm:=imm12) ttF_ok func12 ?_;(conv=>whnf))
    exact wR
  ·clear hv
   (refine fnS (imm:=imm12) ttF_ok func12 ?_;(conv=>whnf))
   exact wR
 ·(refine fnS (imm:=imm12) ttF_ok func12 ?_;(conv=>whnf))
  exact wR
end
theorem c12 (r n r2 n2:List UInt8) (now:Int) (h1:r.length≤140737488351232) (h2:n.length≤140737488351232) (h3:r2.length≤140737488351232) (h4:n2.length≤140737488351232) (H:PH) :
  CK prog 12 [.agg [.str r,.str n],.agg [.str r2,.str n2],.int .i64 now] H fun x _=>x=.bool true:=by
 have hw:=w4_eq r n r2 n2 h1 h2 h3 h4
 by_cases hl:(300:Int)<w4 r n r2 n2
 ·unfold w4 at hl
  (refine fnS (imm:=imm12) ttF_ok func12 ?_;(conv=>whnf))
  exact wR
 have l:(r.length:Int)+n.length+r2.length+n2.length≤300:=by omega
 cases hu:isUserB r n with
 | false=>exact c12a r n r2 n2 now H hl (by omega) (by omega) (by omega) (by omega) hu
 | true =>
  cases hb:isUserB r2 n2&&inZ now 0 1073741824 with
  | true=>exact c12b r n r2 n2 now H hl (by omega) (by omega) (by omega) (by omega) hu (by rw [zqb] at hb;exact hb.1) (by rw [zqb] at hb;exact hb.2)
  | false=>exact c12c r n r2 n2 now H hl (by omega) (by omega) (by omega) (by omega) hu hb
theorem rdInt {B n:Nat} {ps:List PV} (h:RdP prog B (n+1) 3 ps):∃i,ps=[.int .i64 i]∧(Lit.int .i64 i).wf=true:=h
theorem rdStr {B n:Nat} {ps:List PV} (h:RdP prog B (n+1) 9 ps):∃s:List UInt8,ps=[.str s]∧s.length≤B:=h
theorem rdPrinc {B n:Nat} {ps:List PV} (h:RdP prog B (n+2) 36 ps):∃r k:List UInt8,ps=[.str r,.str k]∧r.length≤B∧k.length≤B:=by
 obtain ⟨a,_,rfl,ha,b,_,rfl,hb,rfl⟩:∃a b,ps=a++b∧RdP prog B (n+1) 9 a∧∃c d,b=c++d∧RdP prog B (n+1) 9 c∧d=[]:=h
 obtain ⟨r,rfl,hr⟩:=rdStr ha
 obtain ⟨k,rfl,hk⟩:=rdStr hb
 exact ⟨r,k,rfl,hr,hk⟩
end Go.Proofs.Tryz
