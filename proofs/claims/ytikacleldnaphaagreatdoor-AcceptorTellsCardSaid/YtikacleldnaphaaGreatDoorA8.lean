import Derived.Test.YtikacleldnaphaaGreatDoorA7
import Derived.Test.YtikacleldnaphaaGreatDoorA6
import Derived.Test.YtikacleldnaphaaGreatDoorA4
set_option linter.all false
set_option maxRecDepth 100000
namespace Go.Proofs.Tryz
open Go Ps
noncomputable section
def zlm:EX:=fun args _=>match args with
 | []=>.pure (.bool true)
 | _=>.err 961
theorem ex18:ExOk prog 18 zlm:=by
 refine ⟨fun args hh r h' hr=>?_,fun args hh r hr H rh=>?_⟩
 ·unfold zlm at hr
  split at hr <;> cases hr
 ·unfold zlm at hr
  split at hr
  ·cases hr
   exact c18 H
  ·cases hr
def exA8:Tr EX:=exA7.set zlm 18
def exL8:List (Nat×EX):=[(263,pureE zla),(119,pureE (clE 130 2 32)),(171,mixE),(219,pureE textG),(217,pureE zk9),(85,zia .i64),(141,pureE openG),(280,pureE zlj),(216,pureE sumG),(120,pureE (clE 193 3 56)),(212,pureE intG),(236,pureE catG),(18,zlm),(90,zfp .i64),(218,zgv),(38,pureE sealG),(118,clR)]
theorem zr1:(exA8.toL fun j=>j)=exL8:=by kernel_rfl
theorem zr2:ExAll prog exL8:=⟨ex263,ex119,ex171,ex219,ex217,ex85,ex141,ex280,ex216,ex120,ex212,ex236,ex18,ex90,ex218,ex38,zwo,zqv⟩
def run8 (f:Nat) (args:List PV):CC:=cCall (extOf exA8) tgA ftA 1000000 60 f args hZ
end
end Go.Proofs.Tryz
/- PSem, part 36: what is known of a call in a world of which nothing is named holds in every world: answers and arguments that name no object. -/
namespace Ps
open Go Go.RowKit
section
variable {P : Program}
def argQ (p:PV):Bool:=oldP p&&!isOwn p&&(match p with | .tup _=>false | _=>true)
theorem argQ.v {p:PV} (h:argQ p=true) {g g':Gh} {w:World} (hI:∀b o,g.I b o→g'.I b o) {v:Value} (hv:VC P g w v p):V g' w v p:=by
 unfold argQ at h
 simp only [zqb,Bool.not_eq_true'] at h
 obtain ⟨⟨h1,h2⟩,h3⟩:=h
 exact V.old hI (hv.V' (fun cs e=>by subst e;cases h3) h2) h1
theorem CK.frameR {f:Nat} {args:List PV} {p:PV} (hp:oldR p=true) (ha:args.all argQ=true) (h:CK P f args [] fun r _=>r=p) (H:PH):CK P f args H fun r H'=>r=p∧H'=H:=by
 intro g w vs hs hrel
 have hh:=hrel.h
 have harg:∀(l:List PV) (i t:Nat),l.all argQ=true→argQ ((args0 i l).get t)=true∨(args0 i l).get t=.undef:=by
  intro l
  induction l with
  | nil=>intro i t _;exact .inr rfl
  | cons x l ih =>
   intro i t hl
   rw [List.all_cons,zqb] at hl
   show argQ (Env.get ((i,x)::args0 (i+1) l) t)=true∨Env.get ((i,x)::args0 (i+1) l) t=.undef
   rw [Env.get_cons]
   by_cases e:i=t
   ·rw [zqp e];exact .inl hl.1
   ·rw [zqo e];exact ih (i+1) t hl.2
 have h0:∀t,V (⟨[],g.I⟩:Gh) w (valOf vs t) ((args0 0 args).get t):=fun t=>by
  rcases harg args 0 t ha with hc | hu
  ·exact argQ.v hc (g:=g) (g':=(⟨[],g.I⟩:Gh)) (fun _ _ h=>h) (hrel.e t)
  ·rw [hu];exact .undef _
 have hr0:Rel P (⟨[],g.I⟩:Gh) w (valOf vs) (args0 0 args) []:=by
  refine ⟨⟨rfl,fun id id' b k=>(by cases k),fun id b o k=>(by cases k),fun id b o k=>(by cases k),fun b o k=>⟨fun id k2=>(by cases k2),(hh.imm b o k).2⟩⟩,fun t=>(h0 t).vc,fun t i t' i' b k=>absurd k (zat (h0 t) i b),fun t i b k=>absurd k (zat (h0 t) i b),fun id j id' j' b k=>?_⟩
  obtain ⟨_,_,_,_,k,_⟩:=k
  cases k
 refine (h _ w vs hs hr0).mono ?_
 rintro e w' ⟨v,r,H',g',rfl,rfl,hr',hb,hnew,_⟩
 have hnocell:∀b,¬zai (⟨[],g.I⟩:Gh) w [] b:=fun b ⟨_,_,_,_,_,_,k,_⟩=>by cases k
 have hnew:∀i b,ownAt v r i b→w.heap.size≤b:=fun i b k=>(hnew i b k).resolve_right (hnocell b)
 have hfar:∀b,b<w.heap.size→w'.heap[b]? = w.heap[b]?∧∀o,g'.I b o→g.I b o:=fun b hlt=>hb.far b hlt (fun id k=>by cases k) (hnocell b)
 have heq:∀b,b<w.heap.size→w'.heap[b]? = w.heap[b]?:=fun b hlt=>(hfar b hlt).1
 have hkeep:Keeps g w ⟨g.ι,g'.I⟩ w':=⟨fun _ _ h=>h,fun b o hi=>hb.keeps.I b o hi,fun _ b hi=>zay (heq b (hh.lt hi))⟩
 have hquiet:∀b,b<w.heap.size→(∀(id:Nat),g.ι[id]?≠some (some b))→Quiet g w ⟨g.ι,g'.I⟩ w' b:=fun b h1 h2=>⟨heq b h1,(hfar b h1).2,h2⟩
 have hcell:∀id j b,zag ⟨g.ι,g'.I⟩ w' H id j b→zag g w H id j b:=by
  rintro id j b ⟨o,c,b0,u,k1,k2,k3,k4,k5,k6⟩
  exact ⟨o,c,b0,u,k1,k2,k3,k4,(zak (heq b0 (hh.lt k4)) j).symm.trans k5,k6⟩
 have hι:∀b,w.heap.size≤b→∀(id:Nat),g.ι[id]?≠some (some b):=fun b hb id k=>by have:=hh.lt k;omega
 have hRV:∀(u:Value) (q:PV),oldP q=true→(∀b,isOwn q=true→blk u=some b→w.heap.size≤b)→VH P g' w' u q→VH P ⟨g.ι,g'.I⟩ w' u q:=fun u q hq hbk hu=>by
  rcases hu with hu | ⟨n,cs,e,b,rfl,hv,hf⟩
  ·exact .inl (V.old (g:=g') (h:=hu) (g':=⟨g.ι,g'.I⟩) (fun _ _ h=>h) hq)
  ·exact .inr ⟨n,cs,e,b,rfl,V.old (g:=g') (h:=hv) (g':=⟨g.ι,g'.I⟩) (fun _ _ h=>h) (by simpa [oldP] using hq),⟨hf.ex,hι b (hbk b rfl hf.blk),hf.spare⟩⟩
 have hRC:VC P ⟨g.ι,g'.I⟩ w' v r:=by
  have h0:VC P g' w' v r:=hr'.e 0
  cases r with
  | tup cs =>
   obtain ⟨us,rfl,k1,k2⟩:=h0
   exact ⟨us,rfl,k1,fun j c hj=>hRV _ _ (zcc hp j c hj) (fun b ho hb'=>hnew j b ⟨c,hj,ho,us,rfl,hb'⟩) (k2 j c hj)⟩
  | slice n cs o=>exact hRV _ _ hp (fun b ho hb'=>hnew 0 b ⟨rfl,ho,hb'⟩) h0
  | _=>exact hRV _ _ hp (fun b ho hb'=>by cases ho) h0
 refine ⟨v,r,H,⟨g.ι,g'.I⟩,rfl,⟨rfl,rfl⟩,⟨⟨hh.len,hh.inj,fun id b o k1 k2=>hh.fullKeep hkeep (heq b (hh.lt k2)) k1 k2,fun id b o k1 k2 hk1=>?_,fun b o k=>?_⟩,fun t=>?_,hr'.ss,fun t i b k k'=>?_,fun id j id' j' b k k'=>hrel.cc id j id' j' b (hcell _ _ _ k) (hcell _ _ _ k')⟩,
  ⟨⟨fun _ o h=>⟨o,h,zqn _⟩,fun _ _ _ _ hi k1 k2 _=>⟨Option.some.inj (k2.symm.trans k1),heq _ (hh.lt hi)⟩⟩,hb.os,hb.tape,hb.output,hb.size,hkeep,fun _ _ h=>.inl h,fun b hlt _ _=>hfar b hlt,fun _ h=>h⟩,
  fun i b k=>.inl (hnew i b k),fun b ⟨id,j,k⟩=>.inr ⟨id,j,hcell _ _ _ k⟩⟩
 ·obtain ⟨vs',k3,k4,k5⟩:=hh.obj id b o k1 k2 ((hkeep.kind id b k2).symm.trans hk1)
  refine ⟨vs',(heq b (zb2 k3)).trans k3,k4,fun j c hj=>?_⟩
  obtain ⟨u,k6,k7⟩:=k5 j c hj
  refine ⟨u,k6,k7.mono hkeep fun b' ho hb'=>?_⟩
  obtain ⟨n,cs,e',_,_,hf⟩:=k7.own ho hb'
  exact hquiet b' (zd8 hf) hf.obj
 ·refine ⟨fun id hid=>?_,(hr'.h.imm b o k).2⟩
  have hlt:=hh.lt hid
  exact (hh.imm b o ((hfar b hlt).2 o k)).1 id hid
 ·rw [Env.get_cons]
  unfold one
  by_cases e:t=0
  ·rw [zqp e,zqp e.symm];exact hRC
  ·rw [zqo e,zqo (Ne.symm e)];exact (V.undef _).vc
 ·obtain ⟨id,j,k'⟩:=k'
  obtain ⟨n,cs,e,u,hf⟩:=hh.cown (hcell _ _ _ k')
  have h1:=zd8 hf
  rw [Env.get_cons] at k
  unfold one at k
  by_cases e:t=0
  ·rw [zqp e,zqp e.symm] at k
   have:=hnew i b k;omega
  ·rw [zqo (Ne.symm e)] at k;cases k.2.1
end
end Ps
namespace Go.Proofs.Tryz
open Go Ps
def ttGm:TT:=[(3,⟨.int .i64,1,8,[.int .i64 0]⟩),(4,⟨.bool,1,1,[.bool false]⟩),(5,⟨.int .u8,1,1,[.int .u8 0]⟩),(9,⟨.str,1,16,[.str []]⟩),(30,⟨.strct [(9,0),(9,1)],2,32,[.str [],.str []]⟩),(39,⟨.int .i64,1,8,[.int .i64 0]⟩),(91,⟨.slice 3,1,24,[.slice 0 [] (some 3)]⟩),(22,⟨.slice 5,1,24,[.slice 0 [] (some 5)]⟩),(64,⟨.strct [(30,0),(30,2),(3,4),(3,5)],6,80,[.str [],.str [],.str [],.str [],.int .i64 0,.int .i64 0]⟩),(66,⟨.strct [(30,0),(3,2),(22,3)],4,64,[.str [],.str [],.int .i64 0,.slice 0 [] (some 5)]⟩),(68,⟨.strct [(66,0),(22,4),(30,5),(3,7),(3,8)],9,136,[.str [],.str [],.int .i64 0,.slice 0 [] (some 5),.slice 0 [] (some 5),.str [],.str [],.int .i64 0,.int .i64 0]⟩),(70,⟨.strct [(30,0),(66,2),(22,6)],7,120,[.str [],.str [],.str [],.str [],.int .i64 0,.slice 0 [] (some 5),.slice 0 [] (some 5)]⟩),(72,⟨.strct [(66,0),(22,4)],5,88,[.str [],.str [],.int .i64 0,.slice 0 [] (some 5),.slice 0 [] (some 5)]⟩),(74,⟨.strct [(39,0),(3,1)],2,16,[.int .i64 0,.int .i64 0]⟩),(76,⟨.strct [(3,0),(64,1),(68,7),(70,16),(72,23),(74,28)],30,448,[.int .i64 0,.str [],.str [],.str [],.str [],.int .i64 0,.int .i64 0,.str [],.str [],.int .i64 0,.slice 0 [] (some 5),.slice 0 [] (some 5),.str [],.str [],.int .i64 0,.int .i64 0,.str [],.str [],.str [],.str [],.int .i64 0,.slice 0 [] (some 5),.slice 0 [] (some 5),.str [],.str [],.int .i64 0,.slice 0 [] (some 5),.slice 0 [] (some 5),.int .i64 0,.int .i64 0]⟩),(210,⟨.slice 22,1,24,[.slice 0 [] (some 22)]⟩)]
theorem zbi:ttOk prog ttGm=true:=by kernel_rfl
def z11:List Nat:=[]
def z1y:List Nat:=[]
def z10:List Nat:=[]
def z1z:List Nat:=[1]
def z1x:List Nat:=[]
def z2j:List Nat:=[1]
def z12:List Nat:=[1]
def z05:List Nat:=[1]
def z0g:List Nat:=[1]
def z06:List Nat:=[]
def z07:List Nat:=[1]
def z14:List Nat:=[1]
def z16:List Nat:=[1]
def inZ (n lo hi:Int):Bool:=decide (lo≤n)&&decide (n≤hi)
def slo (b:List UInt8) (o:Option Nat):PV:=.slice b.length (b.map bC) o
theorem c208 (n lo hi:Int):Pure prog 208 [.int .i64 n,.int .i64 lo,.int .i64 hi] (.bool (inZ n lo hi)):=by
 intro H
 (refine fnS (imm:=z11) zbi func208 ?_;(conv=>whnf))
 unfold inZ
 refine ⟨fun h=>?_,fun h=>?_⟩
 ·conv=>whnf
  have h:n ≥ lo:=h
  rw [zqe (show lo≤n by omega)]
  refine ⟨fun h2=>?_,fun h2=>?_⟩
  ·conv=>whnf
   rw [zqe h2]
   exact ⟨rfl,rfl⟩
  ·conv=>whnf
   rw [zqd h2]
   exact ⟨rfl,rfl⟩
 ·conv=>whnf
  have h:¬n ≥ lo:=h
  rw [zqd (show ¬lo≤n by omega)]
  exact ⟨rfl,rfl⟩
theorem c205 (n:Int):Pure prog 205 [.int .i64 n] (.bool (inZ n 0 1073741824)):=by
 intro H
 (refine fnS (imm:=z1y) zbi func205 ?_;(conv=>whnf))
 (refine cP ((c208 n 0 1073741824)) ?_;try (conv=>whnf))
 exact ⟨rfl,rfl⟩
theorem c207 (n:Nat) (cs:List PV) (o:Option Nat):Pure prog 207 [.slice n cs o] (.bool (inZ n 1 800)):=by
 intro H
 (refine fnS (imm:=z10) zbi func207 ?_;(conv=>whnf))
 (refine cP ((c208 n 1 800)) ?_;try (conv=>whnf))
 exact ⟨rfl,rfl⟩
theorem c204 (l:List Int) (hl:l.length≤1000):Pure prog 204 [.slice l.length (l.map (.int .i64)) none] (.bool (l.all fun n=>inZ n 0 1073741824)):=by
 intro H
 (refine fnS (imm:=z1x) zbi func204 ?_;(conv=>whnf))
 refine lO CoS (fun x=>[(5,.slice l.length (l.map (.int .i64)) none),(6,.int .i64 l.length),(7,.int .i64 x.k)]) (fun _=>H) (fun x=>x.k≤l.length∧(l.take x.k).all (fun n=>inZ n 0 1073741824)=true) (fun x=>l.length - x.k)
  ⟨⟨0⟩,⟨Nat.zero_le _,rfl⟩,⟨rfl,rfl,rfl,zqv⟩,rfl⟩ ?_
 rintro ⟨k⟩ ⟨hk,hall⟩
 have hk:k≤l.length:=hk
 have hall:(l.take k).all (fun n=>inZ n 0 1073741824)=true:=hall
 conv=>whnf
 refine ⟨fun h=>?_,fun h=>?_⟩
 ·conv=>whnf
  have h:(k:Int)<l.length:=h
  have hi:k<l.length:=by omega
  refine ⟨⟨by show (0:Int)≤(k:Int);omega,h⟩,[.int .i64 l[k]],fun j c hj=>?_,?_⟩
  ·match j with
   | 0 =>
    have hj:some (PV.int .i64 l[k])=some c:=hj
    show (l.map (PV.int .i64))[(k:Int).toNat*1+0]? = _
    rw [←hj]
    simp [hi]
   | j+1=>simp at hj
  conv=>whnf
  refine cP (c208 l[k] 0 1073741824) ?_
  cases hb:inZ l[k] 0 1073741824
  ·conv=>whnf
   refine ⟨?_,rfl⟩
   have:(l.all fun n=>inZ n 0 1073741824)=false:=by
    cases hc:(l.all fun n=>inZ n 0 1073741824) with
    | false=>rfl
    | true=>rw [List.all_eq_true.1 hc _ (List.getElem_mem hi)] at hb;cases hb
   rw [this];rfl
  ·conv=>whnf
   refine ⟨⟨k+1⟩,⟨by show k+1≤l.length;omega,?_⟩,⟨rfl,rfl,?_,zqv⟩,rfl,by show l.length - (k+1)<l.length - k;omega⟩
   ·show (l.take (k+1)).all (fun n=>inZ n 0 1073741824)=true
    rw [List.take_succ_eq_append_getElem hi,List.all_append,hall]
    simp [hb]
   ·show PV.int _ (IntKind.i64.wrap ((k:Int)+1))=PV.int _ ((k+1:Nat):Int)
    rw [w64 (by omega) (by omega)];rfl
 ·conv=>whnf
  have h:¬(k:Int)<l.length:=h
  rw [List.take_of_length_le (by omega)] at hall
  rw [hall]
  exact ⟨rfl,rfl⟩
def tickB (r n:List UInt8) (kv:Int) (bl:Nat):Bool:=zap r n&&inZ kv 1 255&&inZ bl 1 800
theorem c206 (r n:List UInt8) (kv:Int) (b:List UInt8) (o:Option Nat) (hr:r.length≤1099511627775) (hn:n.length≤1099511627775) :
  Pure prog 206 [.agg [.str r,.str n,.int .i64 kv,slo b o]] (.bool (tickB r n kv b.length)):=by
 intro H
 (refine fnS (imm:=z1z) zbi func206 ?_;(conv=>whnf))
 refine cP (c64 r n hr hn) ?_
 unfold tickB
 cases zap r n
 ·conv=>whnf
  exact ⟨rfl,rfl⟩
 ·conv=>whnf
  refine cP (c208 kv 1 255) ?_
  cases inZ kv 1 255
  ·conv=>whnf
   exact ⟨rfl,rfl⟩
  ·conv=>whnf
   refine cP (c207 b.length _ _) ?_
   cases inZ b.length 1 800
   ·conv=>whnf
    exact ⟨rfl,rfl⟩
   ·conv=>whnf
    exact ⟨rfl,rfl⟩
def noTk (r n:List UInt8) (kv:Int) (bl:Nat):Bool:=decide (r=[]∧n=[])&&decide (kv=0)&&decide (bl=0)
theorem fitG (a b:List UInt8):FitP ttGm 6 30 [.str a,.str b]:=⟨rfl,⟨by show 1≤2;omega,a,rfl⟩,rfl,⟨by show 1≤1;omega,b,rfl⟩,rfl⟩
theorem pr_eq {r n:List UInt8}:([PV.str r,PV.str n]=[PV.str [],PV.str []])↔(r=[]∧n=[]):=by simp
theorem c235 (r n:List UInt8) (kv:Int) (b:List UInt8) (o:Option Nat):Pure prog 235 [.agg [.str r,.str n,.int .i64 kv,slo b o]] (.bool (noTk r n kv b.length)):=by
 intro H
 (refine fnS (imm:=z2j) zbi func235 ?_;(conv=>whnf))
 refine ⟨⟨fitG _ _,fitG [] []⟩,?_⟩
 conv=>whnf
 unfold noTk
 refine ⟨fun h=>?_,fun h=>?_⟩
 ·have h:[PV.str r,PV.str n]=[PV.str [],PV.str []]:=h
  rw [zqe (pr_eq.1 h)]
  conv=>whnf
  refine ⟨fun h=>?_,fun h=>?_⟩
  ·have h:kv=0:=h
   rw [zqe h]
   conv=>whnf
   refine ⟨fun h=>?_,fun h=>?_⟩
   ·have h:(b.length:Int)=0:=h
    rw [zqe (show b.length=0 by omega)]
    conv=>whnf
    exact ⟨rfl,rfl⟩
   ·have h:¬(b.length:Int)=0:=h
    rw [zqd (show ¬b.length=0 by omega)]
    conv=>whnf
    exact ⟨rfl,rfl⟩
  ·have h:¬kv=0:=h
   rw [zqd h]
   conv=>whnf
   exact ⟨rfl,rfl⟩
 ·have h:¬[PV.str r,PV.str n]=[PV.str [],PV.str []]:=h
  rw [zqd fun hh=>h (pr_eq.2 hh)]
  conv=>whnf
  exact ⟨rfl,rfl⟩
structure Msg where
 kind:Int
 a1:List UInt8
 a2:List UInt8
 a3:List UInt8
 a4:List UInt8
 aTill:Int
 aNonce:Int
 t1:List UInt8
 t2:List UInt8
 tKv:Int
 tB:List UInt8
 tBo:Option Nat
 tAu:List UInt8
 tAuo:Option Nat
 t3:List UInt8
 t4:List UInt8
 tTill:Int
 tNonce:Int
 r1:List UInt8
 r2:List UInt8
 r3:List UInt8
 r4:List UInt8
 rKv:Int
 rB:List UInt8
 rBo:Option Nat
 rBl:List UInt8
 rBlo:Option Nat
 p1:List UInt8
 p2:List UInt8
 pKv:Int
 pB:List UInt8
 pBo:Option Nat
 pAu:List UInt8
 pAuo:Option Nat
 fErr:Int
 fNonce:Int
def Msg.as (m:Msg):List PV:=[.str m.a1,.str m.a2,.str m.a3,.str m.a4,.int .i64 m.aTill,.int .i64 m.aNonce]
def Msg.tgs (m:Msg):List PV:=[.str m.t1,.str m.t2,.int .i64 m.tKv,slo m.tB m.tBo,slo m.tAu m.tAuo,.str m.t3,.str m.t4,.int .i64 m.tTill,.int .i64 m.tNonce]
def Msg.rep (m:Msg):List PV:=[.str m.r1,.str m.r2,.str m.r3,.str m.r4,.int .i64 m.rKv,slo m.rB m.rBo,slo m.rBl m.rBlo]
def Msg.ap (m:Msg):List PV:=[.str m.p1,.str m.p2,.int .i64 m.pKv,slo m.pB m.pBo,slo m.pAu m.pAuo]
def Msg.fail (m:Msg):List PV:=[.int .i64 m.fErr,.int .i64 m.fNonce]
def Msg.cells (m:Msg):List PV:=[.int .i64 m.kind]++m.as++m.tgs++m.rep++m.ap++m.fail
def noAs (m:Msg):Bool:=decide (m.a1=[]∧m.a2=[]∧m.a3=[]∧m.a4=[]∧m.aTill=0∧m.aNonce=0)
def noTgs (m:Msg):Bool:=noTk m.t1 m.t2 m.tKv m.tB.length&&decide (m.tAu.length=0)&&decide (m.t3=[]∧m.t4=[])&&decide (m.tTill=0)&&decide (m.tNonce=0)
def noRep (m:Msg):Bool:=decide (m.r1=[]∧m.r2=[])&&noTk m.r3 m.r4 m.rKv m.rB.length&&decide (m.rBl.length=0)
def noAp (m:Msg):Bool:=noTk m.p1 m.p2 m.pKv m.pB.length&&decide (m.pAu.length=0)
def zaj (m:Msg):Bool:=decide (m.fErr=0∧m.fNonce=0)
def zab (m:Msg):Bool:=(decide (m.kind=1)||noAs m)&&(decide (m.kind=2)||noTgs m)&&(decide (m.kind=3)||noRep m)&&(decide (m.kind=4)||noAp m)&&(decide (m.kind=5)||zaj m)
theorem app_get (H l:PH) (i:Nat):(H++l)[H.length+i]? = l[i]?:=by rw [zqi (by omega)];congr 1;omega
abbrev zqL (m:Msg):PH:=[PObj.mk 68 (m.tgs.map dem) 1,PObj.mk 70 (m.rep.map dem) 1,PObj.mk 72 (m.ap.map dem) 1]
theorem app_set (H l:PH) (i:Nat) (o:PObj):(H++l).set (H.length+i) o=H++l.set i o:=by rw [List.set_append_right _ _ (by omega)];congr 2;omega
def z55:PObj:=⟨68,[.str [],.str [],.int .i64 0,.slice 0 [] (some 5),.slice 0 [] (some 5),.str [],.str [],.int .i64 0,.int .i64 0],0⟩
def z57:PObj:=⟨70,[.str [],.str [],.str [],.str [],.int .i64 0,.slice 0 [] (some 5),.slice 0 [] (some 5)],0⟩
def z59:PObj:=⟨72,[.str [],.str [],.int .i64 0,.slice 0 [] (some 5),.slice 0 [] (some 5)],0⟩
def D209 (n:Nat):Draw:={ imp:=[9,10,11],robs:=[z55,z57,z59],res:=[(6,0),(7,1),(8,2)],base:=n,win:=[(2,0,1),(3,0,1),(4,0,2),(5,0,2),(10,1,1),(11,2,2)] }
theorem fitA (a b c d:List UInt8) (x y:Int):FitP ttGm 6 64 [.str a,.str b,.str c,.str d,.int .i64 x,.int .i64 y] :=
 ⟨rfl,⟨by show 2≤6;omega,⟨rfl,⟨by show 1≤2;omega,a,rfl⟩,rfl,⟨by show 1≤1;omega,b,rfl⟩,rfl⟩⟩,rfl,⟨by show 2≤4;omega,⟨rfl,⟨by show 1≤2;omega,c,rfl⟩,rfl,⟨by show 1≤1;omega,d,rfl⟩,rfl⟩⟩,rfl,⟨by show 1≤2;omega,x,rfl⟩,rfl,⟨by show 1≤1;omega,y,rfl⟩,rfl⟩
theorem fitF (x y:Int):FitP ttGm 6 74 [.int .i64 x,.int .i64 y]:=⟨rfl,⟨by show 1≤2;omega,x,rfl⟩,rfl,⟨by show 1≤1;omega,y,rfl⟩,rfl⟩
theorem as_eq {a b c d:List UInt8} {x y:Int}:([PV.str a,PV.str b,PV.str c,PV.str d,PV.int .i64 x,PV.int .i64 y]=[PV.str [],PV.str [],PV.str [],PV.str [],PV.int .i64 0,PV.int .i64 0])↔(a=[]∧b=[]∧c=[]∧d=[]∧x=0∧y=0):=by simp
theorem fl_eq {x y:Int}:([PV.int .i64 x,PV.int .i64 y]=[PV.int .i64 0,PV.int .i64 0])↔(x=0∧y=0):=by simp
theorem nat0 {n:Nat}:((n:Int)=0)↔n=0:=by omega
theorem c209x (m:Msg) (H:PH):CK prog 209 [.agg m.cells] H fun r H'=>r=.bool (zab m)∧∃ext,H'=H++ext:=by
 (refine fnS (imm:=z12) zbi func209 ?_;(conv=>whnf))
 refine dO2 (D209 H.length) [H++[z55,z57,z59],H++[PObj.mk 68 (m.tgs.map dem) 1,z57,z59],H++[PObj.mk 68 (m.tgs.map dem) 1,PObj.mk 70 (m.rep.map dem) 1,z59],H++[PObj.mk 68 (m.tgs.map dem) 1,PObj.mk 70 (m.rep.map dem) 1,PObj.mk 72 (m.ap.map dem) 1]] (by kernel_rfl) ⟨rfl,rfl⟩ trivial ?_
 conv=>whnf
 iterate 2 (refine dS ?_;(conv=>whnf))
 iterate 2 (refine dS2 ?_;(conv=>whnf))
 iterate 2 (apply Exists.intro;apply And.intro;(focus ((conv=>whnf);apply And.intro;(focus ((conv=>whnf);exact oS));(conv=>whnf);apply And.intro;(focus ((conv=>whnf);exact oS));((conv=>whnf);exact oS)));(conv=>whnf))
 refine ⟨_,⟨⟨rfl,rfl,zqv⟩,app_get H [z55,z57,z59] 0⟩,?_⟩
 conv=>whnf
 refine ⟨_,⟨⟨rfl,rfl,zqv⟩,app_get H [z55,z57,z59] 1⟩,?_⟩
 conv=>whnf
 refine ⟨_,⟨⟨rfl,rfl,zqv⟩,app_get H [z55,z57,z59] 2⟩,?_⟩
 conv=>whnf
 apply exA
 focus
  conv=>whnf
  ((conv in (_[_]?)=>tactic=>exact app_get H [z55,z57,z59] 0);(conv=>whnf))
  conv=>whnf
  exact ⟨rfl,app_set H [z55,z57,z59] 0 (PObj.mk 68 (m.tgs.map dem) 1),zqv⟩
 conv=>whnf
 apply exA
 focus
  conv=>whnf
  ((conv in (_[_]?)=>tactic=>exact app_get H [PObj.mk 68 (m.tgs.map dem) 1,z57,z59] 1);(conv=>whnf))
  conv=>whnf
  exact ⟨rfl,app_set H [PObj.mk 68 (m.tgs.map dem) 1,z57,z59] 1 (PObj.mk 70 (m.rep.map dem) 1),zqv⟩
 conv=>whnf
 apply exA
 focus
  conv=>whnf
  ((conv in (_[_]?)=>tactic=>exact app_get H [PObj.mk 68 (m.tgs.map dem) 1,PObj.mk 70 (m.rep.map dem) 1,z59] 2);(conv=>whnf))
  conv=>whnf
  exact ⟨rfl,app_set H [PObj.mk 68 (m.tgs.map dem) 1,PObj.mk 70 (m.rep.map dem) 1,z59] 2 (PObj.mk 72 (m.ap.map dem) 1),zqv⟩
 conv=>whnf
 by_cases h1:m.kind=1
 ·have hk:=h1
  have n2:¬m.kind=2:=by omega
  have n3:¬m.kind=3:=by omega
  have n4:¬m.kind=4:=by omega
  have n5:¬m.kind=5:=by omega
  have e1:decide (m.kind=1)=true:=zqe hk
  have e2:decide (m.kind=2)=false:=zqd n2
  have e3:decide (m.kind=3)=false:=zqd n3
  have e4:decide (m.kind=4)=false:=zqd n4
  have e5:decide (m.kind=5)=false:=zqd n5
  refine ⟨fun h=>?_,fun h=>?_⟩
  rotate_left
  ·exact (h hk).elim
  conv=>whnf
  refine ⟨fun h=>?_,fun h=>?_⟩
  ·exact (n2 h).elim
  conv=>whnf
  ((conv in (_[_]?)=>tactic=>exact app_get H (zqL m) 0);(conv=>whnf))
  refine cP (c235 m.t1 m.t2 m.tKv m.tB none) ?_
  cases f1:noTk m.t1 m.t2 m.tKv m.tB.length
  ·conv=>whnf
   exact ⟨zqm PV.bool (by unfold zab noTgs noRep noAp zaj;simp only [e1,e2,e3,e4,e5,f1,zq6,zq5,zq8,zq7,zq9,zqa,zq3,zq4]),_,rfl⟩
  conv=>whnf
  ((conv in (_[_]?)=>tactic=>exact app_get H (zqL m) 0);(conv=>whnf))
  refine ⟨fun h=>?_,fun h=>?_⟩
  rotate_left
  ·have f2:decide (m.tAu.length=0)=false:=zqd fun hh=>h (Iff.mpr nat0 hh)
   conv=>whnf
   exact ⟨zqm PV.bool (by unfold zab noTgs noRep noAp zaj;simp only [e1,e2,e3,e4,e5,f1,f2,zq6,zq5,zq8,zq7,zq9,zqa,zq3,zq4]),_,rfl⟩
  have f2:decide (m.tAu.length=0)=true:=zqe (Iff.mp nat0 h)
  conv=>whnf
  ((conv in (_[_]?)=>tactic=>exact app_get H (zqL m) 0);(conv=>whnf))
  refine ⟨⟨fitG _ _,fitG [] []⟩,?_⟩
  conv=>whnf
  refine ⟨fun h=>?_,fun h=>?_⟩
  rotate_left
  ·have f3:decide (m.t3=[]∧m.t4=[])=false:=zqd fun hh=>h (Iff.mpr pr_eq hh)
   conv=>whnf
   exact ⟨zqm PV.bool (by unfold zab noTgs noRep noAp zaj;simp only [e1,e2,e3,e4,e5,f1,f2,f3,zq6,zq5,zq8,zq7,zq9,zqa,zq3,zq4]),_,rfl⟩
  have f3:decide (m.t3=[]∧m.t4=[])=true:=zqe (Iff.mp pr_eq h)
  conv=>whnf
  ((conv in (_[_]?)=>tactic=>exact app_get H (zqL m) 0);(conv=>whnf))
  refine ⟨fun h=>?_,fun h=>?_⟩
  rotate_left
  ·have f4:decide (m.tTill=0)=false:=zqd fun hh=>h (Iff.mpr Iff.rfl hh)
   conv=>whnf
   exact ⟨zqm PV.bool (by unfold zab noTgs noRep noAp zaj;simp only [e1,e2,e3,e4,e5,f1,f2,f3,f4,zq6,zq5,zq8,zq7,zq9,zqa,zq3,zq4]),_,rfl⟩
  have f4:decide (m.tTill=0)=true:=zqe (Iff.mp Iff.rfl h)
  conv=>whnf
  ((conv in (_[_]?)=>tactic=>exact app_get H (zqL m) 0);(conv=>whnf))
  refine ⟨fun h=>?_,fun h=>?_⟩
  rotate_left
  ·have f5:decide (m.tNonce=0)=false:=zqd fun hh=>h (Iff.mpr Iff.rfl hh)
   conv=>whnf
   exact ⟨zqm PV.bool (by unfold zab noTgs noRep noAp zaj;simp only [e1,e2,e3,e4,e5,f1,f2,f3,f4,f5,zq6,zq5,zq8,zq7,zq9,zqa,zq3,zq4]),_,rfl⟩
  have f5:decide (m.tNonce=0)=true:=zqe (Iff.mp Iff.rfl h)
  conv=>whnf
  refine ⟨fun h=>?_,fun h=>?_⟩
  ·exact (n3 h).elim
  conv=>whnf
  ((conv in (_[_]?)=>tactic=>exact app_get H (zqL m) 1);(conv=>whnf))
  refine ⟨⟨fitG _ _,fitG [] []⟩,?_⟩
  conv=>whnf
  refine ⟨fun h=>?_,fun h=>?_⟩
  rotate_left
  ·have f6:decide (m.r1=[]∧m.r2=[])=false:=zqd fun hh=>h (Iff.mpr pr_eq hh)
   conv=>whnf
   exact ⟨zqm PV.bool (by unfold zab noTgs noRep noAp zaj;simp only [e1,e2,e3,e4,e5,f1,f2,f3,f4,f5,f6,zq6,zq5,zq8,zq7,zq9,zqa,zq3,zq4]),_,rfl⟩
  have f6:decide (m.r1=[]∧m.r2=[])=true:=zqe (Iff.mp pr_eq h)
  conv=>whnf
  ((conv in (_[_]?)=>tactic=>exact app_get H (zqL m) 1);(conv=>whnf))
  refine cP (c235 m.r3 m.r4 m.rKv m.rB none) ?_
  cases f7:noTk m.r3 m.r4 m.rKv m.rB.length
  ·conv=>whnf
   exact ⟨zqm PV.bool (by unfold zab noTgs noRep noAp zaj;simp only [e1,e2,e3,e4,e5,f1,f2,f3,f4,f5,f6,f7,zq6,zq5,zq8,zq7,zq9,zqa,zq3,zq4]),_,rfl⟩
  conv=>whnf
  ((conv in (_[_]?)=>tactic=>exact app_get H (zqL m) 1);(conv=>whnf))
  refine ⟨fun h=>?_,fun h=>?_⟩
  rotate_left
  ·have f8:decide (m.rBl.length=0)=false:=zqd fun hh=>h (Iff.mpr nat0 hh)
   conv=>whnf
   exact ⟨zqm PV.bool (by unfold zab noTgs noRep noAp zaj;simp only [e1,e2,e3,e4,e5,f1,f2,f3,f4,f5,f6,f7,f8,zq6,zq5,zq8,zq7,zq9,zqa,zq3,zq4]),_,rfl⟩
  have f8:decide (m.rBl.length=0)=true:=zqe (Iff.mp nat0 h)
  conv=>whnf
  refine ⟨fun h=>?_,fun h=>?_⟩
  ·exact (n4 h).elim
  conv=>whnf
  ((conv in (_[_]?)=>tactic=>exact app_get H (zqL m) 2);(conv=>whnf))
  refine cP (c235 m.p1 m.p2 m.pKv m.pB none) ?_
  cases f9:noTk m.p1 m.p2 m.pKv m.pB.length
  ·conv=>whnf
   exact ⟨zqm PV.bool (by unfold zab noTgs noRep noAp zaj;simp only [e1,e2,e3,e4,e5,f1,f2,f3,f4,f5,f6,f7,f8,f9,zq6,zq5,zq8,zq7,zq9,zqa,zq3,zq4]),_,rfl⟩
  conv=>whnf
  ((conv in (_[_]?)=>tactic=>exact app_get H (zqL m) 2);(conv=>whnf))
  refine ⟨fun h=>?_,fun h=>?_⟩
  rotate_left
  ·have f10:decide (m.pAu.length=0)=false:=zqd fun hh=>h (Iff.mpr nat0 hh)
   conv=>whnf
   exact ⟨zqm PV.bool (by unfold zab noTgs noRep noAp zaj;simp only [e1,e2,e3,e4,e5,f1,f2,f3,f4,f5,f6,f7,f8,f9,f10,zq6,zq5,zq8,zq7,zq9,zqa,zq3,zq4]),_,rfl⟩
  have f10:decide (m.pAu.length=0)=true:=zqe (Iff.mp nat0 h)
  conv=>whnf
  refine ⟨fun h=>?_,fun h=>?_⟩
  ·exact (n5 h).elim
  conv=>whnf
  refine ⟨⟨fitF _ _,fitF 0 0⟩,?_⟩
  conv=>whnf
  refine ⟨fun h=>?_,fun h=>?_⟩
  rotate_left
  ·have f11:decide (m.fErr=0∧m.fNonce=0)=false:=zqd fun hh=>h (Iff.mpr fl_eq hh)
   conv=>whnf
   exact ⟨zqm PV.bool (by unfold zab noTgs noRep noAp zaj;simp only [e1,e2,e3,e4,e5,f1,f2,f3,f4,f5,f6,f7,f8,f9,f10,f11,zq6,zq5,zq8,zq7,zq9,zqa,zq3,zq4]),_,rfl⟩
  have f11:decide (m.fErr=0∧m.fNonce=0)=true:=zqe (Iff.mp fl_eq h)
  conv=>whnf
  exact ⟨zqm PV.bool (by unfold zab noTgs noRep noAp zaj;simp only [e1,e2,e3,e4,e5,f1,f2,f3,f4,f5,f6,f7,f8,f9,f10,f11,zq6,zq5,zq8,zq7,zq9,zqa,zq3,zq4]),_,rfl⟩
 by_cases h2:m.kind=2
 ·have hk:=h2
  have n1:¬m.kind=1:=by omega
  have n3:¬m.kind=3:=by omega
  have n4:¬m.kind=4:=by omega
  have n5:¬m.kind=5:=by omega
  have e1:decide (m.kind=1)=false:=zqd n1
  have e2:decide (m.kind=2)=true:=zqe hk
  have e3:decide (m.kind=3)=false:=zqd n3
  have e4:decide (m.kind=4)=false:=zqd n4
  have e5:decide (m.kind=5)=false:=zqd n5
  refine ⟨fun h=>?_,fun h=>?_⟩
  ·exact (n1 h).elim
  conv=>whnf
  refine ⟨⟨fitA _ _ _ _ _ _,fitA [] [] [] [] 0 0⟩,?_⟩
  conv=>whnf
  refine ⟨fun h=>?_,fun h=>?_⟩
  rotate_left
  ·have f12:noAs m=false:=zqd fun hh=>h (Iff.mpr as_eq hh)
   conv=>whnf
   exact ⟨zqm PV.bool (by unfold zab noTgs noRep noAp zaj;simp only [e1,e2,e3,e4,e5,f12,zq6,zq5,zq8,zq7,zq9,zqa,zq3,zq4]),_,rfl⟩
  have f12:noAs m=true:=zqe (Iff.mp as_eq h)
  conv=>whnf
  refine ⟨fun h=>?_,fun h=>?_⟩
  rotate_left
  ·exact (h hk).elim
  conv=>whnf
  refine ⟨fun h=>?_,fun h=>?_⟩
  ·exact (n3 h).elim
  conv=>whnf
  ((conv in (_[_]?)=>tactic=>exact app_get H (zqL m) 1);(conv=>whnf))
  refine ⟨⟨fitG _ _,fitG [] []⟩,?_⟩
  conv=>whnf
  refine ⟨fun h=>?_,fun h=>?_⟩
  rotate_left
  ·have f13:decide (m.r1=[]∧m.r2=[])=false:=zqd fun hh=>h (Iff.mpr pr_eq hh)
   conv=>whnf
   exact ⟨zqm PV.bool (by unfold zab noTgs noRep noAp zaj;simp only [e1,e2,e3,e4,e5,f12,f13,zq6,zq5,zq8,zq7,zq9,zqa,zq3,zq4]),_,rfl⟩
  have f13:decide (m.r1=[]∧m.r2=[])=true:=zqe (Iff.mp pr_eq h)
  conv=>whnf
  ((conv in (_[_]?)=>tactic=>exact app_get H (zqL m) 1);(conv=>whnf))
  refine cP (c235 m.r3 m.r4 m.rKv m.rB none) ?_
  cases f14:noTk m.r3 m.r4 m.rKv m.rB.length
  ·conv=>whnf
   exact ⟨zqm PV.bool (by unfold zab noTgs noRep noAp zaj;simp only [e1,e2,e3,e4,e5,f12,f13,f14,zq6,zq5,zq8,zq7,zq9,zqa,zq3,zq4]),_,rfl⟩
  conv=>whnf
  ((conv in (_[_]?)=>tactic=>exact app_get H (zqL m) 1);(conv=>whnf))
  refine ⟨fun h=>?_,fun h=>?_⟩
  rotate_left
  ·have f15:decide (m.rBl.length=0)=false:=zqd fun hh=>h (Iff.mpr nat0 hh)
   conv=>whnf
   exact ⟨zqm PV.bool (by unfold zab noTgs noRep noAp zaj;simp only [e1,e2,e3,e4,e5,f12,f13,f14,f15,zq6,zq5,zq8,zq7,zq9,zqa,zq3,zq4]),_,rfl⟩
  have f15:decide (m.rBl.length=0)=true:=zqe (Iff.mp nat0 h)
  conv=>whnf
  refine ⟨fun h=>?_,fun h=>?_⟩
  ·exact (n4 h).elim
  conv=>whnf
  ((conv in (_[_]?)=>tactic=>exact app_get H (zqL m) 2);(conv=>whnf))
  refine cP (c235 m.p1 m.p2 m.pKv m.pB none) ?_
  cases f16:noTk m.p1 m.p2 m.pKv m.pB.length
  ·conv=>whnf
   exact ⟨zqm PV.bool (by unfold zab noTgs noRep noAp zaj;simp only [e1,e2,e3,e4,e5,f12,f13,f14,f15,f16,zq6,zq5,zq8,zq7,zq9,zqa,zq3,zq4]),_,rfl⟩
  conv=>whnf
  ((conv in (_[_]?)=>tactic=>exact app_get H (zqL m) 2);(conv=>whnf))
  refine ⟨fun h=>?_,fun h=>?_⟩
  rotate_left
  ·have f17:decide (m.pAu.length=0)=false:=zqd fun hh=>h (Iff.mpr nat0 hh)
   conv=>whnf
   exact ⟨zqm PV.bool (by unfold zab noTgs noRep noAp zaj;simp only [e1,e2,e3,e4,e5,f12,f13,f14,f15,f16,f17,zq6,zq5,zq8,zq7,zq9,zqa,zq3,zq4]),_,rfl⟩
  have f17:decide (m.pAu.length=0)=true:=zqe (Iff.mp nat0 h)
  conv=>whnf
  refine ⟨fun h=>?_,fun h=>?_⟩
  ·exact (n5 h).elim
  conv=>whnf
  refine ⟨⟨fitF _ _,fitF 0 0⟩,?_⟩
  conv=>whnf
  refine ⟨fun h=>?_,fun h=>?_⟩
  rotate_left
  ·have f18:decide (m.fErr=0∧m.fNonce=0)=false:=zqd fun hh=>h (Iff.mpr fl_eq hh)
   conv=>whnf
   exact ⟨zqm PV.bool (by unfold zab noTgs noRep noAp zaj;simp only [e1,e2,e3,e4,e5,f12,f13,f14,f15,f16,f17,f18,zq6,zq5,zq8,zq7,zq9,zqa,zq3,zq4]),_,rfl⟩
  have f18:decide (m.fErr=0∧m.fNonce=0)=true:=zqe (Iff.mp fl_eq h)
  conv=>whnf
  exact ⟨zqm PV.bool (by unfold zab noTgs noRep noAp zaj;simp only [e1,e2,e3,e4,e5,f12,f13,f14,f15,f16,f17,f18,zq6,zq5,zq8,zq7,zq9,zqa,zq3,zq4]),_,rfl⟩
 by_cases h3:m.kind=3
 ·have hk:=h3
  have n1:¬m.kind=1:=by omega
  have n2:¬m.kind=2:=by omega
  have n4:¬m.kind=4:=by omega
  have n5:¬m.kind=5:=by omega
  have e1:decide (m.kind=1)=false:=zqd n1
  have e2:decide (m.kind=2)=false:=zqd n2
  have e3:decide (m.kind=3)=true:=zqe hk
  have e4:decide (m.kind=4)=false:=zqd n4
  have e5:decide (m.kind=5)=false:=zqd n5
  refine ⟨fun h=>?_,fun h=>?_⟩
  ·exact (n1 h).elim
  conv=>whnf
  refine ⟨⟨fitA _ _ _ _ _ _,fitA [] [] [] [] 0 0⟩,?_⟩
  conv=>whnf
  refine ⟨fun h=>?_,fun h=>?_⟩
  rotate_left
  ·have f19:noAs m=false:=zqd fun hh=>h (Iff.mpr as_eq hh)
   conv=>whnf
   exact ⟨zqm PV.bool (by unfold zab noTgs noRep noAp zaj;simp only [e1,e2,e3,e4,e5,f19,zq6,zq5,zq8,zq7,zq9,zqa,zq3,zq4]),_,rfl⟩
  have f19:noAs m=true:=zqe (Iff.mp as_eq h)
  conv=>whnf
  refine ⟨fun h=>?_,fun h=>?_⟩
  ·exact (n2 h).elim
  conv=>whnf
  ((conv in (_[_]?)=>tactic=>exact app_get H (zqL m) 0);(conv=>whnf))
  refine cP (c235 m.t1 m.t2 m.tKv m.tB none) ?_
  cases f20:noTk m.t1 m.t2 m.tKv m.tB.length
  ·conv=>whnf
   exact ⟨zqm PV.bool (by unfold zab noTgs noRep noAp zaj;simp only [e1,e2,e3,e4,e5,f19,f20,zq6,zq5,zq8,zq7,zq9,zqa,zq3,zq4]),_,rfl⟩
  conv=>whnf
  ((conv in (_[_]?)=>tactic=>exact app_get H (zqL m) 0);(conv=>whnf))
  refine ⟨fun h=>?_,fun h=>?_⟩
  rotate_left
  ·have f21:decide (m.tAu.length=0)=false:=zqd fun hh=>h (Iff.mpr nat0 hh)
   conv=>whnf
   exact ⟨zqm PV.bool (by unfold zab noTgs noRep noAp zaj;simp only [e1,e2,e3,e4,e5,f19,f20,f21,zq6,zq5,zq8,zq7,zq9,zqa,zq3,zq4]),_,rfl⟩
  have f21:decide (m.tAu.length=0)=true:=zqe (Iff.mp nat0 h)
  conv=>whnf
  ((conv in (_[_]?)=>tactic=>exact app_get H (zqL m) 0);(conv=>whnf))
  refine ⟨⟨fitG _ _,fitG [] []⟩,?_⟩
  conv=>whnf
  refine ⟨fun h=>?_,fun h=>?_⟩
  rotate_left
  ·have f22:decide (m.t3=[]∧m.t4=[])=false:=zqd fun hh=>h (Iff.mpr pr_eq hh)
   conv=>whnf
   exact ⟨zqm PV.bool (by unfold zab noTgs noRep noAp zaj;simp only [e1,e2,e3,e4,e5,f19,f20,f21,f22,zq6,zq5,zq8,zq7,zq9,zqa,zq3,zq4]),_,rfl⟩
  have f22:decide (m.t3=[]∧m.t4=[])=true:=zqe (Iff.mp pr_eq h)
  conv=>whnf
  ((conv in (_[_]?)=>tactic=>exact app_get H (zqL m) 0);(conv=>whnf))
  refine ⟨fun h=>?_,fun h=>?_⟩
  rotate_left
  ·have f23:decide (m.tTill=0)=false:=zqd fun hh=>h (Iff.mpr Iff.rfl hh)
   conv=>whnf
   exact ⟨zqm PV.bool (by unfold zab noTgs noRep noAp zaj;simp only [e1,e2,e3,e4,e5,f19,f20,f21,f22,f23,zq6,zq5,zq8,zq7,zq9,zqa,zq3,zq4]),_,rfl⟩
  have f23:decide (m.tTill=0)=true:=zqe (Iff.mp Iff.rfl h)
  conv=>whnf
  ((conv in (_[_]?)=>tactic=>exact app_get H (zqL m) 0);(conv=>whnf))
  refine ⟨fun h=>?_,fun h=>?_⟩
  rotate_left
  ·have f24:decide (m.tNonce=0)=false:=zqd fun hh=>h (Iff.mpr Iff.rfl hh)
   conv=>whnf
   exact ⟨zqm PV.bool (by unfold zab noTgs noRep noAp zaj;simp only [e1,e2,e3,e4,e5,f19,f20,f21,f22,f23,f24,zq6,zq5,zq8,zq7,zq9,zqa,zq3,zq4]),_,rfl⟩
  have f24:decide (m.tNonce=0)=true:=zqe (Iff.mp Iff.rfl h)
  conv=>whnf
  refine ⟨fun h=>?_,fun h=>?_⟩
  rotate_left
  ·exact (h hk).elim
  conv=>whnf
  refine ⟨fun h=>?_,fun h=>?_⟩
  ·exact (n4 h).elim
  conv=>whnf
  ((conv in (_[_]?)=>tactic=>exact app_get H (zqL m) 2);(conv=>whnf))
  refine cP (c235 m.p1 m.p2 m.pKv m.pB none) ?_
  cases f25:noTk m.p1 m.p2 m.pKv m.pB.length
  ·conv=>whnf
   exact ⟨zqm PV.bool (by unfold zab noTgs noRep noAp zaj;simp only [e1,e2,e3,e4,e5,f19,f20,f21,f22,f23,f24,f25,zq6,zq5,zq8,zq7,zq9,zqa,zq3,zq4]),_,rfl⟩
  conv=>whnf
  ((conv in (_[_]?)=>tactic=>exact app_get H (zqL m) 2);(conv=>whnf))
  refine ⟨fun h=>?_,fun h=>?_⟩
  rotate_left
  ·have f26:decide (m.pAu.length=0)=false:=zqd fun hh=>h (Iff.mpr nat0 hh)
   conv=>whnf
   exact ⟨zqm PV.bool (by unfold zab noTgs noRep noAp zaj;simp only [e1,e2,e3,e4,e5,f19,f20,f21,f22,f23,f24,f25,f26,zq6,zq5,zq8,zq7,zq9,zqa,zq3,zq4]),_,rfl⟩
  have f26:decide (m.pAu.length=0)=true:=zqe (Iff.mp nat0 h)
  conv=>whnf
  refine ⟨fun h=>?_,fun h=>?_⟩
  ·exact (n5 h).elim
  conv=>whnf
  refine ⟨⟨fitF _ _,fitF 0 0⟩,?_⟩
  conv=>whnf
  refine ⟨fun h=>?_,fun h=>?_⟩
  rotate_left
  ·have f27:decide (m.fErr=0∧m.fNonce=0)=false:=zqd fun hh=>h (Iff.mpr fl_eq hh)
   conv=>whnf
   exact ⟨zqm PV.bool (by unfold zab noTgs noRep noAp zaj;simp only [e1,e2,e3,e4,e5,f19,f20,f21,f22,f23,f24,f25,f26,f27,zq6,zq5,zq8,zq7,zq9,zqa,zq3,zq4]),_,rfl⟩
  have f27:decide (m.fErr=0∧m.fNonce=0)=true:=zqe (Iff.mp fl_eq h)
  conv=>whnf
  exact ⟨zqm PV.bool (by unfold zab noTgs noRep noAp zaj;simp only [e1,e2,e3,e4,e5,f19,f20,f21,f22,f23,f24,f25,f26,f27,zq6,zq5,zq8,zq7,zq9,zqa,zq3,zq4]),_,rfl⟩
 by_cases h4:m.kind=4
 ·have hk:=h4
  have n1:¬m.kind=1:=by omega
  have n2:¬m.kind=2:=by omega
  have n3:¬m.kind=3:=by omega
  have n5:¬m.kind=5:=by omega
  have e1:decide (m.kind=1)=false:=zqd n1
  have e2:decide (m.kind=2)=false:=zqd n2
  have e3:decide (m.kind=3)=false:=zqd n3
  have e4:decide (m.kind=4)=true:=zqe hk
  have e5:decide (m.kind=5)=false:=zqd n5
  refine ⟨fun h=>?_,fun h=>?_⟩
  ·exact (n1 h).elim
  conv=>whnf
  refine ⟨⟨fitA _ _ _ _ _ _,fitA [] [] [] [] 0 0⟩,?_⟩
  conv=>whnf
  refine ⟨fun h=>?_,fun h=>?_⟩
  rotate_left
  ·have f28:noAs m=false:=zqd fun hh=>h (Iff.mpr as_eq hh)
   conv=>whnf
   exact ⟨zqm PV.bool (by unfold zab noTgs noRep noAp zaj;simp only [e1,e2,e3,e4,e5,f28,zq6,zq5,zq8,zq7,zq9,zqa,zq3,zq4]),_,rfl⟩
  have f28:noAs m=true:=zqe (Iff.mp as_eq h)
  conv=>whnf
  refine ⟨fun h=>?_,fun h=>?_⟩
  ·exact (n2 h).elim
  conv=>whnf
  ((conv in (_[_]?)=>tactic=>exact app_get H (zqL m) 0);(conv=>whnf))
  refine cP (c235 m.t1 m.t2 m.tKv m.tB none) ?_
  cases f29:noTk m.t1 m.t2 m.tKv m.tB.length
  ·conv=>whnf
   exact ⟨zqm PV.bool (by unfold zab noTgs noRep noAp zaj;simp only [e1,e2,e3,e4,e5,f28,f29,zq6,zq5,zq8,zq7,zq9,zqa,zq3,zq4]),_,rfl⟩
  conv=>whnf
  ((conv in (_[_]?)=>tactic=>exact app_get H (zqL m) 0);(conv=>whnf))
  refine ⟨fun h=>?_,fun h=>?_⟩
  rotate_left
  ·have f30:decide (m.tAu.length=0)=false:=zqd fun hh=>h (Iff.mpr nat0 hh)
   conv=>whnf
   exact ⟨zqm PV.bool (by unfold zab noTgs noRep noAp zaj;simp only [e1,e2,e3,e4,e5,f28,f29,f30,zq6,zq5,zq8,zq7,zq9,zqa,zq3,zq4]),_,rfl⟩
  have f30:decide (m.tAu.length=0)=true:=zqe (Iff.mp nat0 h)
  conv=>whnf
  ((conv in (_[_]?)=>tactic=>exact app_get H (zqL m) 0);(conv=>whnf))
  refine ⟨⟨fitG _ _,fitG [] []⟩,?_⟩
  conv=>whnf
  refine ⟨fun h=>?_,fun h=>?_⟩
  rotate_left
  ·have f31:decide (m.t3=[]∧m.t4=[])=false:=zqd fun hh=>h (Iff.mpr pr_eq hh)
   conv=>whnf
   exact ⟨zqm PV.bool (by unfold zab noTgs noRep noAp zaj;simp only [e1,e2,e3,e4,e5,f28,f29,f30,f31,zq6,zq5,zq8,zq7,zq9,zqa,zq3,zq4]),_,rfl⟩
  have f31:decide (m.t3=[]∧m.t4=[])=true:=zqe (Iff.mp pr_eq h)
  conv=>whnf
  ((conv in (_[_]?)=>tactic=>exact app_get H (zqL m) 0);(conv=>whnf))
  refine ⟨fun h=>?_,fun h=>?_⟩
  rotate_left
  ·have f32:decide (m.tTill=0)=false:=zqd fun hh=>h (Iff.mpr Iff.rfl hh)
   conv=>whnf
   exact ⟨zqm PV.bool (by unfold zab noTgs noRep noAp zaj;simp only [e1,e2,e3,e4,e5,f28,f29,f30,f31,f32,zq6,zq5,zq8,zq7,zq9,zqa,zq3,zq4]),_,rfl⟩
  have f32:decide (m.tTill=0)=true:=zqe (Iff.mp Iff.rfl h)
  conv=>whnf
  ((conv in (_[_]?)=>tactic=>exact app_get H (zqL m) 0);(conv=>whnf))
  refine ⟨fun h=>?_,fun h=>?_⟩
  rotate_left
  ·have f33:decide (m.tNonce=0)=false:=zqd fun hh=>h (Iff.mpr Iff.rfl hh)
   conv=>whnf
   exact ⟨zqm PV.bool (by unfold zab noTgs noRep noAp zaj;simp only [e1,e2,e3,e4,e5,f28,f29,f30,f31,f32,f33,zq6,zq5,zq8,zq7,zq9,zqa,zq3,zq4]),_,rfl⟩
  have f33:decide (m.tNonce=0)=true:=zqe (Iff.mp Iff.rfl h)
  conv=>whnf
  refine ⟨fun h=>?_,fun h=>?_⟩
  ·exact (n3 h).elim
  conv=>whnf
  ((conv in (_[_]?)=>tactic=>exact app_get H (zqL m) 1);(conv=>whnf))
  refine ⟨⟨fitG _ _,fitG [] []⟩,?_⟩
  conv=>whnf
  refine ⟨fun h=>?_,fun h=>?_⟩
  rotate_left
  ·have f34:decide (m.r1=[]∧m.r2=[])=false:=zqd fun hh=>h (Iff.mpr pr_eq hh)
   conv=>whnf
   exact ⟨zqm PV.bool (by unfold zab noTgs noRep noAp zaj;simp only [e1,e2,e3,e4,e5,f28,f29,f30,f31,f32,f33,f34,zq6,zq5,zq8,zq7,zq9,zqa,zq3,zq4]),_,rfl⟩
  have f34:decide (m.r1=[]∧m.r2=[])=true:=zqe (Iff.mp pr_eq h)
  conv=>whnf
  ((conv in (_[_]?)=>tactic=>exact app_get H (zqL m) 1);(conv=>whnf))
  refine cP (c235 m.r3 m.r4 m.rKv m.rB none) ?_
  cases f35:noTk m.r3 m.r4 m.rKv m.rB.length
  ·conv=>whnf
   exact ⟨zqm PV.bool (by unfold zab noTgs noRep noAp zaj;simp only [e1,e2,e3,e4,e5,f28,f29,f30,f31,f32,f33,f34,f35,zq6,zq5,zq8,zq7,zq9,zqa,zq3,zq4]),_,rfl⟩
  conv=>whnf
  ((conv in (_[_]?)=>tactic=>exact app_get H (zqL m) 1);(conv=>whnf))
  refine ⟨fun h=>?_,fun h=>?_⟩
  rotate_left
  ·have f36:decide (m.rBl.length=0)=false:=zqd fun hh=>h (Iff.mpr nat0 hh)
   conv=>whnf
   exact ⟨zqm PV.bool (by unfold zab noTgs noRep noAp zaj;simp only [e1,e2,e3,e4,e5,f28,f29,f30,f31,f32,f33,f34,f35,f36,zq6,zq5,zq8,zq7,zq9,zqa,zq3,zq4]),_,rfl⟩
  have f36:decide (m.rBl.length=0)=true:=zqe (Iff.mp nat0 h)
  conv=>whnf
  refine ⟨fun h=>?_,fun h=>?_⟩
  rotate_left
  ·exact (h hk).elim
  conv=>whnf
  refine ⟨fun h=>?_,fun h=>?_⟩
  ·exact (n5 h).elim
  conv=>whnf
  refine ⟨⟨fitF _ _,fitF 0 0⟩,?_⟩
  conv=>whnf
  refine ⟨fun h=>?_,fun h=>?_⟩
  rotate_left
  ·have f37:decide (m.fErr=0∧m.fNonce=0)=false:=zqd fun hh=>h (Iff.mpr fl_eq hh)
   conv=>whnf
   exact ⟨zqm PV.bool (by unfold zab noTgs noRep noAp zaj;simp only [e1,e2,e3,e4,e5,f28,f29,f30,f31,f32,f33,f34,f35,f36,f37,zq6,zq5,zq8,zq7,zq9,zqa,zq3,zq4]),_,rfl⟩
  have f37:decide (m.fErr=0∧m.fNonce=0)=true:=zqe (Iff.mp fl_eq h)
  conv=>whnf
  exact ⟨zqm PV.bool (by unfold zab noTgs noRep noAp zaj;simp only [e1,e2,e3,e4,e5,f28,f29,f30,f31,f32,f33,f34,f35,f36,f37,zq6,zq5,zq8,zq7,zq9,zqa,zq3,zq4]),_,rfl⟩
 by_cases h5:m.kind=5
 ·have hk:=h5
  have n1:¬m.kind=1:=by omega
  have n2:¬m.kind=2:=by omega
  have n3:¬m.kind=3:=by omega
  have n4:¬m.kind=4:=by omega
  have e1:decide (m.kind=1)=false:=zqd n1
  have e2:decide (m.kind=2)=false:=zqd n2
  have e3:decide (m.kind=3)=false:=zqd n3
  have e4:decide (m.kind=4)=false:=zqd n4
  have e5:decide (m.kind=5)=true:=zqe hk
  refine ⟨fun h=>?_,fun h=>?_⟩
  ·exact (n1 h).elim
  conv=>whnf
  refine ⟨⟨fitA _ _ _ _ _ _,fitA [] [] [] [] 0 0⟩,?_⟩
  conv=>whnf
  refine ⟨fun h=>?_,fun h=>?_⟩
  rotate_left
  ·have f38:noAs m=false:=zqd fun hh=>h (Iff.mpr as_eq hh)
   conv=>whnf
   exact ⟨zqm PV.bool (by unfold zab noTgs noRep noAp zaj;simp only [e1,e2,e3,e4,e5,f38,zq6,zq5,zq8,zq7,zq9,zqa,zq3,zq4]),_,rfl⟩
  have f38:noAs m=true:=zqe (Iff.mp as_eq h)
  conv=>whnf
  refine ⟨fun h=>?_,fun h=>?_⟩
  ·exact (n2 h).elim
  conv=>whnf
  ((conv in (_[_]?)=>tactic=>exact app_get H (zqL m) 0);(conv=>whnf))
  refine cP (c235 m.t1 m.t2 m.tKv m.tB none) ?_
  cases f39:noTk m.t1 m.t2 m.tKv m.tB.length
  ·conv=>whnf
   exact ⟨zqm PV.bool (by unfold zab noTgs noRep noAp zaj;simp only [e1,e2,e3,e4,e5,f38,f39,zq6,zq5,zq8,zq7,zq9,zqa,zq3,zq4]),_,rfl⟩
  conv=>whnf
  ((conv in (_[_]?)=>tactic=>exact app_get H (zqL m) 0);(conv=>whnf))
  refine ⟨fun h=>?_,fun h=>?_⟩
  rotate_left
  ·have f40:decide (m.tAu.length=0)=false:=zqd fun hh=>h (Iff.mpr nat0 hh)
   conv=>whnf
   exact ⟨zqm PV.bool (by unfold zab noTgs noRep noAp zaj;simp only [e1,e2,e3,e4,e5,f38,f39,f40,zq6,zq5,zq8,zq7,zq9,zqa,zq3,zq4]),_,rfl⟩
  have f40:decide (m.tAu.length=0)=true:=zqe (Iff.mp nat0 h)
  conv=>whnf
  ((conv in (_[_]?)=>tactic=>exact app_get H (zqL m) 0);(conv=>whnf))
  refine ⟨⟨fitG _ _,fitG [] []⟩,?_⟩
  conv=>whnf
  refine ⟨fun h=>?_,fun h=>?_⟩
  rotate_left
  ·have f41:decide (m.t3=[]∧m.t4=[])=false:=zqd fun hh=>h (Iff.mpr pr_eq hh)
   conv=>whnf
   exact ⟨zqm PV.bool (by unfold zab noTgs noRep noAp zaj;simp only [e1,e2,e3,e4,e5,f38,f39,f40,f41,zq6,zq5,zq8,zq7,zq9,zqa,zq3,zq4]),_,rfl⟩
  have f41:decide (m.t3=[]∧m.t4=[])=true:=zqe (Iff.mp pr_eq h)
  conv=>whnf
  ((conv in (_[_]?)=>tactic=>exact app_get H (zqL m) 0);(conv=>whnf))
  refine ⟨fun h=>?_,fun h=>?_⟩
  rotate_left
  ·have f42:decide (m.tTill=0)=false:=zqd fun hh=>h (Iff.mpr Iff.rfl hh)
   conv=>whnf
   exact ⟨zqm PV.bool (by unfold zab noTgs noRep noAp zaj;simp only [e1,e2,e3,e4,e5,f38,f39,f40,f41,f42,zq6,zq5,zq8,zq7,zq9,zqa,zq3,zq4]),_,rfl⟩
  have f42:decide (m.tTill=0)=true:=zqe (Iff.mp Iff.rfl h)
  conv=>whnf
  ((conv in (_[_]?)=>tactic=>exact app_get H (zqL m) 0);(conv=>whnf))
  refine ⟨fun h=>?_,fun h=>?_⟩
  rotate_left
  ·have f43:decide (m.tNonce=0)=false:=zqd fun hh=>h (Iff.mpr Iff.rfl hh)
   conv=>whnf
   exact ⟨zqm PV.bool (by unfold zab noTgs noRep noAp zaj;simp only [e1,e2,e3,e4,e5,f38,f39,f40,f41,f42,f43,zq6,zq5,zq8,zq7,zq9,zqa,zq3,zq4]),_,rfl⟩
  have f43:decide (m.tNonce=0)=true:=zqe (Iff.mp Iff.rfl h)
  conv=>whnf
  refine ⟨fun h=>?_,fun h=>?_⟩
  ·exact (n3 h).elim
  conv=>whnf
  ((conv in (_[_]?)=>tactic=>exact app_get H (zqL m) 1);(conv=>whnf))
  refine ⟨⟨fitG _ _,fitG [] []⟩,?_⟩
  conv=>whnf
  refine ⟨fun h=>?_,fun h=>?_⟩
  rotate_left
  ·have f44:decide (m.r1=[]∧m.r2=[])=false:=zqd fun hh=>h (Iff.mpr pr_eq hh)
   conv=>whnf
   exact ⟨zqm PV.bool (by unfold zab noTgs noRep noAp zaj;simp only [e1,e2,e3,e4,e5,f38,f39,f40,f41,f42,f43,f44,zq6,zq5,zq8,zq7,zq9,zqa,zq3,zq4]),_,rfl⟩
  have f44:decide (m.r1=[]∧m.r2=[])=true:=zqe (Iff.mp pr_eq h)
  conv=>whnf
  ((conv in (_[_]?)=>tactic=>exact app_get H (zqL m) 1);(conv=>whnf))
  refine cP (c235 m.r3 m.r4 m.rKv m.rB none) ?_
  cases f45:noTk m.r3 m.r4 m.rKv m.rB.length
  ·conv=>whnf
   exact ⟨zqm PV.bool (by unfold zab noTgs noRep noAp zaj;simp only [e1,e2,e3,e4,e5,f38,f39,f40,f41,f42,f43,f44,f45,zq6,zq5,zq8,zq7,zq9,zqa,zq3,zq4]),_,rfl⟩
  conv=>whnf
  ((conv in (_[_]?)=>tactic=>exact app_get H (zqL m) 1);(conv=>whnf))
  refine ⟨fun h=>?_,fun h=>?_⟩
  rotate_left
  ·have f46:decide (m.rBl.length=0)=false:=zqd fun hh=>h (Iff.mpr nat0 hh)
   conv=>whnf
   exact ⟨zqm PV.bool (by unfold zab noTgs noRep noAp zaj;simp only [e1,e2,e3,e4,e5,f38,f39,f40,f41,f42,f43,f44,f45,f46,zq6,zq5,zq8,zq7,zq9,zqa,zq3,zq4]),_,rfl⟩
  have f46:decide (m.rBl.length=0)=true:=zqe (Iff.mp nat0 h)
  conv=>whnf
  refine ⟨fun h=>?_,fun h=>?_⟩
  ·exact (n4 h).elim
  conv=>whnf
  ((conv in (_[_]?)=>tactic=>exact app_get H (zqL m) 2);(conv=>whnf))
  refine cP (c235 m.p1 m.p2 m.pKv m.pB none) ?_
  cases f47:noTk m.p1 m.p2 m.pKv m.pB.length
  ·conv=>whnf
   exact ⟨zqm PV.bool (by unfold zab noTgs noRep noAp zaj;simp only [e1,e2,e3,e4,e5,f38,f39,f40,f41,f42,f43,f44,f45,f46,f47,zq6,zq5,zq8,zq7,zq9,zqa,zq3,zq4]),_,rfl⟩
  conv=>whnf
  ((conv in (_[_]?)=>tactic=>exact app_get H (zqL m) 2);(conv=>whnf))
  refine ⟨fun h=>?_,fun h=>?_⟩
  rotate_left
  ·have f48:decide (m.pAu.length=0)=false:=zqd fun hh=>h (Iff.mpr nat0 hh)
   conv=>whnf
   exact ⟨zqm PV.bool (by unfold zab noTgs noRep noAp zaj;simp only [e1,e2,e3,e4,e5,f38,f39,f40,f41,f42,f43,f44,f45,f46,f47,f48,zq6,zq5,zq8,zq7,zq9,zqa,zq3,zq4]),_,rfl⟩
  have f48:decide (m.pAu.length=0)=true:=zqe (Iff.mp nat0 h)
  conv=>whnf
  refine ⟨fun h=>?_,fun h=>?_⟩
  rotate_left
  ·exact (h hk).elim
  conv=>whnf
  exact ⟨zqm PV.bool (by unfold zab noTgs noRep noAp zaj;simp only [e1,e2,e3,e4,e5,f38,f39,f40,f41,f42,f43,f44,f45,f46,f47,f48,zq6,zq5,zq8,zq7,zq9,zqa,zq3,zq4]),_,rfl⟩
 have n1:¬m.kind=1:=h1
 have n2:¬m.kind=2:=h2
 have n3:¬m.kind=3:=h3
 have n4:¬m.kind=4:=h4
 have n5:¬m.kind=5:=h5
 have e1:decide (m.kind=1)=false:=zqd n1
 have e2:decide (m.kind=2)=false:=zqd n2
 have e3:decide (m.kind=3)=false:=zqd n3
 have e4:decide (m.kind=4)=false:=zqd n4
 have e5:decide (m.kind=5)=false:=zqd n5
 refine ⟨fun h=>?_,fun h=>?_⟩
 ·exact (n1 h).elim
 conv=>whnf
 refine ⟨⟨fitA _ _ _ _ _ _,fitA [] [] [] [] 0 0⟩,?_⟩
 conv=>whnf
 refine ⟨fun h=>?_,fun h=>?_⟩
 rotate_left
 ·have f49:noAs m=false:=zqd fun hh=>h (Iff.mpr as_eq hh)
  conv=>whnf
  exact ⟨zqm PV.bool (by unfold zab noTgs noRep noAp zaj;simp only [e1,e2,e3,e4,e5,f49,zq6,zq5,zq8,zq7,zq9,zqa,zq3,zq4]),_,rfl⟩
 have f49:noAs m=true:=zqe (Iff.mp as_eq h)
 conv=>whnf
 refine ⟨fun h=>?_,fun h=>?_⟩
 ·exact (n2 h).elim
 conv=>whnf
 ((conv in (_[_]?)=>tactic=>exact app_get H (zqL m) 0);(conv=>whnf))
 refine cP (c235 m.t1 m.t2 m.tKv m.tB none) ?_
 cases f50:noTk m.t1 m.t2 m.tKv m.tB.length
 ·conv=>whnf
  exact ⟨zqm PV.bool (by unfold zab noTgs noRep noAp zaj;simp only [e1,e2,e3,e4,e5,f49,f50,zq6,zq5,zq8,zq7,zq9,zqa,zq3,zq4]),_,rfl⟩
 conv=>whnf
 ((conv in (_[_]?)=>tactic=>exact app_get H (zqL m) 0);(conv=>whnf))
 refine ⟨fun h=>?_,fun h=>?_⟩
 rotate_left
 ·have f51:decide (m.tAu.length=0)=false:=zqd fun hh=>h (Iff.mpr nat0 hh)
  conv=>whnf
  exact ⟨zqm PV.bool (by unfold zab noTgs noRep noAp zaj;simp only [e1,e2,e3,e4,e5,f49,f50,f51,zq6,zq5,zq8,zq7,zq9,zqa,zq3,zq4]),_,rfl⟩
 have f51:decide (m.tAu.length=0)=true:=zqe (Iff.mp nat0 h)
 conv=>whnf
 ((conv in (_[_]?)=>tactic=>exact app_get H (zqL m) 0);(conv=>whnf))
 refine ⟨⟨fitG _ _,fitG [] []⟩,?_⟩
 conv=>whnf
 refine ⟨fun h=>?_,fun h=>?_⟩
 rotate_left
 ·have f52:decide (m.t3=[]∧m.t4=[])=false:=zqd fun hh=>h (Iff.mpr pr_eq hh)
  conv=>whnf
  exact ⟨zqm PV.bool (by unfold zab noTgs noRep noAp zaj;simp only [e1,e2,e3,e4,e5,f49,f50,f51,f52,zq6,zq5,zq8,zq7,zq9,zqa,zq3,zq4]),_,rfl⟩
 have f52:decide (m.t3=[]∧m.t4=[])=true:=zqe (Iff.mp pr_eq h)
 conv=>whnf
 ((conv in (_[_]?)=>tactic=>exact app_get H (zqL m) 0);(conv=>whnf))
 refine ⟨fun h=>?_,fun h=>?_⟩
 rotate_left
 ·have f53:decide (m.tTill=0)=false:=zqd fun hh=>h (Iff.mpr Iff.rfl hh)
  conv=>whnf
  exact ⟨zqm PV.bool (by unfold zab noTgs noRep noAp zaj;simp only [e1,e2,e3,e4,e5,f49,f50,f51,f52,f53,zq6,zq5,zq8,zq7,zq9,zqa,zq3,zq4]),_,rfl⟩
 have f53:decide (m.tTill=0)=true:=zqe (Iff.mp Iff.rfl h)
 conv=>whnf
 ((conv in (_[_]?)=>tactic=>exact app_get H (zqL m) 0);(conv=>whnf))
 refine ⟨fun h=>?_,fun h=>?_⟩
 rotate_left
 ·have f54:decide (m.tNonce=0)=false:=zqd fun hh=>h (Iff.mpr Iff.rfl hh)
  conv=>whnf
  exact ⟨zqm PV.bool (by unfold zab noTgs noRep noAp zaj;simp only [e1,e2,e3,e4,e5,f49,f50,f51,f52,f53,f54,zq6,zq5,zq8,zq7,zq9,zqa,zq3,zq4]),_,rfl⟩
 have f54:decide (m.tNonce=0)=true:=zqe (Iff.mp Iff.rfl h)
 conv=>whnf
 refine ⟨fun h=>?_,fun h=>?_⟩
 ·exact (n3 h).elim
 conv=>whnf
 ((conv in (_[_]?)=>tactic=>exact app_get H (zqL m) 1);(conv=>whnf))
 refine ⟨⟨fitG _ _,fitG [] []⟩,?_⟩
 conv=>whnf
 refine ⟨fun h=>?_,fun h=>?_⟩
 rotate_left
 ·have f55:decide (m.r1=[]∧m.r2=[])=false:=zqd fun hh=>h (Iff.mpr pr_eq hh)
  conv=>whnf
  exact ⟨zqm PV.bool (by unfold zab noTgs noRep noAp zaj;simp only [e1,e2,e3,e4,e5,f49,f50,f51,f52,f53,f54,f55,zq6,zq5,zq8,zq7,zq9,zqa,zq3,zq4]),_,rfl⟩
 have f55:decide (m.r1=[]∧m.r2=[])=true:=zqe (Iff.mp pr_eq h)
 conv=>whnf
 ((conv in (_[_]?)=>tactic=>exact app_get H (zqL m) 1);(conv=>whnf))
 refine cP (c235 m.r3 m.r4 m.rKv m.rB none) ?_
 cases f56:noTk m.r3 m.r4 m.rKv m.rB.length
 ·conv=>whnf
  exact ⟨zqm PV.bool (by unfold zab noTgs noRep noAp zaj;simp only [e1,e2,e3,e4,e5,f49,f50,f51,f52,f53,f54,f55,f56,zq6,zq5,zq8,zq7,zq9,zqa,zq3,zq4]),_,rfl⟩
 conv=>whnf
 ((conv in (_[_]?)=>tactic=>exact app_get H (zqL m) 1);(conv=>whnf))
 refine ⟨fun h=>?_,fun h=>?_⟩
 rotate_left
 ·have f57:decide (m.rBl.length=0)=false:=zqd fun hh=>h (Iff.mpr nat0 hh)
  conv=>whnf
  exact ⟨zqm PV.bool (by unfold zab noTgs noRep noAp zaj;simp only [e1,e2,e3,e4,e5,f49,f50,f51,f52,f53,f54,f55,f56,f57,zq6,zq5,zq8,zq7,zq9,zqa,zq3,zq4]),_,rfl⟩
 have f57:decide (m.rBl.length=0)=true:=zqe (Iff.mp nat0 h)
 conv=>whnf
 refine ⟨fun h=>?_,fun h=>?_⟩
 ·exact (n4 h).elim
 conv=>whnf
 ((conv in (_[_]?)=>tactic=>exact app_get H (zqL m) 2);(conv=>whnf))
 refine cP (c235 m.p1 m.p2 m.pKv m.pB none) ?_
 cases f58:noTk m.p1 m.p2 m.pKv m.pB.length
 ·conv=>whnf
  exact ⟨zqm PV.bool (by unfold zab noTgs noRep noAp zaj;simp only [e1,e2,e3,e4,e5,f49,f50,f51,f52,f53,f54,f55,f56,f57,f58,zq6,zq5,zq8,zq7,zq9,zqa,zq3,zq4]),_,rfl⟩
 conv=>whnf
 ((conv in (_[_]?)=>tactic=>exact app_get H (zqL m) 2);(conv=>whnf))
 refine ⟨fun h=>?_,fun h=>?_⟩
 rotate_left
 ·have f59:decide (m.pAu.length=0)=false:=zqd fun hh=>h (Iff.mpr nat0 hh)
  conv=>whnf
  exact ⟨zqm PV.bool (by unfold zab noTgs noRep noAp zaj;simp only [e1,e2,e3,e4,e5,f49,f50,f51,f52,f53,f54,f55,f56,f57,f58,f59,zq6,zq5,zq8,zq7,zq9,zqa,zq3,zq4]),_,rfl⟩
 have f59:decide (m.pAu.length=0)=true:=zqe (Iff.mp nat0 h)
 conv=>whnf
 refine ⟨fun h=>?_,fun h=>?_⟩
 ·exact (n5 h).elim
 conv=>whnf
 refine ⟨⟨fitF _ _,fitF 0 0⟩,?_⟩
 conv=>whnf
 refine ⟨fun h=>?_,fun h=>?_⟩
 rotate_left
 ·have f60:decide (m.fErr=0∧m.fNonce=0)=false:=zqd fun hh=>h (Iff.mpr fl_eq hh)
  conv=>whnf
  exact ⟨zqm PV.bool (by unfold zab noTgs noRep noAp zaj;simp only [e1,e2,e3,e4,e5,f49,f50,f51,f52,f53,f54,f55,f56,f57,f58,f59,f60,zq6,zq5,zq8,zq7,zq9,zqa,zq3,zq4]),_,rfl⟩
 have f60:decide (m.fErr=0∧m.fNonce=0)=true:=zqe (Iff.mp fl_eq h)
 conv=>whnf
 exact ⟨zqm PV.bool (by unfold zab noTgs noRep noAp zaj;simp only [e1,e2,e3,e4,e5,f49,f50,f51,f52,f53,f54,f55,f56,f57,f58,f59,f60,zq6,zq5,zq8,zq7,zq9,zqa,zq3,zq4]),_,rfl⟩
theorem c209 (m:Msg):Pure prog 209 [.agg m.cells] (.bool (zab m)):=Pure.of_gc rfl (c209x m)
def Msg.fits (m:Msg):Prop:=m.a1.length≤1099511620000∧m.a2.length≤1099511620000∧m.a3.length≤1099511620000∧m.a4.length≤1099511620000∧m.t1.length≤1099511620000∧m.t2.length≤1099511620000∧m.t3.length≤1099511620000∧m.t4.length≤1099511620000∧m.r1.length≤1099511620000∧m.r2.length≤1099511620000∧m.r3.length≤1099511620000∧m.r4.length≤1099511620000∧m.p1.length≤1099511620000∧m.p2.length≤1099511620000
def isB (m:Msg):Bool :=
  (if m.kind=1 then zap m.a1 m.a2&&zap m.a3 m.a4&&inZ m.aTill 0 1073741824&&inZ m.aNonce 0 1073741824
   else if m.kind=2 then tickB m.t1 m.t2 m.tKv m.tB.length&&inZ m.tAu.length 1 800&&zap m.t3 m.t4&&inZ m.tTill 0 1073741824&&inZ m.tNonce 0 1073741824
   else if m.kind=3 then zap m.r1 m.r2&&tickB m.r3 m.r4 m.rKv m.rB.length&&inZ m.rBl.length 1 800
   else if m.kind=4 then tickB m.p1 m.p2 m.pKv m.pB.length&&inZ m.pAu.length 1 800
   else if m.kind=5 then inZ m.fErr 1 255&&inZ m.fNonce 0 1073741824
   else false)&&zab m
def Msg.d (m:Msg):Msg:={ m with tBo:=none,tAuo:=none,rBo:=none,rBlo:=none,pBo:=none,pAuo:=none }
theorem od {m:Msg}:zab m.d=zab m:=rfl
theorem c204a (n:Int):Pure prog 204 [.slice 1 [.int .i64 n] none] (.bool (inZ n 0 1073741824)):=(c204 [n] (by show 1≤_;omega)).of_eq (by show PV.bool (inZ n 0 1073741824&&true)=_;rw [zq6])
theorem c163x (m:Msg) (hm:m.fits) (H:PH):CK prog 163 [.agg m.cells] H fun r H'=>r=.bool (isB m)∧∃ext,H'=H++ext:=by
 (refine fnS (imm:=z05) zbi func163 ?_;(conv=>whnf))
 conv=>whnf
 by_cases h1:m.kind=1
 ·have hk:=h1
  have n2:¬m.kind=2:=by omega
  have n3:¬m.kind=3:=by omega
  have n4:¬m.kind=4:=by omega
  have n5:¬m.kind=5:=by omega
  refine ⟨fun h=>?_,fun h=>?_⟩
  rotate_left
  ·exact (h hk).elim
  conv=>whnf
  ((conv in (_[_]?)=>tactic=>exact gL _ _);(conv=>whnf))
  ((conv in (_[_]?)=>tactic=>exact gS (gL _ _));(conv=>whnf))
  refine cP (c64 m.a1 m.a2 (by have:=hm.1;omega) (by have:=hm.2.1;omega)) ?_
  cases f1:zap m.a1 m.a2
  ·conv=>whnf
   exact ⟨zqm PV.bool (by unfold isB;rw [zqp hk];simp only [f1,od,zq6,zq5,zq3,zq4]),(Ext.refl _).push _ |>.set (Ext.refl _).len _⟩
  conv=>whnf
  ((conv in (_[_]?)=>tactic=>exact gS (gL _ _));(conv=>whnf))
  refine cP (c64 m.a3 m.a4 (by have:=hm.2.2.1;omega) (by have:=hm.2.2.2.1;omega)) ?_
  cases f2:zap m.a3 m.a4
  ·conv=>whnf
   exact ⟨zqm PV.bool (by unfold isB;rw [zqp hk];simp only [f1,f2,od,zq6,zq5,zq3,zq4]),(Ext.refl _).push _ |>.set (Ext.refl _).len _⟩
  conv=>whnf
  ((conv in (_[_]?)=>tactic=>exact gS (gL _ _));(conv=>whnf))
  refine cP (c204a m.aTill) ?_
  cases f3:inZ m.aTill 0 1073741824
  ·conv=>whnf
   exact ⟨zqm PV.bool (by unfold isB;rw [zqp hk];simp only [f1,f2,f3,od,zq6,zq5,zq3,zq4]),(Ext.refl _).push _ |>.set (Ext.refl _).len _⟩
  conv=>whnf
  ((conv in (_[_]?)=>tactic=>exact gS (gL _ _));(conv=>whnf))
  refine cP (c205 m.aNonce) ?_
  cases f4:inZ m.aNonce 0 1073741824
  ·conv=>whnf
   exact ⟨zqm PV.bool (by unfold isB;rw [zqp hk];simp only [f1,f2,f3,f4,od,zq6,zq5,zq3,zq4]),(Ext.refl _).push _ |>.set (Ext.refl _).len _⟩
  conv=>whnf
  refine cP (c209 m.d) ?_
  conv=>whnf
  exact ⟨zqm PV.bool (by unfold isB;rw [zqp hk];simp only [f1,f2,f3,f4,od,zq6,zq5,zq3,zq4]),(Ext.refl _).push _ |>.set (Ext.refl _).len _⟩
 by_cases h2:m.kind=2
 ·have hk:=h2
  have n1:¬m.kind=1:=by omega
  have n3:¬m.kind=3:=by omega
  have n4:¬m.kind=4:=by omega
  have n5:¬m.kind=5:=by omega
  refine ⟨fun h=>?_,fun h=>?_⟩
  ·exact (n1 h).elim
  conv=>whnf
  refine ⟨fun h=>?_,fun h=>?_⟩
  rotate_left
  ·exact (h hk).elim
  conv=>whnf
  ((conv in (_[_]?)=>tactic=>exact gL _ _);(conv=>whnf))
  ((conv in (_[_]?)=>tactic=>exact gS (gL _ _));(conv=>whnf))
  refine cP (c206 m.t1 m.t2 m.tKv m.tB none (by have:=hm.2.2.2.2.1;omega) (by have:=hm.2.2.2.2.2.1;omega)) ?_
  cases f5:tickB m.t1 m.t2 m.tKv m.tB.length
  ·conv=>whnf
   exact ⟨zqm PV.bool (by unfold isB;rw [zqo n1];rw [zqp hk];simp only [f5,od,zq6,zq5,zq3,zq4]),(Ext.refl _).push _ |>.set (Ext.refl _).len _⟩
  conv=>whnf
  ((conv in (_[_]?)=>tactic=>exact gS (gL _ _));(conv=>whnf))
  refine cP (c207 m.tAu.length _ _) ?_
  cases f6:inZ m.tAu.length 1 800
  ·conv=>whnf
   exact ⟨zqm PV.bool (by unfold isB;rw [zqo n1];rw [zqp hk];simp only [f5,f6,od,zq6,zq5,zq3,zq4]),(Ext.refl _).push _ |>.set (Ext.refl _).len _⟩
  conv=>whnf
  ((conv in (_[_]?)=>tactic=>exact gS (gL _ _));(conv=>whnf))
  refine cP (c64 m.t3 m.t4 (by have:=hm.2.2.2.2.2.2.1;omega) (by have:=hm.2.2.2.2.2.2.2.1;omega)) ?_
  cases f7:zap m.t3 m.t4
  ·conv=>whnf
   exact ⟨zqm PV.bool (by unfold isB;rw [zqo n1];rw [zqp hk];simp only [f5,f6,f7,od,zq6,zq5,zq3,zq4]),(Ext.refl _).push _ |>.set (Ext.refl _).len _⟩
  conv=>whnf
  ((conv in (_[_]?)=>tactic=>exact gS (gL _ _));(conv=>whnf))
  refine cP (c204a m.tTill) ?_
  cases f8:inZ m.tTill 0 1073741824
  ·conv=>whnf
   exact ⟨zqm PV.bool (by unfold isB;rw [zqo n1];rw [zqp hk];simp only [f5,f6,f7,f8,od,zq6,zq5,zq3,zq4]),(Ext.refl _).push _ |>.set (Ext.refl _).len _⟩
  conv=>whnf
  ((conv in (_[_]?)=>tactic=>exact gS (gL _ _));(conv=>whnf))
  refine cP (c205 m.tNonce) ?_
  cases f9:inZ m.tNonce 0 1073741824
  ·conv=>whnf
   exact ⟨zqm PV.bool (by unfold isB;rw [zqo n1];rw [zqp hk];simp only [f5,f6,f7,f8,f9,od,zq6,zq5,zq3,zq4]),(Ext.refl _).push _ |>.set (Ext.refl _).len _⟩
  conv=>whnf
  refine cP (c209 m.d) ?_
  conv=>whnf
  exact ⟨zqm PV.bool (by unfold isB;rw [zqo n1];rw [zqp hk];simp only [f5,f6,f7,f8,f9,od,zq6,zq5,zq3,zq4]),(Ext.refl _).push _ |>.set (Ext.refl _).len _⟩
 by_cases h3:m.kind=3
 ·have hk:=h3
  have n1:¬m.kind=1:=by omega
  have n2:¬m.kind=2:=by omega
  have n4:¬m.kind=4:=by omega
  have n5:¬m.kind=5:=by omega
  refine ⟨fun h=>?_,fun h=>?_⟩
  ·exact (n1 h).elim
  conv=>whnf
  refine ⟨fun h=>?_,fun h=>?_⟩
  ·exact (n2 h).elim
  conv=>whnf
  refine ⟨fun h=>?_,fun h=>?_⟩
  rotate_left
  ·exact (h hk).elim
  conv=>whnf
  refine cP (c64 m.r1 m.r2 (by have:=hm.2.2.2.2.2.2.2.2.1;omega) (by have:=hm.2.2.2.2.2.2.2.2.2.1;omega)) ?_
  cases f10:zap m.r1 m.r2
  ·conv=>whnf
   exact ⟨zqm PV.bool (by unfold isB;rw [zqo n1];rw [zqo n2];rw [zqp hk];simp only [f10,od,zq6,zq5,zq3,zq4]),Ext.refl _⟩
  conv=>whnf
  refine cP (c206 m.r3 m.r4 m.rKv m.rB none (by have:=hm.2.2.2.2.2.2.2.2.2.2.1;omega) (by have:=hm.2.2.2.2.2.2.2.2.2.2.2.1;omega)) ?_
  cases f11:tickB m.r3 m.r4 m.rKv m.rB.length
  ·conv=>whnf
   exact ⟨zqm PV.bool (by unfold isB;rw [zqo n1];rw [zqo n2];rw [zqp hk];simp only [f10,f11,od,zq6,zq5,zq3,zq4]),Ext.refl _⟩
  conv=>whnf
  refine cP (c207 m.rBl.length _ _) ?_
  cases f12:inZ m.rBl.length 1 800
  ·conv=>whnf
   exact ⟨zqm PV.bool (by unfold isB;rw [zqo n1];rw [zqo n2];rw [zqp hk];simp only [f10,f11,f12,od,zq6,zq5,zq3,zq4]),Ext.refl _⟩
  conv=>whnf
  refine cP (c209 m.d) ?_
  conv=>whnf
  exact ⟨zqm PV.bool (by unfold isB;rw [zqo n1];rw [zqo n2];rw [zqp hk];simp only [f10,f11,f12,od,zq6,zq5,zq3,zq4]),Ext.refl _⟩
 by_cases h4:m.kind=4
 ·have hk:=h4
  have n1:¬m.kind=1:=by omega
  have n2:¬m.kind=2:=by omega
  have n3:¬m.kind=3:=by omega
  have n5:¬m.kind=5:=by omega
  refine ⟨fun h=>?_,fun h=>?_⟩
  ·exact (n1 h).elim
  conv=>whnf
  refine ⟨fun h=>?_,fun h=>?_⟩
  ·exact (n2 h).elim
  conv=>whnf
  refine ⟨fun h=>?_,fun h=>?_⟩
  ·exact (n3 h).elim
  conv=>whnf
  refine ⟨fun h=>?_,fun h=>?_⟩
  rotate_left
  ·exact (h hk).elim
  conv=>whnf
  refine cP (c206 m.p1 m.p2 m.pKv m.pB none (by have:=hm.2.2.2.2.2.2.2.2.2.2.2.2.1;omega) (by have:=hm.2.2.2.2.2.2.2.2.2.2.2.2.2;omega)) ?_
  cases f13:tickB m.p1 m.p2 m.pKv m.pB.length
  ·conv=>whnf
   exact ⟨zqm PV.bool (by unfold isB;rw [zqo n1];rw [zqo n2];rw [zqo n3];rw [zqp hk];simp only [f13,od,zq6,zq5,zq3,zq4]),Ext.refl _⟩
  conv=>whnf
  refine cP (c207 m.pAu.length _ _) ?_
  cases f14:inZ m.pAu.length 1 800
  ·conv=>whnf
   exact ⟨zqm PV.bool (by unfold isB;rw [zqo n1];rw [zqo n2];rw [zqo n3];rw [zqp hk];simp only [f13,f14,od,zq6,zq5,zq3,zq4]),Ext.refl _⟩
  conv=>whnf
  refine cP (c209 m.d) ?_
  conv=>whnf
  exact ⟨zqm PV.bool (by unfold isB;rw [zqo n1];rw [zqo n2];rw [zqo n3];rw [zqp hk];simp only [f13,f14,od,zq6,zq5,zq3,zq4]),Ext.refl _⟩
 by_cases h5:m.kind=5
 ·have hk:=h5
  have n1:¬m.kind=1:=by omega
  have n2:¬m.kind=2:=by omega
  have n3:¬m.kind=3:=by omega
  have n4:¬m.kind=4:=by omega
  refine ⟨fun h=>?_,fun h=>?_⟩
  ·exact (n1 h).elim
  conv=>whnf
  refine ⟨fun h=>?_,fun h=>?_⟩
  ·exact (n2 h).elim
  conv=>whnf
  refine ⟨fun h=>?_,fun h=>?_⟩
  ·exact (n3 h).elim
  conv=>whnf
  refine ⟨fun h=>?_,fun h=>?_⟩
  ·exact (n4 h).elim
  conv=>whnf
  refine ⟨fun h=>?_,fun h=>?_⟩
  rotate_left
  ·exact (h hk).elim
  conv=>whnf
  refine cP (c208 m.fErr 1 255) ?_
  cases f15:inZ m.fErr 1 255
  ·conv=>whnf
   exact ⟨zqm PV.bool (by unfold isB;rw [zqo n1];rw [zqo n2];rw [zqo n3];rw [zqo n4];rw [zqp hk];simp only [f15,od,zq6,zq5,zq3,zq4]),Ext.refl _⟩
  conv=>whnf
  refine cP (c205 m.fNonce) ?_
  cases f16:inZ m.fNonce 0 1073741824
  ·conv=>whnf
   exact ⟨zqm PV.bool (by unfold isB;rw [zqo n1];rw [zqo n2];rw [zqo n3];rw [zqo n4];rw [zqp hk];simp only [f15,f16,od,zq6,zq5,zq3,zq4]),Ext.refl _⟩
  conv=>whnf
  refine cP (c209 m.d) ?_
  conv=>whnf
  exact ⟨zqm PV.bool (by unfold isB;rw [zqo n1];rw [zqo n2];rw [zqo n3];rw [zqo n4];rw [zqp hk];simp only [f15,f16,od,zq6,zq5,zq3,zq4]),Ext.refl _⟩
 have n1:¬m.kind=1:=h1
 have n2:¬m.kind=2:=h2
 have n3:¬m.kind=3:=h3
 have n4:¬m.kind=4:=h4
 have n5:¬m.kind=5:=h5
 refine ⟨fun h=>?_,fun h=>?_⟩
 ·exact (n1 h).elim
 conv=>whnf
 refine ⟨fun h=>?_,fun h=>?_⟩
 ·exact (n2 h).elim
 conv=>whnf
 refine ⟨fun h=>?_,fun h=>?_⟩
 ·exact (n3 h).elim
 conv=>whnf
 refine ⟨fun h=>?_,fun h=>?_⟩
 ·exact (n4 h).elim
 conv=>whnf
 refine ⟨fun h=>?_,fun h=>?_⟩
 ·exact (n5 h).elim
 conv=>whnf
 exact ⟨zqm PV.bool (by unfold isB;rw [zqo n1];rw [zqo n2];rw [zqo n3];rw [zqo n4];rw [zqo n5];simp only [od,zq6,zq5,zq3,zq4]),Ext.refl _⟩
theorem c163 (m:Msg) (hm:m.fits):Pure prog 163 [.agg m.cells] (.bool (isB m)):=Pure.of_gc rfl (c163x m hm)
def zz0:List Nat:=[]
def zzz:List Nat:=[]
def zzy:List Nat:=[1]
def imm98:List Nat:=[1]
def imm99:List Nat:=[1]
def zzx:List Nat:=[1]
def imm57:List Nat:=[1,1000002,1000003,1000004]
theorem c103 (n lo hi:Int):Pure prog 103 [.int .i64 n,.int .i64 lo,.int .i64 hi] (.bool (inZ n lo hi)):=by
 intro H
 (refine fnS (imm:=zz0) zbi func103 ?_;(conv=>whnf))
 unfold inZ
 refine ⟨fun h=>?_,fun h=>?_⟩
 ·conv=>whnf
  have h:n ≥ lo:=h
  rw [zqe (show lo≤n by omega)]
  refine ⟨fun h2=>?_,fun h2=>?_⟩
  ·conv=>whnf
   rw [zqe h2]
   exact ⟨rfl,rfl⟩
  ·conv=>whnf
   rw [zqd h2]
   exact ⟨rfl,rfl⟩
 ·conv=>whnf
  have h:¬n ≥ lo:=h
  rw [zqd (show ¬lo≤n by omega)]
  exact ⟨rfl,rfl⟩
theorem c102 (n:Nat) (cs:List PV) (o:Option Nat):Pure prog 102 [.slice n cs o] (.bool (inZ n 1 800)):=by
 intro H
 (refine fnS (imm:=zzz) zbi func102 ?_;(conv=>whnf))
 (refine cP ((c103 n 1 800)) ?_;try (conv=>whnf))
 exact ⟨rfl,rfl⟩
theorem c101 (r n:List UInt8) (kv:Int) (b:List UInt8) (o:Option Nat) (hr:r.length≤1099511627775) (hn:n.length≤1099511627775) :
  Pure prog 101 [.agg [.str r,.str n,.int .i64 kv,slo b o]] (.bool (tickB r n kv b.length)):=by
 intro H
 (refine fnS (imm:=zzy) zbi func101 ?_;(conv=>whnf))
 refine cP (c29 r n hr hn) ?_
 cases f1:zap r n
 ·conv=>whnf
  exact ⟨zqm PV.bool (by unfold tickB;simp only [f1,zq6,zq5,zq3,zq4]),rfl⟩
 conv=>whnf
 refine cP (c103 kv 1 255) ?_
 cases f2:inZ kv 1 255
 ·conv=>whnf
  exact ⟨zqm PV.bool (by unfold tickB;simp only [f1,f2,zq6,zq5,zq3,zq4]),rfl⟩
 conv=>whnf
 refine cP (c102 b.length _ _) ?_
 cases f3:inZ b.length 1 800
 ·conv=>whnf
  exact ⟨zqm PV.bool (by unfold tickB;simp only [f1,f2,f3,zq6,zq5,zq3,zq4]),rfl⟩
 conv=>whnf
 exact ⟨zqm PV.bool (by unfold tickB;simp only [f1,f2,f3,zq6,zq5,zq3,zq4]),rfl⟩
theorem c98 (r n:List UInt8) (kv:Int) (b:List UInt8) (o:Option Nat):Pure prog 98 [.agg [.str r,.str n,.int .i64 kv,slo b o]] (.bool (noTk r n kv b.length)):=by
 intro H
 (refine fnS (imm:=imm98) zbi func98 ?_;(conv=>whnf))
 refine ⟨⟨fitG _ _,fitG [] []⟩,?_⟩
 conv=>whnf
 refine ⟨fun h=>?_,fun h=>?_⟩
 rotate_left
 ·have f4:decide (r=[]∧n=[])=false:=zqd fun hh=>h (Iff.mpr pr_eq hh)
  conv=>whnf
  exact ⟨zqm PV.bool (by unfold noTk;simp only [f4,zq6,zq5,zq3,zq4]),rfl⟩
 have f4:decide (r=[]∧n=[])=true:=zqe (Iff.mp pr_eq h)
 conv=>whnf
 refine ⟨fun h=>?_,fun h=>?_⟩
 rotate_left
 ·have f5:decide (kv=0)=false:=zqd fun hh=>h (Iff.mpr Iff.rfl hh)
  conv=>whnf
  exact ⟨zqm PV.bool (by unfold noTk;simp only [f4,f5,zq6,zq5,zq3,zq4]),rfl⟩
 have f5:decide (kv=0)=true:=zqe (Iff.mp Iff.rfl h)
 conv=>whnf
 refine ⟨fun h=>?_,fun h=>?_⟩
 rotate_left
 ·have f6:decide (b.length=0)=false:=zqd fun hh=>h (Iff.mpr nat0 hh)
  conv=>whnf
  exact ⟨zqm PV.bool (by unfold noTk;simp only [f4,f5,f6,zq6,zq5,zq3,zq4]),rfl⟩
 have f6:decide (b.length=0)=true:=zqe (Iff.mp nat0 h)
 conv=>whnf
 exact ⟨zqm PV.bool (by unfold noTk;simp only [f4,f5,f6,zq6,zq5,zq3,zq4]),rfl⟩
def asB (m:Msg):Bool:=zap m.a1 m.a2&&zap m.a3 m.a4&&inZ m.aTill 0 1073741824&&inZ m.aNonce 0 1073741824
theorem c99 (m:Msg) (hm:m.fits):Pure prog 99 [.agg m.as] (.bool (asB m)):=by
 intro H
 (refine fnS (imm:=imm99) zbi func99 ?_;(conv=>whnf))
 refine cP (c29 m.a1 m.a2 (by have:=hm.1;omega) (by have:=hm.2.1;omega)) ?_
 cases f7:zap m.a1 m.a2
 ·conv=>whnf
  exact ⟨zqm PV.bool (by unfold asB;simp only [f7,zq6,zq5,zq3,zq4]),rfl⟩
 conv=>whnf
 refine cP (c29 m.a3 m.a4 (by have:=hm.2.2.1;omega) (by have:=hm.2.2.2.1;omega)) ?_
 cases f8:zap m.a3 m.a4
 ·conv=>whnf
  exact ⟨zqm PV.bool (by unfold asB;simp only [f7,f8,zq6,zq5,zq3,zq4]),rfl⟩
 conv=>whnf
 refine cP (c103 m.aTill 0 1073741824) ?_
 cases f9:inZ m.aTill 0 1073741824
 ·conv=>whnf
  exact ⟨zqm PV.bool (by unfold asB;simp only [f7,f8,f9,zq6,zq5,zq3,zq4]),rfl⟩
 conv=>whnf
 refine cP (c103 m.aNonce 0 1073741824) ?_
 cases f10:inZ m.aNonce 0 1073741824
 ·conv=>whnf
  exact ⟨zqm PV.bool (by unfold asB;simp only [f7,f8,f9,f10,zq6,zq5,zq3,zq4]),rfl⟩
 conv=>whnf
 exact ⟨zqm PV.bool (by unfold asB;simp only [f7,f8,f9,f10,zq6,zq5,zq3,zq4]),rfl⟩
def tgsB (m:Msg):Bool:=tickB m.t1 m.t2 m.tKv m.tB.length&&inZ m.tAu.length 1 800&&zap m.t3 m.t4&&inZ m.tTill 0 1073741824&&inZ m.tNonce 0 1073741824
theorem c100 (m:Msg) (hm:m.fits):Pure prog 100 [.agg m.tgs] (.bool (tgsB m)):=by
 intro H
 (refine fnS (imm:=zzx) zbi func100 ?_;(conv=>whnf))
 refine cP (c101 m.t1 m.t2 m.tKv m.tB none (by have:=hm.2.2.2.2.1;omega) (by have:=hm.2.2.2.2.2.1;omega)) ?_
 cases f11:tickB m.t1 m.t2 m.tKv m.tB.length
 ·conv=>whnf
  exact ⟨zqm PV.bool (by unfold tgsB;simp only [f11,zq6,zq5,zq3,zq4]),rfl⟩
 conv=>whnf
 refine cP (c102 m.tAu.length _ _) ?_
 cases f12:inZ m.tAu.length 1 800
 ·conv=>whnf
  exact ⟨zqm PV.bool (by unfold tgsB;simp only [f11,f12,zq6,zq5,zq3,zq4]),rfl⟩
 conv=>whnf
 refine cP (c29 m.t3 m.t4 (by have:=hm.2.2.2.2.2.2.1;omega) (by have:=hm.2.2.2.2.2.2.2.1;omega)) ?_
 cases f13:zap m.t3 m.t4
 ·conv=>whnf
  exact ⟨zqm PV.bool (by unfold tgsB;simp only [f11,f12,f13,zq6,zq5,zq3,zq4]),rfl⟩
 conv=>whnf
 refine cP (c103 m.tTill 0 1073741824) ?_
 cases f14:inZ m.tTill 0 1073741824
 ·conv=>whnf
  exact ⟨zqm PV.bool (by unfold tgsB;simp only [f11,f12,f13,f14,zq6,zq5,zq3,zq4]),rfl⟩
 conv=>whnf
 refine cP (c103 m.tNonce 0 1073741824) ?_
 cases f15:inZ m.tNonce 0 1073741824
 ·conv=>whnf
  exact ⟨zqm PV.bool (by unfold tgsB;simp only [f11,f12,f13,f14,f15,zq6,zq5,zq3,zq4]),rfl⟩
 conv=>whnf
 exact ⟨zqm PV.bool (by unfold tgsB;simp only [f11,f12,f13,f14,f15,zq6,zq5,zq3,zq4]),rfl⟩
set_option maxHeartbeats 2000000
theorem c57 (m:Msg) (hm:m.fits):Pure prog 57 [.agg m.cells] (.bool (isB m)):=by
 intro H
 (refine fnS (imm:=imm57) zbi func57 ?_;(conv=>whnf))
 refine zjz [(1,.elem m.cells),(3,.int .i64 m.kind),(4,.bool (noAs m)),(5,.bool (noTgs m))] H ?_ ?_
 rotate_left
 ·refine dP2 (by kernel_rfl) ?_
  conv=>whnf
  iterate 3 (refine dS ?_;(conv=>whnf))
  cases f1:noAs m
  ·refine ⟨.bool false,?_,?_⟩
   ·conv=>whnf
    refine ⟨⟨fitA _ _ _ _ _ _,fitA [] [] [] [] 0 0⟩,?_⟩
    conv=>whnf
    exact ⟨fun h=>(of_decide_eq_false f1 (Iff.mp as_eq h)).elim,fun _=>⟨rfl,rfl,zqv⟩⟩
   conv=>whnf
   iterate 3 (refine dS ?_;(conv=>whnf))
   refine ⟨_,cP (c98 m.t1 m.t2 m.tKv m.tB none) ⟨rfl,rfl,zqv⟩,?_⟩
   conv=>whnf
   cases f2:noTk m.t1 m.t2 m.tKv m.tB.length
   ·skip
    iterate 28 (refine dS ?_;(conv=>whnf))
    exact ⟨(),trivial,⟨rfl,rfl,rfl,zqm PV.bool (by unfold noTgs;simp only [f2,zq6,zq5,zq3,zq4]),zqv⟩,rfl⟩
   iterate 5 (refine dS ?_;(conv=>whnf))
   cases f3:decide (m.tAu.length=0)
   ·refine ⟨.bool false,?_,?_⟩
    ·conv=>whnf
     exact ⟨fun h=>(of_decide_eq_false f3 (Iff.mp nat0 h)).elim,fun _=>⟨rfl,rfl,zqv⟩⟩
    conv=>whnf
    iterate 22 (refine dS ?_;(conv=>whnf))
    exact ⟨(),trivial,⟨rfl,rfl,rfl,zqm PV.bool (by unfold noTgs;simp only [f2,f3,zq6,zq5,zq3,zq4]),zqv⟩,rfl⟩
   refine ⟨.bool true,?_,?_⟩
   ·conv=>whnf
    exact ⟨fun _=>⟨rfl,rfl,zqv⟩,fun h=>(h (Iff.mpr nat0 (of_decide_eq_true f3))).elim⟩
   conv=>whnf
   iterate 6 (refine dS ?_;(conv=>whnf))
   cases f4:decide (m.t3=[]∧m.t4=[])
   ·refine ⟨.bool false,?_,?_⟩
    ·conv=>whnf
     refine ⟨⟨fitG _ _,fitG [] []⟩,?_⟩
     conv=>whnf
     exact ⟨fun h=>(of_decide_eq_false f4 (Iff.mp pr_eq h)).elim,fun _=>⟨rfl,rfl,zqv⟩⟩
    conv=>whnf
    iterate 15 (refine dS ?_;(conv=>whnf))
    exact ⟨(),trivial,⟨rfl,rfl,rfl,zqm PV.bool (by unfold noTgs;simp only [f2,f3,f4,zq6,zq5,zq3,zq4]),zqv⟩,rfl⟩
   refine ⟨.bool true,?_,?_⟩
   ·conv=>whnf
    refine ⟨⟨fitG _ _,fitG [] []⟩,?_⟩
    conv=>whnf
    exact ⟨fun _=>⟨rfl,rfl,zqv⟩,fun h=>(h (Iff.mpr pr_eq (of_decide_eq_true f4))).elim⟩
   conv=>whnf
   iterate 5 (refine dS ?_;(conv=>whnf))
   cases f5:decide (m.tTill=0)
   ·refine ⟨.bool false,?_,?_⟩
    ·conv=>whnf
     exact ⟨fun h=>(of_decide_eq_false f5 (Iff.mp Iff.rfl h)).elim,fun _=>⟨rfl,rfl,zqv⟩⟩
    conv=>whnf
    iterate 9 (refine dS ?_;(conv=>whnf))
    exact ⟨(),trivial,⟨rfl,rfl,rfl,zqm PV.bool (by unfold noTgs;simp only [f2,f3,f4,f5,zq6,zq5,zq3,zq4]),zqv⟩,rfl⟩
   refine ⟨.bool true,?_,?_⟩
   ·conv=>whnf
    exact ⟨fun _=>⟨rfl,rfl,zqv⟩,fun h=>(h (Iff.mpr Iff.rfl (of_decide_eq_true f5))).elim⟩
   conv=>whnf
   iterate 5 (refine dS ?_;(conv=>whnf))
   cases f6:decide (m.tNonce=0)
   ·refine ⟨.bool false,?_,?_⟩
    ·conv=>whnf
     exact ⟨fun h=>(of_decide_eq_false f6 (Iff.mp Iff.rfl h)).elim,fun _=>⟨rfl,rfl,zqv⟩⟩
    conv=>whnf
    iterate 3 (refine dS ?_;(conv=>whnf))
    exact ⟨(),trivial,⟨rfl,rfl,rfl,zqm PV.bool (by unfold noTgs;simp only [f2,f3,f4,f5,f6,zq6,zq5,zq3,zq4]),zqv⟩,rfl⟩
   refine ⟨.bool true,?_,?_⟩
   ·conv=>whnf
    exact ⟨fun _=>⟨rfl,rfl,zqv⟩,fun h=>(h (Iff.mpr Iff.rfl (of_decide_eq_true f6))).elim⟩
   conv=>whnf
   iterate 3 (refine dS ?_;(conv=>whnf))
   exact ⟨(),trivial,⟨rfl,rfl,rfl,zqm PV.bool (by unfold noTgs;simp only [f2,f3,f4,f5,f6,zq6,zq5,zq3,zq4]),zqv⟩,rfl⟩
  refine ⟨.bool true,?_,?_⟩
  ·conv=>whnf
   refine ⟨⟨fitA _ _ _ _ _ _,fitA [] [] [] [] 0 0⟩,?_⟩
   conv=>whnf
   exact ⟨fun _=>⟨rfl,rfl,zqv⟩,fun h=>(h (Iff.mpr as_eq (of_decide_eq_true f1))).elim⟩
  conv=>whnf
  iterate 3 (refine dS ?_;(conv=>whnf))
  refine ⟨_,cP (c98 m.t1 m.t2 m.tKv m.tB none) ⟨rfl,rfl,zqv⟩,?_⟩
  conv=>whnf
  cases f7:noTk m.t1 m.t2 m.tKv m.tB.length
  ·skip
   iterate 28 (refine dS ?_;(conv=>whnf))
   exact ⟨(),trivial,⟨rfl,rfl,rfl,zqm PV.bool (by unfold noTgs;simp only [f7,zq6,zq5,zq3,zq4]),zqv⟩,rfl⟩
  iterate 5 (refine dS ?_;(conv=>whnf))
  cases f8:decide (m.tAu.length=0)
  ·refine ⟨.bool false,?_,?_⟩
   ·conv=>whnf
    exact ⟨fun h=>(of_decide_eq_false f8 (Iff.mp nat0 h)).elim,fun _=>⟨rfl,rfl,zqv⟩⟩
   conv=>whnf
   iterate 22 (refine dS ?_;(conv=>whnf))
   exact ⟨(),trivial,⟨rfl,rfl,rfl,zqm PV.bool (by unfold noTgs;simp only [f7,f8,zq6,zq5,zq3,zq4]),zqv⟩,rfl⟩
  refine ⟨.bool true,?_,?_⟩
  ·conv=>whnf
   exact ⟨fun _=>⟨rfl,rfl,zqv⟩,fun h=>(h (Iff.mpr nat0 (of_decide_eq_true f8))).elim⟩
  conv=>whnf
  iterate 6 (refine dS ?_;(conv=>whnf))
  cases f9:decide (m.t3=[]∧m.t4=[])
  ·refine ⟨.bool false,?_,?_⟩
   ·conv=>whnf
    refine ⟨⟨fitG _ _,fitG [] []⟩,?_⟩
    conv=>whnf
    exact ⟨fun h=>(of_decide_eq_false f9 (Iff.mp pr_eq h)).elim,fun _=>⟨rfl,rfl,zqv⟩⟩
   conv=>whnf
   iterate 15 (refine dS ?_;(conv=>whnf))
   exact ⟨(),trivial,⟨rfl,rfl,rfl,zqm PV.bool (by unfold noTgs;simp only [f7,f8,f9,zq6,zq5,zq3,zq4]),zqv⟩,rfl⟩
  refine ⟨.bool true,?_,?_⟩
  ·conv=>whnf
   refine ⟨⟨fitG _ _,fitG [] []⟩,?_⟩
   conv=>whnf
   exact ⟨fun _=>⟨rfl,rfl,zqv⟩,fun h=>(h (Iff.mpr pr_eq (of_decide_eq_true f9))).elim⟩
  conv=>whnf
  iterate 5 (refine dS ?_;(conv=>whnf))
  cases f10:decide (m.tTill=0)
  ·refine ⟨.bool false,?_,?_⟩
   ·conv=>whnf
    exact ⟨fun h=>(of_decide_eq_false f10 (Iff.mp Iff.rfl h)).elim,fun _=>⟨rfl,rfl,zqv⟩⟩
   conv=>whnf
   iterate 9 (refine dS ?_;(conv=>whnf))
   exact ⟨(),trivial,⟨rfl,rfl,rfl,zqm PV.bool (by unfold noTgs;simp only [f7,f8,f9,f10,zq6,zq5,zq3,zq4]),zqv⟩,rfl⟩
  refine ⟨.bool true,?_,?_⟩
  ·conv=>whnf
   exact ⟨fun _=>⟨rfl,rfl,zqv⟩,fun h=>(h (Iff.mpr Iff.rfl (of_decide_eq_true f10))).elim⟩
  conv=>whnf
  iterate 5 (refine dS ?_;(conv=>whnf))
  cases f11:decide (m.tNonce=0)
  ·refine ⟨.bool false,?_,?_⟩
   ·conv=>whnf
    exact ⟨fun h=>(of_decide_eq_false f11 (Iff.mp Iff.rfl h)).elim,fun _=>⟨rfl,rfl,zqv⟩⟩
   conv=>whnf
   iterate 3 (refine dS ?_;(conv=>whnf))
   exact ⟨(),trivial,⟨rfl,rfl,rfl,zqm PV.bool (by unfold noTgs;simp only [f7,f8,f9,f10,f11,zq6,zq5,zq3,zq4]),zqv⟩,rfl⟩
  refine ⟨.bool true,?_,?_⟩
  ·conv=>whnf
   exact ⟨fun _=>⟨rfl,rfl,zqv⟩,fun h=>(h (Iff.mpr Iff.rfl (of_decide_eq_true f11))).elim⟩
  conv=>whnf
  iterate 3 (refine dS ?_;(conv=>whnf))
  exact ⟨(),trivial,⟨rfl,rfl,rfl,zqm PV.bool (by unfold noTgs;simp only [f7,f8,f9,f10,f11,zq6,zq5,zq3,zq4]),zqv⟩,rfl⟩
 conv=>whnf
 refine zjz [(1,.elem m.cells),(3,.int .i64 m.kind),(4,.bool (noAs m)),(5,.bool (noTgs m)),(6,.bool (noRep m))] H ?_ ?_
 rotate_left
 ·conv=>whnf
  refine ⟨⟨fitG _ _,fitG [] []⟩,?_⟩
  conv=>whnf
  refine ⟨fun h=>?_,fun h=>?_⟩
  rotate_left
  ·have f12:decide (m.r1=[]∧m.r2=[])=false:=zqd fun hh=>h (Iff.mpr pr_eq hh)
   conv=>whnf
   exact ⟨(),trivial,⟨rfl,rfl,rfl,rfl,zqm PV.bool (by unfold noRep;simp only [f12,zq6,zq5,zq3,zq4]),zqv⟩,rfl⟩
  have f12:decide (m.r1=[]∧m.r2=[])=true:=zqe (Iff.mp pr_eq h)
  conv=>whnf
  refine cP (c98 m.r3 m.r4 m.rKv m.rB none) ?_
  cases f13:noTk m.r3 m.r4 m.rKv m.rB.length
  ·conv=>whnf
   exact ⟨(),trivial,⟨rfl,rfl,rfl,rfl,zqm PV.bool (by unfold noRep;simp only [f12,f13,zq6,zq5,zq3,zq4]),zqv⟩,rfl⟩
  conv=>whnf
  refine ⟨fun h=>?_,fun h=>?_⟩
  rotate_left
  ·have f14:decide (m.rBl.length=0)=false:=zqd fun hh=>h (Iff.mpr nat0 hh)
   conv=>whnf
   exact ⟨(),trivial,⟨rfl,rfl,rfl,rfl,zqm PV.bool (by unfold noRep;simp only [f12,f13,f14,zq6,zq5,zq3,zq4]),zqv⟩,rfl⟩
  have f14:decide (m.rBl.length=0)=true:=zqe (Iff.mp nat0 h)
  conv=>whnf
  exact ⟨(),trivial,⟨rfl,rfl,rfl,rfl,zqm PV.bool (by unfold noRep;simp only [f12,f13,f14,zq6,zq5,zq3,zq4]),zqv⟩,rfl⟩
 conv=>whnf
 refine zjz [(1,.elem m.cells),(3,.int .i64 m.kind),(4,.bool (noAs m)),(5,.bool (noTgs m)),(6,.bool (noRep m)),(7,.bool (noAp m)),(8,.bool (zaj m))] H ?_ ?_
 rotate_left
 ·refine dP2 (by kernel_rfl) ?_
  conv=>whnf
  iterate 3 (refine dS ?_;(conv=>whnf))
  refine ⟨_,cP (c98 m.p1 m.p2 m.pKv m.pB none) ⟨rfl,rfl,zqv⟩,?_⟩
  conv=>whnf
  cases f15:noTk m.p1 m.p2 m.pKv m.pB.length
  ·skip
   iterate 10 (refine dS ?_;(conv=>whnf))
   cases f16:decide (m.fErr=0∧m.fNonce=0)
   ·refine ⟨.bool false,?_,?_⟩
    ·conv=>whnf
     refine ⟨⟨fitF _ _,fitF 0 0⟩,?_⟩
     conv=>whnf
     exact ⟨fun h=>(of_decide_eq_false f16 (Iff.mp fl_eq h)).elim,fun _=>⟨rfl,rfl,zqv⟩⟩
    conv=>whnf
    iterate 2 (refine dS ?_;(conv=>whnf))
    exact ⟨(),trivial,⟨rfl,rfl,rfl,rfl,rfl,zqm PV.bool (by unfold noAp;simp only [f15,zq6,zq5,zq3,zq4]),zqm PV.bool f16.symm,zqv⟩,rfl⟩
   refine ⟨.bool true,?_,?_⟩
   ·conv=>whnf
    refine ⟨⟨fitF _ _,fitF 0 0⟩,?_⟩
    conv=>whnf
    exact ⟨fun _=>⟨rfl,rfl,zqv⟩,fun h=>(h (Iff.mpr fl_eq (of_decide_eq_true f16))).elim⟩
   conv=>whnf
   iterate 2 (refine dS ?_;(conv=>whnf))
   exact ⟨(),trivial,⟨rfl,rfl,rfl,rfl,rfl,zqm PV.bool (by unfold noAp;simp only [f15,zq6,zq5,zq3,zq4]),zqm PV.bool f16.symm,zqv⟩,rfl⟩
  iterate 5 (refine dS ?_;(conv=>whnf))
  cases f17:decide (m.pAu.length=0)
  ·refine ⟨.bool false,?_,?_⟩
   ·conv=>whnf
    exact ⟨fun h=>(of_decide_eq_false f17 (Iff.mp nat0 h)).elim,fun _=>⟨rfl,rfl,zqv⟩⟩
   conv=>whnf
   iterate 4 (refine dS ?_;(conv=>whnf))
   cases f18:decide (m.fErr=0∧m.fNonce=0)
   ·refine ⟨.bool false,?_,?_⟩
    ·conv=>whnf
     refine ⟨⟨fitF _ _,fitF 0 0⟩,?_⟩
     conv=>whnf
     exact ⟨fun h=>(of_decide_eq_false f18 (Iff.mp fl_eq h)).elim,fun _=>⟨rfl,rfl,zqv⟩⟩
    conv=>whnf
    iterate 2 (refine dS ?_;(conv=>whnf))
    exact ⟨(),trivial,⟨rfl,rfl,rfl,rfl,rfl,zqm PV.bool (by unfold noAp;simp only [f15,f17,zq6,zq5,zq3,zq4]),zqm PV.bool f18.symm,zqv⟩,rfl⟩
   refine ⟨.bool true,?_,?_⟩
   ·conv=>whnf
    refine ⟨⟨fitF _ _,fitF 0 0⟩,?_⟩
    conv=>whnf
    exact ⟨fun _=>⟨rfl,rfl,zqv⟩,fun h=>(h (Iff.mpr fl_eq (of_decide_eq_true f18))).elim⟩
   conv=>whnf
   iterate 2 (refine dS ?_;(conv=>whnf))
   exact ⟨(),trivial,⟨rfl,rfl,rfl,rfl,rfl,zqm PV.bool (by unfold noAp;simp only [f15,f17,zq6,zq5,zq3,zq4]),zqm PV.bool f18.symm,zqv⟩,rfl⟩
  refine ⟨.bool true,?_,?_⟩
  ·conv=>whnf
   exact ⟨fun _=>⟨rfl,rfl,zqv⟩,fun h=>(h (Iff.mpr nat0 (of_decide_eq_true f17))).elim⟩
  conv=>whnf
  iterate 4 (refine dS ?_;(conv=>whnf))
  cases f19:decide (m.fErr=0∧m.fNonce=0)
  ·refine ⟨.bool false,?_,?_⟩
   ·conv=>whnf
    refine ⟨⟨fitF _ _,fitF 0 0⟩,?_⟩
    conv=>whnf
    exact ⟨fun h=>(of_decide_eq_false f19 (Iff.mp fl_eq h)).elim,fun _=>⟨rfl,rfl,zqv⟩⟩
   conv=>whnf
   iterate 2 (refine dS ?_;(conv=>whnf))
   exact ⟨(),trivial,⟨rfl,rfl,rfl,rfl,rfl,zqm PV.bool (by unfold noAp;simp only [f15,f17,zq6,zq5,zq3,zq4]),zqm PV.bool f19.symm,zqv⟩,rfl⟩
  refine ⟨.bool true,?_,?_⟩
  ·conv=>whnf
   refine ⟨⟨fitF _ _,fitF 0 0⟩,?_⟩
   conv=>whnf
   exact ⟨fun _=>⟨rfl,rfl,zqv⟩,fun h=>(h (Iff.mpr fl_eq (of_decide_eq_true f19))).elim⟩
  conv=>whnf
  iterate 2 (refine dS ?_;(conv=>whnf))
  exact ⟨(),trivial,⟨rfl,rfl,rfl,rfl,rfl,zqm PV.bool (by unfold noAp;simp only [f15,f17,zq6,zq5,zq3,zq4]),zqm PV.bool f19.symm,zqv⟩,rfl⟩
 conv=>whnf
 by_cases h1:m.kind=1
 ·have hk:=h1
  have n2:¬m.kind=2:=by omega
  have n3:¬m.kind=3:=by omega
  have n4:¬m.kind=4:=by omega
  have n5:¬m.kind=5:=by omega
  have e1:decide (m.kind=1)=true:=zqe hk
  have e2:decide (m.kind=2)=false:=zqd n2
  have e3:decide (m.kind=3)=false:=zqd n3
  have e4:decide (m.kind=4)=false:=zqd n4
  have e5:decide (m.kind=5)=false:=zqd n5
  refine ⟨fun h=>?_,fun h=>?_⟩
  rotate_left
  ·exact (h hk).elim
  conv=>whnf
  refine cP (c99 m hm) ?_
  cases f20:asB m
  ·conv=>whnf
   exact ⟨zqm PV.bool (by unfold isB zab;rw [zqp hk];show _=(asB m&&_);simp only [e1,e2,e3,e4,e5,f20,zq6,zq5,zq3,zq4,zq8,zq7,zq9,zqa]),rfl⟩
  conv=>whnf
  cases f21:noTgs m
  ·conv=>whnf
   exact ⟨zqm PV.bool (by unfold isB zab;rw [zqp hk];show _=(asB m&&_);simp only [e1,e2,e3,e4,e5,f20,f21,zq6,zq5,zq3,zq4,zq8,zq7,zq9,zqa]),rfl⟩
  conv=>whnf
  cases f22:noRep m
  ·conv=>whnf
   exact ⟨zqm PV.bool (by unfold isB zab;rw [zqp hk];show _=(asB m&&_);simp only [e1,e2,e3,e4,e5,f20,f21,f22,zq6,zq5,zq3,zq4,zq8,zq7,zq9,zqa]),rfl⟩
  conv=>whnf
  cases f23:noAp m
  ·conv=>whnf
   exact ⟨zqm PV.bool (by unfold isB zab;rw [zqp hk];show _=(asB m&&_);simp only [e1,e2,e3,e4,e5,f20,f21,f22,f23,zq6,zq5,zq3,zq4,zq8,zq7,zq9,zqa]),rfl⟩
  conv=>whnf
  cases f24:zaj m
  ·conv=>whnf
   exact ⟨zqm PV.bool (by unfold isB zab;rw [zqp hk];show _=(asB m&&_);simp only [e1,e2,e3,e4,e5,f20,f21,f22,f23,f24,zq6,zq5,zq3,zq4,zq8,zq7,zq9,zqa]),rfl⟩
  conv=>whnf
  exact ⟨zqm PV.bool (by unfold isB zab;rw [zqp hk];show _=(asB m&&_);simp only [e1,e2,e3,e4,e5,f20,f21,f22,f23,f24,zq6,zq5,zq3,zq4,zq8,zq7,zq9,zqa]),rfl⟩
 by_cases h2:m.kind=2
 ·have hk:=h2
  have n1:¬m.kind=1:=by omega
  have n3:¬m.kind=3:=by omega
  have n4:¬m.kind=4:=by omega
  have n5:¬m.kind=5:=by omega
  have e1:decide (m.kind=1)=false:=zqd n1
  have e2:decide (m.kind=2)=true:=zqe hk
  have e3:decide (m.kind=3)=false:=zqd n3
  have e4:decide (m.kind=4)=false:=zqd n4
  have e5:decide (m.kind=5)=false:=zqd n5
  refine ⟨fun h=>?_,fun h=>?_⟩
  ·exact (n1 h).elim
  conv=>whnf
  refine ⟨fun h=>?_,fun h=>?_⟩
  rotate_left
  ·exact (h hk).elim
  conv=>whnf
  refine cP ((c100 m.d hm).of_eq (show PV.bool (tgsB m.d)=.bool (tgsB m) from rfl)) ?_
  cases f25:tgsB m
  ·conv=>whnf
   exact ⟨zqm PV.bool (by unfold isB zab;rw [zqo n1];rw [zqp hk];show _=(tgsB m&&_);simp only [e1,e2,e3,e4,e5,f25,zq6,zq5,zq3,zq4,zq8,zq7,zq9,zqa]),rfl⟩
  conv=>whnf
  cases f26:noAs m
  ·conv=>whnf
   exact ⟨zqm PV.bool (by unfold isB zab;rw [zqo n1];rw [zqp hk];show _=(tgsB m&&_);simp only [e1,e2,e3,e4,e5,f25,f26,zq6,zq5,zq3,zq4,zq8,zq7,zq9,zqa]),rfl⟩
  conv=>whnf
  cases f27:noRep m
  ·conv=>whnf
   exact ⟨zqm PV.bool (by unfold isB zab;rw [zqo n1];rw [zqp hk];show _=(tgsB m&&_);simp only [e1,e2,e3,e4,e5,f25,f26,f27,zq6,zq5,zq3,zq4,zq8,zq7,zq9,zqa]),rfl⟩
  conv=>whnf
  cases f28:noAp m
  ·conv=>whnf
   exact ⟨zqm PV.bool (by unfold isB zab;rw [zqo n1];rw [zqp hk];show _=(tgsB m&&_);simp only [e1,e2,e3,e4,e5,f25,f26,f27,f28,zq6,zq5,zq3,zq4,zq8,zq7,zq9,zqa]),rfl⟩
  conv=>whnf
  cases f29:zaj m
  ·conv=>whnf
   exact ⟨zqm PV.bool (by unfold isB zab;rw [zqo n1];rw [zqp hk];show _=(tgsB m&&_);simp only [e1,e2,e3,e4,e5,f25,f26,f27,f28,f29,zq6,zq5,zq3,zq4,zq8,zq7,zq9,zqa]),rfl⟩
  conv=>whnf
  exact ⟨zqm PV.bool (by unfold isB zab;rw [zqo n1];rw [zqp hk];show _=(tgsB m&&_);simp only [e1,e2,e3,e4,e5,f25,f26,f27,f28,f29,zq6,zq5,zq3,zq4,zq8,zq7,zq9,zqa]),rfl⟩
 by_cases h3:m.kind=3
 ·have hk:=h3
  have n1:¬m.kind=1:=by omega
  have n2:¬m.kind=2:=by omega
  have n4:¬m.kind=4:=by omega
  have n5:¬m.kind=5:=by omega
  have e1:decide (m.kind=1)=false:=zqd n1
  have e2:decide (m.kind=2)=false:=zqd n2
  have e3:decide (m.kind=3)=true:=zqe hk
  have e4:decide (m.kind=4)=false:=zqd n4
  have e5:decide (m.kind=5)=false:=zqd n5
  refine ⟨fun h=>?_,fun h=>?_⟩
  ·exact (n1 h).elim
  conv=>whnf
  refine ⟨fun h=>?_,fun h=>?_⟩
  ·exact (n2 h).elim
  conv=>whnf
  refine ⟨fun h=>?_,fun h=>?_⟩
  rotate_left
  ·exact (h hk).elim
  conv=>whnf
  refine cP (c29 m.r1 m.r2 (by have:=hm.2.2.2.2.2.2.2.2.1;omega) (by have:=hm.2.2.2.2.2.2.2.2.2.1;omega)) ?_
  cases f30:zap m.r1 m.r2
  ·conv=>whnf
   exact ⟨zqm PV.bool (by unfold isB zab;rw [zqo n1];rw [zqo n2];rw [zqp hk];simp only [e1,e2,e3,e4,e5,f30,zq6,zq5,zq3,zq4,zq8,zq7,zq9,zqa]),rfl⟩
  conv=>whnf
  refine cP (c101 m.r3 m.r4 m.rKv m.rB none (by have:=hm.2.2.2.2.2.2.2.2.2.2.1;omega) (by have:=hm.2.2.2.2.2.2.2.2.2.2.2.1;omega)) ?_
  cases f31:tickB m.r3 m.r4 m.rKv m.rB.length
  ·conv=>whnf
   exact ⟨zqm PV.bool (by unfold isB zab;rw [zqo n1];rw [zqo n2];rw [zqp hk];simp only [e1,e2,e3,e4,e5,f30,f31,zq6,zq5,zq3,zq4,zq8,zq7,zq9,zqa]),rfl⟩
  conv=>whnf
  refine cP (c102 m.rBl.length _ _) ?_
  cases f32:inZ m.rBl.length 1 800
  ·conv=>whnf
   exact ⟨zqm PV.bool (by unfold isB zab;rw [zqo n1];rw [zqo n2];rw [zqp hk];simp only [e1,e2,e3,e4,e5,f30,f31,f32,zq6,zq5,zq3,zq4,zq8,zq7,zq9,zqa]),rfl⟩
  conv=>whnf
  cases f33:noAs m
  ·conv=>whnf
   exact ⟨zqm PV.bool (by unfold isB zab;rw [zqo n1];rw [zqo n2];rw [zqp hk];simp only [e1,e2,e3,e4,e5,f30,f31,f32,f33,zq6,zq5,zq3,zq4,zq8,zq7,zq9,zqa]),rfl⟩
  conv=>whnf
  cases f34:noTgs m
  ·conv=>whnf
   exact ⟨zqm PV.bool (by unfold isB zab;rw [zqo n1];rw [zqo n2];rw [zqp hk];simp only [e1,e2,e3,e4,e5,f30,f31,f32,f33,f34,zq6,zq5,zq3,zq4,zq8,zq7,zq9,zqa]),rfl⟩
  conv=>whnf
  cases f35:noAp m
  ·conv=>whnf
   exact ⟨zqm PV.bool (by unfold isB zab;rw [zqo n1];rw [zqo n2];rw [zqp hk];simp only [e1,e2,e3,e4,e5,f30,f31,f32,f33,f34,f35,zq6,zq5,zq3,zq4,zq8,zq7,zq9,zqa]),rfl⟩
  conv=>whnf
  cases f36:zaj m
  ·conv=>whnf
   exact ⟨zqm PV.bool (by unfold isB zab;rw [zqo n1];rw [zqo n2];rw [zqp hk];simp only [e1,e2,e3,e4,e5,f30,f31,f32,f33,f34,f35,f36,zq6,zq5,zq3,zq4,zq8,zq7,zq9,zqa]),rfl⟩
  conv=>whnf
  exact ⟨zqm PV.bool (by unfold isB zab;rw [zqo n1];rw [zqo n2];rw [zqp hk];simp only [e1,e2,e3,e4,e5,f30,f31,f32,f33,f34,f35,f36,zq6,zq5,zq3,zq4,zq8,zq7,zq9,zqa]),rfl⟩
 by_cases h4:m.kind=4
 ·have hk:=h4
  have n1:¬m.kind=1:=by omega
  have n2:¬m.kind=2:=by omega
  have n3:¬m.kind=3:=by omega
  have n5:¬m.kind=5:=by omega
  have e1:decide (m.kind=1)=false:=zqd n1
  have e2:decide (m.kind=2)=false:=zqd n2
  have e3:decide (m.kind=3)=false:=zqd n3
  have e4:decide (m.kind=4)=true:=zqe hk
  have e5:decide (m.kind=5)=false:=zqd n5
  refine ⟨fun h=>?_,fun h=>?_⟩
  ·exact (n1 h).elim
  conv=>whnf
  refine ⟨fun h=>?_,fun h=>?_⟩
  ·exact (n2 h).elim
  conv=>whnf
  refine ⟨fun h=>?_,fun h=>?_⟩
  ·exact (n3 h).elim
  conv=>whnf
  refine ⟨fun h=>?_,fun h=>?_⟩
  rotate_left
  ·exact (h hk).elim
  conv=>whnf
  refine cP (c101 m.p1 m.p2 m.pKv m.pB none (by have:=hm.2.2.2.2.2.2.2.2.2.2.2.2.1;omega) (by have:=hm.2.2.2.2.2.2.2.2.2.2.2.2.2;omega)) ?_
  cases f37:tickB m.p1 m.p2 m.pKv m.pB.length
  ·conv=>whnf
   exact ⟨zqm PV.bool (by unfold isB zab;rw [zqo n1];rw [zqo n2];rw [zqo n3];rw [zqp hk];simp only [e1,e2,e3,e4,e5,f37,zq6,zq5,zq3,zq4,zq8,zq7,zq9,zqa]),rfl⟩
  conv=>whnf
  refine cP (c102 m.pAu.length _ _) ?_
  cases f38:inZ m.pAu.length 1 800
  ·conv=>whnf
   exact ⟨zqm PV.bool (by unfold isB zab;rw [zqo n1];rw [zqo n2];rw [zqo n3];rw [zqp hk];simp only [e1,e2,e3,e4,e5,f37,f38,zq6,zq5,zq3,zq4,zq8,zq7,zq9,zqa]),rfl⟩
  conv=>whnf
  cases f39:noAs m
  ·conv=>whnf
   exact ⟨zqm PV.bool (by unfold isB zab;rw [zqo n1];rw [zqo n2];rw [zqo n3];rw [zqp hk];simp only [e1,e2,e3,e4,e5,f37,f38,f39,zq6,zq5,zq3,zq4,zq8,zq7,zq9,zqa]),rfl⟩
  conv=>whnf
  cases f40:noTgs m
  ·conv=>whnf
   exact ⟨zqm PV.bool (by unfold isB zab;rw [zqo n1];rw [zqo n2];rw [zqo n3];rw [zqp hk];simp only [e1,e2,e3,e4,e5,f37,f38,f39,f40,zq6,zq5,zq3,zq4,zq8,zq7,zq9,zqa]),rfl⟩
  conv=>whnf
  cases f41:noRep m
  ·conv=>whnf
   exact ⟨zqm PV.bool (by unfold isB zab;rw [zqo n1];rw [zqo n2];rw [zqo n3];rw [zqp hk];simp only [e1,e2,e3,e4,e5,f37,f38,f39,f40,f41,zq6,zq5,zq3,zq4,zq8,zq7,zq9,zqa]),rfl⟩
  conv=>whnf
  cases f42:zaj m
  ·conv=>whnf
   exact ⟨zqm PV.bool (by unfold isB zab;rw [zqo n1];rw [zqo n2];rw [zqo n3];rw [zqp hk];simp only [e1,e2,e3,e4,e5,f37,f38,f39,f40,f41,f42,zq6,zq5,zq3,zq4,zq8,zq7,zq9,zqa]),rfl⟩
  conv=>whnf
  exact ⟨zqm PV.bool (by unfold isB zab;rw [zqo n1];rw [zqo n2];rw [zqo n3];rw [zqp hk];simp only [e1,e2,e3,e4,e5,f37,f38,f39,f40,f41,f42,zq6,zq5,zq3,zq4,zq8,zq7,zq9,zqa]),rfl⟩
 by_cases h5:m.kind=5
 ·have hk:=h5
  have n1:¬m.kind=1:=by omega
  have n2:¬m.kind=2:=by omega
  have n3:¬m.kind=3:=by omega
  have n4:¬m.kind=4:=by omega
  have e1:decide (m.kind=1)=false:=zqd n1
  have e2:decide (m.kind=2)=false:=zqd n2
  have e3:decide (m.kind=3)=false:=zqd n3
  have e4:decide (m.kind=4)=false:=zqd n4
  have e5:decide (m.kind=5)=true:=zqe hk
  refine ⟨fun h=>?_,fun h=>?_⟩
  ·exact (n1 h).elim
  conv=>whnf
  refine ⟨fun h=>?_,fun h=>?_⟩
  ·exact (n2 h).elim
  conv=>whnf
  refine ⟨fun h=>?_,fun h=>?_⟩
  ·exact (n3 h).elim
  conv=>whnf
  refine ⟨fun h=>?_,fun h=>?_⟩
  ·exact (n4 h).elim
  conv=>whnf
  refine ⟨fun h=>?_,fun h=>?_⟩
  rotate_left
  ·exact (h hk).elim
  conv=>whnf
  refine cP (c103 m.fErr 1 255) ?_
  cases f43:inZ m.fErr 1 255
  ·conv=>whnf
   exact ⟨zqm PV.bool (by unfold isB zab;rw [zqo n1];rw [zqo n2];rw [zqo n3];rw [zqo n4];rw [zqp hk];simp only [e1,e2,e3,e4,e5,f43,zq6,zq5,zq3,zq4,zq8,zq7,zq9,zqa]),rfl⟩
  conv=>whnf
  refine cP (c103 m.fNonce 0 1073741824) ?_
  cases f44:inZ m.fNonce 0 1073741824
  ·conv=>whnf
   exact ⟨zqm PV.bool (by unfold isB zab;rw [zqo n1];rw [zqo n2];rw [zqo n3];rw [zqo n4];rw [zqp hk];simp only [e1,e2,e3,e4,e5,f43,f44,zq6,zq5,zq3,zq4,zq8,zq7,zq9,zqa]),rfl⟩
  conv=>whnf
  cases f45:noAs m
  ·conv=>whnf
   exact ⟨zqm PV.bool (by unfold isB zab;rw [zqo n1];rw [zqo n2];rw [zqo n3];rw [zqo n4];rw [zqp hk];simp only [e1,e2,e3,e4,e5,f43,f44,f45,zq6,zq5,zq3,zq4,zq8,zq7,zq9,zqa]),rfl⟩
  conv=>whnf
  cases f46:noTgs m
  ·conv=>whnf
   exact ⟨zqm PV.bool (by unfold isB zab;rw [zqo n1];rw [zqo n2];rw [zqo n3];rw [zqo n4];rw [zqp hk];simp only [e1,e2,e3,e4,e5,f43,f44,f45,f46,zq6,zq5,zq3,zq4,zq8,zq7,zq9,zqa]),rfl⟩
  conv=>whnf
  cases f47:noRep m
  ·conv=>whnf
   exact ⟨zqm PV.bool (by unfold isB zab;rw [zqo n1];rw [zqo n2];rw [zqo n3];rw [zqo n4];rw [zqp hk];simp only [e1,e2,e3,e4,e5,f43,f44,f45,f46,f47,zq6,zq5,zq3,zq4,zq8,zq7,zq9,zqa]),rfl⟩
  conv=>whnf
  cases f48:noAp m
  ·conv=>whnf
   exact ⟨zqm PV.bool (by unfold isB zab;rw [zqo n1];rw [zqo n2];rw [zqo n3];rw [zqo n4];rw [zqp hk];simp only [e1,e2,e3,e4,e5,f43,f44,f45,f46,f47,f48,zq6,zq5,zq3,zq4,zq8,zq7,zq9,zqa]),rfl⟩
  conv=>whnf
  exact ⟨zqm PV.bool (by unfold isB zab;rw [zqo n1];rw [zqo n2];rw [zqo n3];rw [zqo n4];rw [zqp hk];simp only [e1,e2,e3,e4,e5,f43,f44,f45,f46,f47,f48,zq6,zq5,zq3,zq4,zq8,zq7,zq9,zqa]),rfl⟩
 have n1:¬m.kind=1:=h1
 have n2:¬m.kind=2:=h2
 have n3:¬m.kind=3:=h3
 have n4:¬m.kind=4:=h4
 have n5:¬m.kind=5:=h5
 have e1:decide (m.kind=1)=false:=zqd n1
 have e2:decide (m.kind=2)=false:=zqd n2
 have e3:decide (m.kind=3)=false:=zqd n3
 have e4:decide (m.kind=4)=false:=zqd n4
 have e5:decide (m.kind=5)=false:=zqd n5
 refine ⟨fun h=>?_,fun h=>?_⟩
 ·exact (n1 h).elim
 conv=>whnf
 refine ⟨fun h=>?_,fun h=>?_⟩
 ·exact (n2 h).elim
 conv=>whnf
 refine ⟨fun h=>?_,fun h=>?_⟩
 ·exact (n3 h).elim
 conv=>whnf
 refine ⟨fun h=>?_,fun h=>?_⟩
 ·exact (n4 h).elim
 conv=>whnf
 refine ⟨fun h=>?_,fun h=>?_⟩
 ·exact (n5 h).elim
 conv=>whnf
 exact ⟨zqm PV.bool (by unfold isB zab;rw [zqo n1];rw [zqo n2];rw [zqo n3];rw [zqo n4];rw [zqo n5];simp only [e1,e2,e3,e4,e5,zq6,zq5,zq3,zq4,zq8,zq7,zq9,zqa]),rfl⟩
theorem zjk (c:UInt8):∀(s:List UInt8),((zad c s).map (fun x=>x.length+1)).sum=s.length+1
 | []=>by simp [zad]
 | x::s=>by
  have ih:=zjk c s
  have hne:zad c s≠[]:=fun e=>by rw [e] at ih;simp at ih
  simp only [zad]
  split
  ·simp [ih];omega
  ·cases hs:zad c s with
   | nil=>exact absurd hs hne
   | cons a l=>rw [hs] at ih;simp at ih ⊢;omega
theorem zxc (k:Nat):∀(l:List (List UInt8)),(∀x∈l,x.length≤k)→(l.map (fun x=>x.length+1)).sum≤l.length*(k+1)
 | [],_=>by simp
 | a::l,h=>by
  have:=zxc k l fun x hx=>h x (List.mem_cons_of_mem _ hx)
  have:=h a List.mem_cons_self
  simp only [List.map_cons,List.sum_cons,List.length_cons,Nat.add_mul];omega
theorem znp {c:UInt8} {s:List UInt8} (h:badL (zad c s)=false):s.length≤35:=by
 unfold badL at h
 rw [Bool.or_eq_false_iff] at h
 have h1:(zad c s).length≤4:=by have:=of_decide_eq_false h.1;omega
 have h2:=zxc 8 (zad c s) fun x hx=>by
  have:=List.any_eq_false.1 h.2 x hx
  have:za9 x zcy=true:=by simpa using this
  unfold za9 at this
  rw [zqb,zqb] at this
  exact of_decide_eq_true this.2.1
 rw [zjk] at h2
 have:(zad c s).length*(8+1)≤4*(8+1):=Nat.mul_le_mul_right _ h1
 omega
theorem zl1 {r:List UInt8} (h:zb1 r=true):r.length≤36:=by
 replace h:(za6 r).1≠0:=of_decide_eq_true h
 unfold za6 at h
 split at h
 ·split at h
  ·exact absurd rfl h
  ·rename_i t hb
   have:=znp (c:=47) (s:=t) (by simpa using hb)
   simp;omega
 ·split at h
  ·exact absurd rfl h
  ·rename_i hb
   have:=znp (c:=46) (s:=r) (by simpa using hb)
   omega
theorem zaz {r n:List UInt8} (h:zap r n=true):r.length≤36∧n.length≤43:=by
 unfold zap at h
 rw [zqb,Bool.or_eq_true] at h
 refine ⟨zl1 h.1,?_⟩
 rcases h.2 with h2 | h2
 ·unfold zcf at h2
  split at h2
  ·rename_i hc
   rw [zqb] at hc
   have:=zl1 hc.2
   rw [List.length_drop] at this
   omega
  ·cases h2
 ·unfold za9 at h2
  rw [zqb,zqb] at h2
  have:=of_decide_eq_true h2.2.1
  omega
theorem za8 {n lo hi:Int} (h:inZ n lo hi=true):lo≤n∧n≤hi:=by
 unfold inZ at h
 rw [zqb] at h
 exact ⟨of_decide_eq_true h.1,of_decide_eq_true h.2⟩
theorem zcp {r n:List UInt8} {kv:Int} {k:Nat} (h:tickB r n kv k=true):r.length≤36∧n.length≤43∧k≤800:=by
 unfold tickB at h
 rw [zqb,zqb] at h
 have h1:=zaz h.1.1
 have h2:=za8 h.2
 exact ⟨h1.1,h1.2,by omega⟩
theorem zah (t:UInt8) (b:List UInt8):(wrapB t b).length≤b.length+4:=by
 have:=zka b.length
 unfold wrapB
 simp;omega
def zan (r n:List UInt8):List UInt8:=wrapB 48 [wrapB 27 r,wrapB 27 n].flatten
def intE (n:Int):List UInt8:=wrapB 2 (intB (zau n))
def zaw (r n:List UInt8) (kv:Int) (b:List UInt8):List UInt8:=wrapB 97 [zan r n,intE kv,wrapB 4 b].flatten
theorem zam (n:Int):(intE n).length≤14:=by
 have h1:=zah 2 (intB (zau n))
 have h2:=zol 9 (zau n)
 have h3:(intB (zau n)).length≤10:=by
  unfold intB padB
  rw [List.length_reverse]
  split
  ·rw [zqf,List.length_singleton];omega
  ·omega
 unfold intE;omega
theorem zaq (r n:List UInt8):(zan r n).length≤r.length+n.length+12:=by
 have h:=zah 48 [wrapB 27 r,wrapB 27 n].flatten
 have h1:=zah 27 r
 have h2:=zah 27 n
 simp only [zqk,zql,zqf,List.length_nil] at h
 unfold zan;simp only [zqk,zql] at h ⊢;omega
theorem zbf (r n:List UInt8) (kv:Int) (b:List UInt8):(zaw r n kv b).length≤r.length+n.length+b.length+34:=by
 have h:=zah 97 [zan r n,intE kv,wrapB 4 b].flatten
 have h1:=zaq r n
 have h2:=zam kv
 have h3:=zah 4 b
 simp only [zqk,zql,zqf,List.length_nil] at h
 unfold zaw;simp only [zqk,zql] at h ⊢;omega
theorem c210p (tag:UInt8) (ls:List (List UInt8)) (hn:ls.length≤1099511627776) (ht:ls.flatten.length≤1099511627000) :
  Pure prog 210 [bC tag,.slice ls.length (ls.map sl) none] (sl (wrapB tag ls.flatten)):=fun H=>c210 tag ls hn ht (Reps.sl H ls)
theorem c214p (p:List UInt8) (hp:p.length≤1099511627000):Pure prog 214 [sl p] (sl (wrapB 4 p)):=fun H=>c214 p hp H
theorem c220p (p:List UInt8) (hp:p.length≤1099511627000):Pure prog 220 [.str p] (sl (wrapB 27 p)):=fun H=>c220 p hp H
def limV (ok:Bool) (b:List UInt8):PV:=if ok=true∧b.length≤2000 then .tup [sl b,.int .i64 0] else .tup [.slice 0 [] (some 5),.int .i64 1]
theorem c164 (ok:Bool) (b:List UInt8):Pure prog 164 [.bool ok,sl b] (limV ok b):=by
 intro H
 (refine fnS (imm:=z06) zbi func164 ?_;(conv=>whnf))
 cases ok
 ·conv=>whnf
  exact ⟨by unfold limV;rw [zqo (by simp)];rfl,rfl⟩
 ·conv=>whnf
  refine ⟨fun h=>?_,fun h=>?_⟩
  ·conv=>whnf
   have h:(2000:Int)<(b.length:Int):=h
   exact ⟨by unfold limV;rw [zqo (by omega)];rfl,rfl⟩
  ·conv=>whnf
   have h:¬(2000:Int)<(b.length:Int):=h
   exact ⟨by unfold limV;rw [zqp ⟨rfl,by omega⟩];rfl,rfl⟩
theorem c211 (r n:List UInt8) (hr:r.length≤1000000) (hn:n.length≤1000000):Pure prog 211 [.agg [.str r,.str n]] (sl (zan r n)):=by
 intro H
 have h1:=zah 27 r
 have h2:=zah 27 n
 (refine fnS (imm:=z14) zbi func211 ?_;(conv=>whnf))
 refine dP2 (by kernel_rfl) ?_
 conv=>whnf
 iterate 2 (refine dS ?_;(conv=>whnf))
 refine ⟨_,cP (c220p r (by omega)) ⟨rfl,rfl,zqv⟩,?_⟩
 conv=>whnf
 iterate 2 (refine dS ?_;(conv=>whnf))
 refine ⟨_,cP (c220p n (by omega)) ⟨rfl,rfl,zqv⟩,?_⟩
 conv=>whnf
 (refine dS ?_;(conv=>whnf))
 refine ⟨_,cP (c210p 48 [wrapB 27 r,wrapB 27 n] (by simp) (by simp only [zqk,zql,zqf,List.length_nil];omega)) ⟨rfl,rfl,zqv⟩,?_⟩
 conv=>whnf
 (refine dS ?_;(conv=>whnf))
 exact ⟨rfl,rfl⟩
theorem c213 (r n:List UInt8) (kv:Int) (b:List UInt8) (o:Option Nat) (hr:r.length≤1000000) (hn:n.length≤1000000) (hb:b.length≤1000000):Pure prog 213 [.agg [.str r,.str n,.int .i64 kv,slo b o]] (sl (zaw r n kv b)):=by
 intro H
 have h1:=zaq r n
 have h2:=zam kv
 have h3:=zah 4 b
 (refine fnS (imm:=z16) zbi func213 ?_;(conv=>whnf))
 refine dP2 (by kernel_rfl) ?_
 conv=>whnf
 iterate 2 (refine dS ?_;(conv=>whnf))
 refine ⟨_,cP (c211 r n hr hn) ⟨rfl,rfl,zqv⟩,?_⟩
 conv=>whnf
 iterate 2 (refine dS ?_;(conv=>whnf))
 refine ⟨_,cP (c212 kv) ⟨rfl,rfl,zqv⟩,?_⟩
 conv=>whnf
 iterate 2 (refine dS ?_;(conv=>whnf))
 refine ⟨_,cP (c214p b (by omega)) ⟨rfl,rfl,zqv⟩,?_⟩
 conv=>whnf
 (refine dS ?_;(conv=>whnf))
 refine ⟨_,cP (c210p 97 [zan r n,intE kv,wrapB 4 b] (by simp) (by simp only [zqk,zql,zqf,List.length_nil];omega)) ⟨rfl,rfl,zqv⟩,?_⟩
 conv=>whnf
 (refine dS ?_;(conv=>whnf))
 exact ⟨rfl,rfl⟩
def laidB (m:Msg):List UInt8 :=
 if m.kind=1 then wrapB 106 [zan m.a1 m.a2,zan m.a3 m.a4,intE m.aTill,intE m.aNonce].flatten
 else if m.kind=2 then wrapB 108 [zaw m.t1 m.t2 m.tKv m.tB,wrapB 4 m.tAu,zan m.t3 m.t4,intE m.tTill,intE m.tNonce].flatten
 else if m.kind=3 then wrapB 107 [zan m.r1 m.r2,zaw m.r3 m.r4 m.rKv m.rB,wrapB 4 m.rBl].flatten
 else if m.kind=4 then wrapB 110 [zaw m.p1 m.p2 m.pKv m.pB,wrapB 4 m.pAu].flatten
 else wrapB 126 [intE m.fErr,intE m.fNonce].flatten
theorem c165x (m:Msg) (hm:isB m=true) (H:PH):CK prog 165 [.agg m.cells] H fun r H'=>r=sl (laidB m)∧∃ext,H'=H++ext:=by
 have hm:=(zqb _ _▸hm:_∧_).1
 (refine fnS (imm:=z07) zbi func165 ?_;(conv=>whnf))
 conv=>whnf
 by_cases h1:m.kind=1
 ·have hk:=h1
  have n2:¬m.kind=2:=by omega
  have n3:¬m.kind=3:=by omega
  have n4:¬m.kind=4:=by omega
  have n5:¬m.kind=5:=by omega
  rw [zqp hk] at hm
  simp only [zqb] at hm
  have g1:=zaz hm.1.1.1
  have g2:=zaz hm.1.1.2
  have g3:=zaq m.a1 m.a2
  have g4:=zaq m.a3 m.a4
  have g5:=zam m.aTill
  have g6:=zam m.aNonce
  refine ⟨fun h=>?_,fun h=>?_⟩
  rotate_left
  ·exact (h hk).elim
  conv=>whnf
  ((conv in (_[_]?)=>tactic=>exact gL _ _);(conv=>whnf))
  refine dP2 (by kernel_rfl) ?_
  conv=>whnf
  (refine dS ?_;(conv=>whnf))
  apply exA
  focus
   conv=>whnf
   ((conv in (_[_]?)=>tactic=>exact gS (gL _ _));(conv=>whnf))
   exact ⟨rfl,rfl,zqv⟩
  conv=>whnf
  refine ⟨_,cP (c211 m.a1 m.a2 (by omega) (by omega)) ⟨rfl,rfl,zqv⟩,?_⟩
  conv=>whnf
  (refine dS ?_;(conv=>whnf))
  apply exA
  focus
   conv=>whnf
   ((conv in (_[_]?)=>tactic=>exact gS (gL _ _));(conv=>whnf))
   exact ⟨rfl,rfl,zqv⟩
  conv=>whnf
  refine ⟨_,cP (c211 m.a3 m.a4 (by omega) (by omega)) ⟨rfl,rfl,zqv⟩,?_⟩
  conv=>whnf
  (refine dS ?_;(conv=>whnf))
  apply exA
  focus
   conv=>whnf
   ((conv in (_[_]?)=>tactic=>exact gS (gL _ _));(conv=>whnf))
   exact ⟨rfl,rfl,zqv⟩
  conv=>whnf
  refine ⟨_,cP (c212 m.aTill) ⟨rfl,rfl,zqv⟩,?_⟩
  conv=>whnf
  (refine dS ?_;(conv=>whnf))
  apply exA
  focus
   conv=>whnf
   ((conv in (_[_]?)=>tactic=>exact gS (gL _ _));(conv=>whnf))
   exact ⟨rfl,rfl,zqv⟩
  conv=>whnf
  refine ⟨_,cP (c212 m.aNonce) ⟨rfl,rfl,zqv⟩,?_⟩
  conv=>whnf
  (refine dS ?_;(conv=>whnf))
  refine ⟨_,cP (c210p 106 [zan m.a1 m.a2,zan m.a3 m.a4,intE m.aTill,intE m.aNonce] (by simp) (by simp only [zqk,zql,zqf,List.length_nil];omega)) ⟨rfl,rfl,zqv⟩,?_⟩
  conv=>whnf
  (refine dS ?_;(conv=>whnf))
  exact ⟨by unfold laidB;rw [zqp hk];rfl,(Ext.refl _).push _ |>.set (Ext.refl _).len _⟩
 by_cases h2:m.kind=2
 ·have hk:=h2
  have n1:¬m.kind=1:=by omega
  have n3:¬m.kind=3:=by omega
  have n4:¬m.kind=4:=by omega
  have n5:¬m.kind=5:=by omega
  rw [zqo n1] at hm
  rw [zqp hk] at hm
  simp only [zqb] at hm
  have g1:=zcp hm.1.1.1.1
  have g2:=za8 hm.1.1.1.2
  have g3:=zaz hm.1.1.2
  have g4:=zbf m.t1 m.t2 m.tKv m.tB
  have g5:=zah 4 m.tAu
  have g6:=zaq m.t3 m.t4
  have g7:=zam m.tTill
  have g8:=zam m.tNonce
  refine ⟨fun h=>?_,fun h=>?_⟩
  ·exact (n1 h).elim
  conv=>whnf
  refine ⟨fun h=>?_,fun h=>?_⟩
  rotate_left
  ·exact (h hk).elim
  conv=>whnf
  ((conv in (_[_]?)=>tactic=>exact gL _ _);(conv=>whnf))
  refine dP2 (by kernel_rfl) ?_
  conv=>whnf
  (refine dS ?_;(conv=>whnf))
  apply exA
  focus
   conv=>whnf
   ((conv in (_[_]?)=>tactic=>exact gS (gL _ _));(conv=>whnf))
   exact ⟨rfl,rfl,zqv⟩
  conv=>whnf
  refine ⟨_,cP (c213 m.t1 m.t2 m.tKv m.tB none (by omega) (by omega) (by omega)) ⟨rfl,rfl,zqv⟩,?_⟩
  conv=>whnf
  (refine dS ?_;(conv=>whnf))
  apply exA
  focus
   conv=>whnf
   ((conv in (_[_]?)=>tactic=>exact gS (gL _ _));(conv=>whnf))
   exact ⟨rfl,rfl,zqv⟩
  conv=>whnf
  refine ⟨_,cP (c214p m.tAu (by omega)) ⟨rfl,rfl,zqv⟩,?_⟩
  conv=>whnf
  (refine dS ?_;(conv=>whnf))
  apply exA
  focus
   conv=>whnf
   ((conv in (_[_]?)=>tactic=>exact gS (gL _ _));(conv=>whnf))
   exact ⟨rfl,rfl,zqv⟩
  conv=>whnf
  refine ⟨_,cP (c211 m.t3 m.t4 (by omega) (by omega)) ⟨rfl,rfl,zqv⟩,?_⟩
  conv=>whnf
  (refine dS ?_;(conv=>whnf))
  apply exA
  focus
   conv=>whnf
   ((conv in (_[_]?)=>tactic=>exact gS (gL _ _));(conv=>whnf))
   exact ⟨rfl,rfl,zqv⟩
  conv=>whnf
  refine ⟨_,cP (c212 m.tTill) ⟨rfl,rfl,zqv⟩,?_⟩
  conv=>whnf
  (refine dS ?_;(conv=>whnf))
  apply exA
  focus
   conv=>whnf
   ((conv in (_[_]?)=>tactic=>exact gS (gL _ _));(conv=>whnf))
   exact ⟨rfl,rfl,zqv⟩
  conv=>whnf
  refine ⟨_,cP (c212 m.tNonce) ⟨rfl,rfl,zqv⟩,?_⟩
  conv=>whnf
  (refine dS ?_;(conv=>whnf))
  refine ⟨_,cP (c210p 108 [zaw m.t1 m.t2 m.tKv m.tB,wrapB 4 m.tAu,zan m.t3 m.t4,intE m.tTill,intE m.tNonce] (by simp) (by simp only [zqk,zql,zqf,List.length_nil];omega)) ⟨rfl,rfl,zqv⟩,?_⟩
  conv=>whnf
  (refine dS ?_;(conv=>whnf))
  exact ⟨by unfold laidB;rw [zqo n1];rw [zqp hk];rfl,(Ext.refl _).push _ |>.set (Ext.refl _).len _⟩
 by_cases h3:m.kind=3
 ·have hk:=h3
  have n1:¬m.kind=1:=by omega
  have n2:¬m.kind=2:=by omega
  have n4:¬m.kind=4:=by omega
  have n5:¬m.kind=5:=by omega
  rw [zqo n1] at hm
  rw [zqo n2] at hm
  rw [zqp hk] at hm
  simp only [zqb] at hm
  have g1:=zaz hm.1.1
  have g2:=zcp hm.1.2
  have g3:=za8 hm.2
  have g4:=zaq m.r1 m.r2
  have g5:=zbf m.r3 m.r4 m.rKv m.rB
  have g6:=zah 4 m.rBl
  refine ⟨fun h=>?_,fun h=>?_⟩
  ·exact (n1 h).elim
  conv=>whnf
  refine ⟨fun h=>?_,fun h=>?_⟩
  ·exact (n2 h).elim
  conv=>whnf
  refine ⟨fun h=>?_,fun h=>?_⟩
  rotate_left
  ·exact (h hk).elim
  conv=>whnf
  refine dP2 (by kernel_rfl) ?_
  conv=>whnf
  iterate 3 (refine dS ?_;(conv=>whnf))
  refine ⟨_,cP (c211 m.r1 m.r2 (by omega) (by omega)) ⟨rfl,rfl,zqv⟩,?_⟩
  conv=>whnf
  iterate 3 (refine dS ?_;(conv=>whnf))
  refine ⟨_,cP (c213 m.r3 m.r4 m.rKv m.rB none (by omega) (by omega) (by omega)) ⟨rfl,rfl,zqv⟩,?_⟩
  conv=>whnf
  iterate 3 (refine dS ?_;(conv=>whnf))
  refine ⟨_,cP (c214p m.rBl (by omega)) ⟨rfl,rfl,zqv⟩,?_⟩
  conv=>whnf
  (refine dS ?_;(conv=>whnf))
  refine ⟨_,cP (c210p 107 [zan m.r1 m.r2,zaw m.r3 m.r4 m.rKv m.rB,wrapB 4 m.rBl] (by simp) (by simp only [zqk,zql,zqf,List.length_nil];omega)) ⟨rfl,rfl,zqv⟩,?_⟩
  conv=>whnf
  (refine dS ?_;(conv=>whnf))
  exact ⟨by unfold laidB;rw [zqo n1];rw [zqo n2];rw [zqp hk];rfl,Ext.refl _⟩
 by_cases h4:m.kind=4
 ·have hk:=h4
  have n1:¬m.kind=1:=by omega
  have n2:¬m.kind=2:=by omega
  have n3:¬m.kind=3:=by omega
  have n5:¬m.kind=5:=by omega
  rw [zqo n1] at hm
  rw [zqo n2] at hm
  rw [zqo n3] at hm
  rw [zqp hk] at hm
  simp only [zqb] at hm
  have g1:=zcp hm.1
  have g2:=za8 hm.2
  have g3:=zbf m.p1 m.p2 m.pKv m.pB
  have g4:=zah 4 m.pAu
  refine ⟨fun h=>?_,fun h=>?_⟩
  ·exact (n1 h).elim
  conv=>whnf
  refine ⟨fun h=>?_,fun h=>?_⟩
  ·exact (n2 h).elim
  conv=>whnf
  refine ⟨fun h=>?_,fun h=>?_⟩
  ·exact (n3 h).elim
  conv=>whnf
  refine ⟨fun h=>?_,fun h=>?_⟩
  rotate_left
  ·exact (h hk).elim
  conv=>whnf
  refine dP2 (by kernel_rfl) ?_
  conv=>whnf
  iterate 3 (refine dS ?_;(conv=>whnf))
  refine ⟨_,cP (c213 m.p1 m.p2 m.pKv m.pB none (by omega) (by omega) (by omega)) ⟨rfl,rfl,zqv⟩,?_⟩
  conv=>whnf
  iterate 3 (refine dS ?_;(conv=>whnf))
  refine ⟨_,cP (c214p m.pAu (by omega)) ⟨rfl,rfl,zqv⟩,?_⟩
  conv=>whnf
  (refine dS ?_;(conv=>whnf))
  refine ⟨_,cP (c210p 110 [zaw m.p1 m.p2 m.pKv m.pB,wrapB 4 m.pAu] (by simp) (by simp only [zqk,zql,zqf,List.length_nil];omega)) ⟨rfl,rfl,zqv⟩,?_⟩
  conv=>whnf
  (refine dS ?_;(conv=>whnf))
  exact ⟨by unfold laidB;rw [zqo n1];rw [zqo n2];rw [zqo n3];rw [zqp hk];rfl,Ext.refl _⟩
 have n1:¬m.kind=1:=h1
 have n2:¬m.kind=2:=h2
 have n3:¬m.kind=3:=h3
 have n4:¬m.kind=4:=h4
 have g1:=zam m.fErr
 have g2:=zam m.fNonce
 refine ⟨fun h=>?_,fun h=>?_⟩
 ·exact (n1 h).elim
 conv=>whnf
 refine ⟨fun h=>?_,fun h=>?_⟩
 ·exact (n2 h).elim
 conv=>whnf
 refine ⟨fun h=>?_,fun h=>?_⟩
 ·exact (n3 h).elim
 conv=>whnf
 refine ⟨fun h=>?_,fun h=>?_⟩
 ·exact (n4 h).elim
 conv=>whnf
 refine dP2 (by kernel_rfl) ?_
 conv=>whnf
 iterate 3 (refine dS ?_;(conv=>whnf))
 refine ⟨_,cP (c212 m.fErr) ⟨rfl,rfl,zqv⟩,?_⟩
 conv=>whnf
 iterate 3 (refine dS ?_;(conv=>whnf))
 refine ⟨_,cP (c212 m.fNonce) ⟨rfl,rfl,zqv⟩,?_⟩
 conv=>whnf
 (refine dS ?_;(conv=>whnf))
 refine ⟨_,cP (c210p 126 [intE m.fErr,intE m.fNonce] (by simp) (by simp only [zqk,zql,zqf,List.length_nil];omega)) ⟨rfl,rfl,zqv⟩,?_⟩
 conv=>whnf
 (refine dS ?_;(conv=>whnf))
 exact ⟨by unfold laidB;rw [zqo n1];rw [zqo n2];rw [zqo n3];rw [zqo n4];rfl,Ext.refl _⟩
theorem c165 (m:Msg) (hm:isB m=true):Pure prog 165 [.agg m.cells] (sl (laidB m)):=Pure.of_gc (zc8 _) (c165x m hm)
def encV (m:Msg):PV:=limV (isB m) (laidB m)
theorem c129 (m:Msg) (hm:m.fits):Pure prog 129 [.agg m.cells] (encV m):=by
 intro H
 (refine fnS (imm:=z0g) zbi func129 ?_;(conv=>whnf))
 refine cP ((c163 m.d hm).of_eq (show PV.bool (isB m.d)=.bool (isB m) from rfl)) ?_
 unfold encV
 cases hb:isB m
 ·conv=>whnf
  exact ⟨by unfold limV;rw [zqo (by simp)];rfl,rfl⟩
 ·conv=>whnf
  refine cP ((c165 m.d hb).of_eq (show sl (laidB m.d)=sl (laidB m) from rfl)) ?_
  conv=>whnf
  refine cP (c164 true (laidB m)) ?_
  unfold limV
  by_cases hl:(laidB m).length≤2000
  ·rw [zqp ⟨rfl,hl⟩]
   conv=>whnf
   exact ⟨rfl,rfl⟩
  ·rw [zqo (by simp [hl])]
   conv=>whnf
   exact ⟨rfl,rfl⟩
set_option maxHeartbeats 1000000
def ttC:TT:=[(3,⟨.int .i64,1,8,[.int .i64 0]⟩),(4,⟨.bool,1,1,[.bool false]⟩),(5,⟨.int .u8,1,1,[.int .u8 0]⟩),(9,⟨.str,1,16,[.str []]⟩),(30,⟨.strct [(9,0),(9,1)],2,32,[.str [],.str []]⟩),(39,⟨.int .i64,1,8,[.int .i64 0]⟩),(24,⟨.arr 32 5,32,32,List.replicate 32 (.int .u8 0)⟩),(91,⟨.slice 3,1,24,[.slice 0 [] (some 3)]⟩),(22,⟨.slice 5,1,24,[.slice 0 [] (some 5)]⟩),(33,⟨.strct [(30,0),(24,2),(9,34),(3,35),(3,36)],37,96,[.str [],.str []]++List.replicate 32 (.int .u8 0)++[.str [],.int .i64 0,.int .i64 0]⟩),(288,⟨.fn,1,8,[.nilF]⟩),(277,⟨.ptr,1,8,[.ptr none]⟩),(279,⟨.strct [(277,0)],1,8,[.ptr none]⟩),(333,⟨.fn,1,8,[.nilF]⟩),(210,⟨.slice 22,1,24,[.slice 0 [] (some 22)]⟩),(324,⟨.strct [(22,0),(4,1)],2,32,[.slice 0 [] (some 5),.bool false]⟩)]
theorem zb0:ttOk prog ttC=true:=by kernel_rfl
def z2a:List Nat:=[]
def z1s:List Nat:=[]
def z1t:List Nat:=[]
def z04:List Nat:=[]
def z1u:List Nat:=[1000003]
def z1v:List Nat:=[]
def z1w:List Nat:=[]
def z0y:List Nat:=[]
def z2i:List Nat:=[]
def zof:List Nat:=[]
def z0z:List Nat:=[]
def z00:List Nat:=[1]
def z1e:List Nat:=[1]
def z1f:List Nat:=[]
def z02:List Nat:=[]
def z1g:List Nat:=[4]
def z1h:List Nat:=[1]
def z0i:List Nat:=[]
theorem c217 (b:List UInt8) (hb:b.length≤140737488355328):Pure prog 217 [sl b] (slo b (some 5)):=by
 intro H
 (refine fnS (imm:=z2a) zb0 func217 ?_;(conv=>whnf))
 have ht:∀K:PV→PH→Prop,K (slo b (some 5)) H→K (.slice (0+b.length) ([]++b.map bC) (some 5)) H:=fun K k=>by
  rw [Nat.zero_add,List.nil_append];exact k
 have happ:(0+b.length)*1≤140737488355328∧(b.map bC).length=b.length*1∧(b.map bC).all oneP=true:=⟨by omega,by simp,zbr b⟩
 refine ⟨fun h=>?_,fun h=>⟨?_,?_⟩⟩
 ·conv=>whnf
  refine ⟨happ,?_⟩
  conv=>whnf
  exact ⟨by rw [Nat.zero_add];rfl,rfl⟩
 ·conv=>whnf
  have e:b=[]:=List.length_eq_zero_iff.1 h
  subst e
  exact ⟨rfl,rfl⟩
 ·conv=>whnf
  refine ⟨happ,?_⟩
  conv=>whnf
  exact ⟨by rw [Nat.zero_add];rfl,rfl⟩
def curAt (H:PH) (c:Nat) (s:Option (List UInt8)):Prop:=∃x v,H[c]? = some ⟨324,[x,.bool s.isNone],v⟩∧∀l,s=some l→x=sl l
def Upd (X:Nat→Prop) (H H':PH):Prop:=H.length≤H'.length∧∀i,i<H.length→¬X i→H'[i]? = H[i]?
theorem Upd.refl {X:Nat→Prop} (H:PH):Upd X H H:=⟨zqn _,fun _ _ _=>rfl⟩
theorem Upd.trans {X:Nat→Prop} {H H1 H2:PH} (h:Upd X H H1) (k:Upd X H1 H2):Upd X H H2:=⟨Nat.le_trans h.1 k.1,fun i hi hx=>(k.2 i (Nat.lt_of_lt_of_le hi h.1) hx).trans (h.2 i hi hx)⟩
theorem Upd.mono {X Y:Nat→Prop} {H H1:PH} (h:Upd X H H1) (k:∀i,i<H.length→X i→Y i):Upd Y H H1:=⟨h.1,fun i hi hx=>h.2 i hi fun hX=>hx (k i hi hX)⟩
theorem Upd.set {X:Nat→Prop} {H H1:PH} (h:Upd X H H1) {c:Nat} (hc:X c∨H.length≤c) (o:PObj):Upd X H (H1.set c o):=⟨by rw [List.length_set];exact h.1,fun i hi hx=>by
 rw [zqj (fun e=>by subst e;rcases hc with hc | hc;exact hx hc;omega)];exact h.2 i hi hx⟩
theorem Upd.push {X:Nat→Prop} {H H1:PH} (h:Upd X H H1) (o:PObj):Upd X H (H1++[o]):=⟨by rw [zqf];exact Nat.le_add_right_of_le h.1,fun i hi hx=>by
 rw [zq2 (Nat.lt_of_lt_of_le hi h.1)];exact h.2 i hi hx⟩
theorem Upd.ext {H H':PH} (h:Upd (fun _=>False) H H'):∃ext,H'=H++ext:=by
 refine ⟨H'.drop H.length,?_⟩
 apply List.ext_getElem?
 intro i
 by_cases hi:i<H.length
 ·rw [zq2 hi,h.2 i hi (fun f=>f)]
 ·rw [zqi (by omega),zqt]
  congr 1;omega
theorem curAt.lt {H:PH} {c:Nat} {s:Option (List UInt8)} (h:curAt H c s):c<H.length:=by
 obtain ⟨x,v,h,_⟩:=h
 exact (zq1.1 h).1
theorem curAt.keep {X:Nat→Prop} {H H':PH} {c:Nat} {s:Option (List UInt8)} (h:curAt H c s) (k:Upd X H H') (hc:¬X c):curAt H' c s:=by
 have hl:=h.lt
 obtain ⟨x,v,h,h2⟩:=h
 exact ⟨x,v,(k.2 c hl hc).trans h,h2⟩
theorem c233 (c:Nat) (s:Option (List UInt8)) (H:PH) (hc:curAt H c s):CK prog 233 [.ptr (some (c,0))] H fun r H'=>r=.bool (!s.isNone)∧H'=H:=by
 obtain ⟨x,v,hc,_⟩:=hc
 (refine fnS (imm:=z2i) zb0 func233 ?_;(conv=>whnf))
 ((conv in (_[_]?)=>tactic=>exact hc);(conv=>whnf))
 exact ⟨rfl,rfl⟩
theorem c203 (c:Nat) (s:Option (List UInt8)) (H:PH) (hc:curAt H c s):CK prog 203 [.ptr (some (c,0))] H fun r H'=>r=.slice 0 [] (some 5)∧Upd (·=c) H H'∧curAt H' c none∧∀y u,H[c]? = some ⟨324,[y,.bool s.isNone],u⟩→H'=H.set c ⟨324,[.nilS,.bool true],u+2⟩:=by
 obtain ⟨x,v,hc,_⟩:=hc
 (refine fnS (imm:=z1w) zb0 func203 ?_;(conv=>whnf))
 ((conv in (_[_]?)=>tactic=>exact hc);(conv=>whnf))
 ((conv in (_[_]?)=>tactic=>exact gS hc);(conv=>whnf))
 exact ⟨rfl,((Upd.refl (X:=(·=c)) H).set (c:=c) (.inl rfl) _).set (c:=c) (.inl rfl) _,⟨.nilS,v+2,gS (gS hc),(fun l h=>by cases h)⟩,fun y u hy=>by
  rw [hc] at hy
  cases hy
  exact List.set_set ..⟩
def headB:List UInt8→Nat×Nat×Bool
 | []=>(0,0,false)
 | [x]=>if x.toNat<128 then (1,x.toNat,true) else (0,0,false)
 | [x,y]=>if x.toNat<128 then (1,x.toNat,true) else if x.toNat=129∧128≤y.toNat then (2,y.toNat,true) else (0,0,false)
 | x::y::z::_=>if x.toNat<128 then (1,x.toNat,true) else if x.toNat=129∧128≤y.toNat then (2,y.toNat,true)
  else if x.toNat=130∧0<y.toNat then (3,y.toNat*256+z.toNat,true) else (0,0,false)
theorem zzw:headB []=(0,0,false):=rfl
theorem zoa (x:UInt8):headB [x]=if x.toNat<128 then (1,x.toNat,true) else (0,0,false):=rfl
theorem zh7 (x y:UInt8):headB [x,y]=if x.toNat<128 then (1,x.toNat,true) else if x.toNat=129∧128≤y.toNat then (2,y.toNat,true) else (0,0,false):=rfl
theorem zef (x y z:UInt8) (r:List UInt8):headB (x::y::z::r)=if x.toNat<128 then (1,x.toNat,true) else if x.toNat=129∧128≤y.toNat then (2,y.toNat,true)
  else if x.toNat=130∧0<y.toNat then (3,y.toNat*256+z.toNat,true) else (0,0,false):=rfl
def headV (h:Nat×Nat×Bool):PV:=.tup [.int .i64 h.1,.int .i64 h.2.1,.bool h.2.2]
theorem at1 {cs:List PV} {k:Nat} {x:PV} (h:cs[k]? = some x):∀(j:Nat) (c:PV),[x][j]? = some c→cs[k+j]? = some c:=by
 intro j c hj
 match j with
 | 0=>simpa using h.trans hj
 | j+1=>simp at hj
theorem zg7 (x:UInt8):IntKind.i64.wrap (x.toNat:Int)=(x.toNat:Int):=by
 have:=x.toNat_lt
 rw [w64 (by omega) (by omega)]
theorem zxe (y z:UInt8):IntKind.i64.wrap (ishl .i64 (IntKind.i64.wrap (y.toNat:Int)) 8+IntKind.i64.wrap (z.toNat:Int))=((y.toNat*256+z.toNat:Nat):Int):=by
 have:=y.toNat_lt
 have:=z.toNat_lt
 have h:ishl .i64 (IntKind.i64.wrap (y.toNat:Int)) 8=(y.toNat:Int)*256:=by
  rw [zg7]
  unfold ishl
  rw [show (2:Int) ^ (min (Int.toNat 8) IntKind.i64.bits)=256 from rfl,w64 (by omega) (by omega)]
 rw [h,zg7,w64 (by omega) (by omega)]
 omega
theorem zzk (H:PH):CK prog 234 [sl ([])] H fun r H'=>r=headV (headB ([]))∧H'=H:=by
 (refine fnS (imm:=zof) zb0 func234 ?_;(conv=>whnf))
 refine ⟨fun h=>absurd h (by first | decide | omega | (simp;done) | (simp;omega)),fun _=>?_⟩
 conv=>whnf
 refine ⟨fun h=>absurd h (by first | decide | omega | (simp;done) | (simp;omega)),fun _=>?_⟩
 conv=>whnf
 refine ⟨fun h=>absurd h (by first | decide | omega | (simp;done) | (simp;omega)),fun _=>?_⟩
 conv=>whnf
 refine ⟨?_,rfl⟩
 rw [zzw]
 rfl
theorem zzl (x:UInt8) (H:PH):CK prog 234 [sl ([x])] H fun r H'=>r=headV (headB ([x]))∧H'=H:=by
 (refine fnS (imm:=zof) zb0 func234 ?_;(conv=>whnf))
 refine ⟨fun _=>?_,fun h=>absurd (by first | decide | omega | (simp;done) | (simp;omega)) h⟩
 conv=>whnf
 refine ⟨⟨by first | decide | omega | (simp;done) | (simp;omega),by first | decide | omega | (simp;done) | (simp;omega)⟩,[bC x],at1 (k:=0*1) rfl,?_⟩
 conv=>whnf
 refine ⟨fun h1=>?_,fun h1=>?_⟩
 ·conv=>whnf
  have h1:(x.toNat:Int)<128:=h1
  refine dP2 (by kernel_rfl) ?_
  conv=>whnf
  (refine dS ?_;(conv=>whnf))
  refine ⟨.elem [bC x],⟨⟨by first | decide | omega | (simp;done) | (simp;omega),by first | decide | omega | (simp;done) | (simp;omega)⟩,[bC x],at1 (k:=0*1) rfl,rfl,rfl,zqv⟩,?_⟩
  conv=>whnf
  iterate 5 (refine dS ?_;(conv=>whnf))
  refine ⟨?_,rfl⟩
  rw [zoa]
  rw [zqp (by omega)]
  show PV.tup [_,PV.int .i64 (IntKind.i64.wrap (x.toNat:Int)),_]=PV.tup [_,_,_]
  rw [zg7]
  rfl
 conv=>whnf
 have h1:¬(x.toNat:Int)<128:=h1
 refine ⟨fun h=>absurd h (by first | decide | omega | (simp;done) | (simp;omega)),fun _=>?_⟩
 conv=>whnf
 refine ⟨fun h=>absurd h (by first | decide | omega | (simp;done) | (simp;omega)),fun _=>?_⟩
 conv=>whnf
 refine ⟨?_,rfl⟩
 rw [zoa]
 rw [zqo (by omega)]
 rfl
theorem zzm (x y:UInt8) (H:PH):CK prog 234 [sl ([x,y])] H fun r H'=>r=headV (headB ([x,y]))∧H'=H:=by
 (refine fnS (imm:=zof) zb0 func234 ?_;(conv=>whnf))
 refine ⟨fun _=>?_,fun h=>absurd (by first | decide | omega | (simp;done) | (simp;omega)) h⟩
 conv=>whnf
 refine ⟨⟨by first | decide | omega | (simp;done) | (simp;omega),by first | decide | omega | (simp;done) | (simp;omega)⟩,[bC x],at1 (k:=0*1) rfl,?_⟩
 conv=>whnf
 refine ⟨fun h1=>?_,fun h1=>?_⟩
 ·conv=>whnf
  have h1:(x.toNat:Int)<128:=h1
  refine dP2 (by kernel_rfl) ?_
  conv=>whnf
  (refine dS ?_;(conv=>whnf))
  refine ⟨.elem [bC x],⟨⟨by first | decide | omega | (simp;done) | (simp;omega),by first | decide | omega | (simp;done) | (simp;omega)⟩,[bC x],at1 (k:=0*1) rfl,rfl,rfl,zqv⟩,?_⟩
  conv=>whnf
  iterate 5 (refine dS ?_;(conv=>whnf))
  refine ⟨?_,rfl⟩
  rw [zh7]
  rw [zqp (by omega)]
  show PV.tup [_,PV.int .i64 (IntKind.i64.wrap (x.toNat:Int)),_]=PV.tup [_,_,_]
  rw [zg7]
  rfl
 conv=>whnf
 have h1:¬(x.toNat:Int)<128:=h1
 refine ⟨fun _=>?_,fun h=>absurd (by first | decide | omega | (simp;done) | (simp;omega)) h⟩
 conv=>whnf
 refine ⟨⟨by first | decide | omega | (simp;done) | (simp;omega),by first | decide | omega | (simp;done) | (simp;omega)⟩,[bC x],at1 (k:=0*1) rfl,?_⟩
 conv=>whnf
 refine ⟨fun h2=>?_,fun h2=>?_⟩
 ·conv=>whnf
  have h2:(x.toNat:Int)=129:=h2
  refine ⟨⟨by first | decide | omega | (simp;done) | (simp;omega),by first | decide | omega | (simp;done) | (simp;omega)⟩,[bC y],at1 (k:=1*1) rfl,?_⟩
  conv=>whnf
  refine ⟨fun h5=>?_,fun h5=>?_⟩
  ·conv=>whnf
   have h5:(128:Int)≤(y.toNat:Int):=h5
   refine dP2 (by kernel_rfl) ?_
   conv=>whnf
   (refine dS ?_;(conv=>whnf))
   refine ⟨.elem [bC y],⟨⟨by first | decide | omega | (simp;done) | (simp;omega),by first | decide | omega | (simp;done) | (simp;omega)⟩,[bC y],at1 (k:=1*1) rfl,rfl,rfl,zqv⟩,?_⟩
   conv=>whnf
   iterate 5 (refine dS ?_;(conv=>whnf))
   refine ⟨?_,rfl⟩
   rw [zh7]
   rw [zqo (by omega)]
   rw [zqp ⟨by omega,by omega⟩]
   show PV.tup [_,PV.int .i64 (IntKind.i64.wrap (y.toNat:Int)),_]=PV.tup [_,_,_]
   rw [zg7]
   rfl
  ·conv=>whnf
   have h5:¬(128:Int)≤(y.toNat:Int):=h5
   refine ⟨fun h=>absurd h (by first | decide | omega | (simp;done) | (simp;omega)),fun _=>?_⟩
   conv=>whnf
   refine ⟨?_,rfl⟩
   rw [zh7]
   rw [zqo (by omega)]
   rw [zqo (fun hh=>by omega)]
   rfl
 ·conv=>whnf
  have h2:¬(x.toNat:Int)=129:=h2
  refine ⟨fun h=>absurd h (by first | decide | omega | (simp;done) | (simp;omega)),fun _=>?_⟩
  conv=>whnf
  refine ⟨?_,rfl⟩
  rw [zh7]
  rw [zqo (by omega)]
  rw [zqo (fun hh=>by omega)]
  rfl
theorem zzn (x y z:UInt8) (t:List UInt8) (H:PH):CK prog 234 [sl (x::y::z::t)] H fun r H'=>r=headV (headB (x::y::z::t))∧H'=H:=by
 (refine fnS (imm:=zof) zb0 func234 ?_;(conv=>whnf))
 refine ⟨fun _=>?_,fun h=>absurd (by first | decide | omega | (simp;done) | (simp;omega)) h⟩
 conv=>whnf
 refine ⟨⟨by first | decide | omega | (simp;done) | (simp;omega),by first | decide | omega | (simp;done) | (simp;omega)⟩,[bC x],at1 (k:=0*1) rfl,?_⟩
 conv=>whnf
 refine ⟨fun h1=>?_,fun h1=>?_⟩
 ·conv=>whnf
  have h1:(x.toNat:Int)<128:=h1
  refine dP2 (by kernel_rfl) ?_
  conv=>whnf
  (refine dS ?_;(conv=>whnf))
  refine ⟨.elem [bC x],⟨⟨by first | decide | omega | (simp;done) | (simp;omega),by first | decide | omega | (simp;done) | (simp;omega)⟩,[bC x],at1 (k:=0*1) rfl,rfl,rfl,zqv⟩,?_⟩
  conv=>whnf
  iterate 5 (refine dS ?_;(conv=>whnf))
  refine ⟨?_,rfl⟩
  rw [zef]
  rw [zqp (by omega)]
  show PV.tup [_,PV.int .i64 (IntKind.i64.wrap (x.toNat:Int)),_]=PV.tup [_,_,_]
  rw [zg7]
  rfl
 conv=>whnf
 have h1:¬(x.toNat:Int)<128:=h1
 refine ⟨fun _=>?_,fun h=>absurd (by first | decide | omega | (simp;done) | (simp;omega)) h⟩
 conv=>whnf
 refine ⟨⟨by first | decide | omega | (simp;done) | (simp;omega),by first | decide | omega | (simp;done) | (simp;omega)⟩,[bC x],at1 (k:=0*1) rfl,?_⟩
 conv=>whnf
 refine ⟨fun h2=>?_,fun h2=>?_⟩
 ·conv=>whnf
  have h2:(x.toNat:Int)=129:=h2
  refine ⟨⟨by first | decide | omega | (simp;done) | (simp;omega),by first | decide | omega | (simp;done) | (simp;omega)⟩,[bC y],at1 (k:=1*1) rfl,?_⟩
  conv=>whnf
  refine ⟨fun h5=>?_,fun h5=>?_⟩
  ·conv=>whnf
   have h5:(128:Int)≤(y.toNat:Int):=h5
   refine dP2 (by kernel_rfl) ?_
   conv=>whnf
   (refine dS ?_;(conv=>whnf))
   refine ⟨.elem [bC y],⟨⟨by first | decide | omega | (simp;done) | (simp;omega),by first | decide | omega | (simp;done) | (simp;omega)⟩,[bC y],at1 (k:=1*1) rfl,rfl,rfl,zqv⟩,?_⟩
   conv=>whnf
   iterate 5 (refine dS ?_;(conv=>whnf))
   refine ⟨?_,rfl⟩
   rw [zef]
   rw [zqo (by omega)]
   rw [zqp ⟨by omega,by omega⟩]
   show PV.tup [_,PV.int .i64 (IntKind.i64.wrap (y.toNat:Int)),_]=PV.tup [_,_,_]
   rw [zg7]
   rfl
  ·conv=>whnf
   have h5:¬(128:Int)≤(y.toNat:Int):=h5
   refine ⟨fun _=>?_,fun h=>absurd (by first | decide | omega | (simp;done) | (simp;omega)) h⟩
   conv=>whnf
   refine ⟨⟨by first | decide | omega | (simp;done) | (simp;omega),by first | decide | omega | (simp;done) | (simp;omega)⟩,[bC x],at1 (k:=0*1) rfl,?_⟩
   conv=>whnf
   refine ⟨fun h3=>?_,fun h3=>?_⟩
   ·conv=>whnf
    have h3:(x.toNat:Int)=130:=h3
    refine ⟨⟨by first | decide | omega | (simp;done) | (simp;omega),by first | decide | omega | (simp;done) | (simp;omega)⟩,[bC y],at1 (k:=1*1) rfl,?_⟩
    conv=>whnf
    refine ⟨fun h4=>?_,fun h4=>?_⟩
    ·conv=>whnf
     have h4:(0:Int)<(y.toNat:Int):=h4
     refine dP2 (by kernel_rfl) ?_
     conv=>whnf
     (refine dS ?_;(conv=>whnf))
     refine ⟨.elem [bC y],⟨⟨by first | decide | omega | (simp;done) | (simp;omega),by first | decide | omega | (simp;done) | (simp;omega)⟩,[bC y],at1 (k:=1*1) rfl,rfl,rfl,zqv⟩,?_⟩
     conv=>whnf
     iterate 4 (refine dS ?_;(conv=>whnf))
     refine ⟨.elem [bC z],⟨⟨by first | decide | omega | (simp;done) | (simp;omega),by first | decide | omega | (simp;done) | (simp;omega)⟩,[bC z],at1 (k:=2*1) rfl,rfl,rfl,zqv⟩,?_⟩
     conv=>whnf
     iterate 6 (refine dS ?_;(conv=>whnf))
     refine ⟨?_,rfl⟩
     rw [zef]
     rw [zqo (by omega)]
     rw [zqo (fun hh=>by omega)]
     rw [zqp ⟨by omega,by omega⟩]
     show PV.tup [_,PV.int .i64 (IntKind.i64.wrap (ishl .i64 (IntKind.i64.wrap (y.toNat:Int)) 8+IntKind.i64.wrap (z.toNat:Int))),_]=PV.tup [_,_,_]
     rw [zxe]
     rfl
    ·conv=>whnf
     have h4:¬(0:Int)<(y.toNat:Int):=h4
     refine ⟨?_,rfl⟩
     rw [zef]
     rw [zqo (by omega)]
     rw [zqo (fun hh=>by omega)]
     rw [zqo (fun hh=>by omega)]
     rfl
   ·conv=>whnf
    have h3:¬(x.toNat:Int)=130:=h3
    refine ⟨?_,rfl⟩
    rw [zef]
    rw [zqo (by omega)]
    rw [zqo (fun hh=>by omega)]
    rw [zqo (fun hh=>by omega)]
    rfl
 ·conv=>whnf
  have h2:¬(x.toNat:Int)=129:=h2
  refine ⟨fun _=>?_,fun h=>absurd (by first | decide | omega | (simp;done) | (simp;omega)) h⟩
  conv=>whnf
  refine ⟨⟨by first | decide | omega | (simp;done) | (simp;omega),by first | decide | omega | (simp;done) | (simp;omega)⟩,[bC x],at1 (k:=0*1) rfl,?_⟩
  conv=>whnf
  refine ⟨fun h3=>?_,fun h3=>?_⟩
  ·conv=>whnf
   have h3:(x.toNat:Int)=130:=h3
   refine ⟨⟨by first | decide | omega | (simp;done) | (simp;omega),by first | decide | omega | (simp;done) | (simp;omega)⟩,[bC y],at1 (k:=1*1) rfl,?_⟩
   conv=>whnf
   refine ⟨fun h4=>?_,fun h4=>?_⟩
   ·conv=>whnf
    have h4:(0:Int)<(y.toNat:Int):=h4
    refine dP2 (by kernel_rfl) ?_
    conv=>whnf
    (refine dS ?_;(conv=>whnf))
    refine ⟨.elem [bC y],⟨⟨by first | decide | omega | (simp;done) | (simp;omega),by first | decide | omega | (simp;done) | (simp;omega)⟩,[bC y],at1 (k:=1*1) rfl,rfl,rfl,zqv⟩,?_⟩
    conv=>whnf
    iterate 4 (refine dS ?_;(conv=>whnf))
    refine ⟨.elem [bC z],⟨⟨by first | decide | omega | (simp;done) | (simp;omega),by first | decide | omega | (simp;done) | (simp;omega)⟩,[bC z],at1 (k:=2*1) rfl,rfl,rfl,zqv⟩,?_⟩
    conv=>whnf
    iterate 6 (refine dS ?_;(conv=>whnf))
    refine ⟨?_,rfl⟩
    rw [zef]
    rw [zqo (by omega)]
    rw [zqo (fun hh=>by omega)]
    rw [zqp ⟨by omega,by omega⟩]
    show PV.tup [_,PV.int .i64 (IntKind.i64.wrap (ishl .i64 (IntKind.i64.wrap (y.toNat:Int)) 8+IntKind.i64.wrap (z.toNat:Int))),_]=PV.tup [_,_,_]
    rw [zxe]
    rfl
   ·conv=>whnf
    have h4:¬(0:Int)<(y.toNat:Int):=h4
    refine ⟨?_,rfl⟩
    rw [zef]
    rw [zqo (by omega)]
    rw [zqo (fun hh=>by omega)]
    rw [zqo (fun hh=>by omega)]
    rfl
  ·conv=>whnf
   have h3:¬(x.toNat:Int)=130:=h3
   refine ⟨?_,rfl⟩
   rw [zef]
   rw [zqo (by omega)]
   rw [zqo (fun hh=>by omega)]
   rw [zqo (fun hh=>by omega)]
   rfl
theorem c234 (b:List UInt8):Pure prog 234 [sl b] (headV (headB b)):=fun H=>match b with
 | []=>zzk H
 | [x]=>zzl x H
 | [x,y]=>zzm x y H
 | x::y::z::r=>zzn x y z r H
theorem c157 (a b:List UInt8):Pure prog 157 [sl a,sl b] (.bool (decide (a=b))):=by
 intro H
 (refine fnS (imm:=z0y) zb0 func157 ?_;(conv=>whnf))
 refine ⟨a,⟨rfl,rfl⟩,?_⟩
 conv=>whnf
 refine ⟨b,⟨rfl,rfl⟩,?_⟩
 conv=>whnf
 refine ⟨fun h=>?_,fun h=>?_⟩
 ·conv=>whnf
  exact ⟨zqm PV.bool (zqe h).symm,rfl⟩
 ·conv=>whnf
  exact ⟨zqm PV.bool (zqd h).symm,rfl⟩
def zh8:List UInt8→Bool
 | []=>false
 | [x]=>decide (x.toNat<128)
 | x::y::t=>decide (t.length≤6)&&(decide (x.toNat<128)&&(decide (x.toNat≠0)||decide (128≤y.toNat)))
theorem c202 (b:List UInt8):Pure prog 202 [sl b] (.bool (zh8 b)):=by
 intro H
 (refine fnS (imm:=z1v) zb0 func202 ?_;(conv=>whnf))
 match b with
 | [] =>
  refine ⟨fun _=>?_,fun h=>absurd rfl h⟩
  conv=>whnf
  exact ⟨rfl,rfl⟩
 | [x] =>
  refine ⟨fun h=>absurd h (by simp),fun _=>?_⟩
  conv=>whnf
  refine ⟨fun h=>absurd h (by simp),fun _=>?_⟩
  conv=>whnf
  refine ⟨⟨by decide,by simp⟩,[bC x],at1 (k:=0*1) rfl,?_⟩
  conv=>whnf
  refine ⟨fun h=>?_,fun h=>?_⟩
  ·conv=>whnf
   have h:(128:Int)≤(x.toNat:Int):=h
   exact ⟨zqm PV.bool (zqd (by omega)).symm,rfl⟩
  ·conv=>whnf
   have h:¬(128:Int)≤(x.toNat:Int):=h
   refine ⟨fun h=>absurd h (by simp),fun _=>?_⟩
   conv=>whnf
   exact ⟨zqm PV.bool (zqe (by omega)).symm,rfl⟩
 | x::y::t =>
  refine ⟨fun h=>absurd h (by simp;omega),fun _=>?_⟩
  conv=>whnf
  refine ⟨fun h=>?_,fun h=>?_⟩
  ·conv=>whnf
   have h:(8:Int)<((t.length+1+1:Nat):Int):=h
   exact ⟨zqm PV.bool (show false=(decide (t.length≤6)&&_) by rw [zqd (by omega)];rfl),rfl⟩
  conv=>whnf
  have h:¬(8:Int)<((t.length+1+1:Nat):Int):=h
  have e1:decide (t.length≤6)=true:=zqe (by omega)
  refine ⟨⟨by decide,by simp;omega⟩,[bC x],at1 (k:=0*1) rfl,?_⟩
  conv=>whnf
  refine ⟨fun h2=>?_,fun h2=>?_⟩
  ·conv=>whnf
   have h2:(128:Int)≤(x.toNat:Int):=h2
   exact ⟨zqm PV.bool (show false=(decide (t.length≤6)&&(decide (x.toNat<128)&&_)) by rw [e1,zqd (show ¬x.toNat<128 by omega)];rfl),rfl⟩
  conv=>whnf
  have h2:¬(128:Int)≤(x.toNat:Int):=h2
  have e2:decide (x.toNat<128)=true:=zqe (by omega)
  refine ⟨fun _=>?_,fun h=>absurd (by simp;omega) h⟩
  conv=>whnf
  refine ⟨⟨by decide,by simp;omega⟩,[bC x],at1 (k:=0*1) rfl,?_⟩
  conv=>whnf
  refine ⟨fun h3=>?_,fun h3=>?_⟩
  ·conv=>whnf
   have h3:(x.toNat:Int)=0:=h3
   have e3:decide (x.toNat≠0)=false:=zqd (by omega)
   refine ⟨⟨by decide,by simp;omega⟩,[bC y],at1 (k:=1*1) rfl,?_⟩
   conv=>whnf
   refine ⟨fun h4=>?_,fun h4=>?_⟩
   ·conv=>whnf
    have h4:(128:Int)≤(y.toNat:Int):=h4
    exact ⟨zqm PV.bool (show true=(decide (t.length≤6)&&(decide (x.toNat<128)&&(decide (x.toNat≠0)||decide (128≤y.toNat)))) by rw [e1,e2,e3,zqe (show 128≤y.toNat by omega)];rfl),rfl⟩
   ·conv=>whnf
    have h4:¬(128:Int)≤(y.toNat:Int):=h4
    exact ⟨zqm PV.bool (show false=(decide (t.length≤6)&&(decide (x.toNat<128)&&(decide (x.toNat≠0)||decide (128≤y.toNat)))) by rw [e1,e2,e3,zqd (show ¬128≤y.toNat by omega)];rfl),rfl⟩
  ·conv=>whnf
   have h3:¬(x.toNat:Int)=0:=h3
   have e3:decide (x.toNat≠0)=true:=zqe (by omega)
   exact ⟨zqm PV.bool (show true=(decide (t.length≤6)&&(decide (x.toNat<128)&&(decide (x.toNat≠0)||decide (128≤y.toNat)))) by rw [e1,e2,e3];rfl),rfl⟩
theorem c199 (b:List UInt8) (hb:b.length≤140737488355328) (H:PH):CK prog 199 [sl b] H fun r H'=>r=.ptr (some (H.length,0))∧H'=H++[⟨324,[sl b,.bool false],0⟩]:=by
 (refine fnS (imm:=z1s) zb0 func199 ?_;(conv=>whnf))
 refine cP (c217 b hb) ?_
 conv=>whnf
 exact ⟨rfl,rfl⟩
def elemB (tag:UInt8):List UInt8→Option (List UInt8×List UInt8)
 | []=>none
 | t::b=>if t=tag then (if (headB b).2.2=true∧(headB b).1+(headB b).2.1≤b.length then some ((b.drop (headB b).1).take (headB b).2.1,b.drop ((headB b).1+(headB b).2.1)) else none) else none
def elemC (tag:UInt8) (s:Option (List UInt8)):Option (List UInt8)×Option (List UInt8):=match s with
 | none=>(none,none)
 | some l=>match elemB tag l with
  | none=>(none,none)
  | some (x,r)=>(some r,some x)
theorem zr8 (b:List UInt8):(headB b).2.2=true→(headB b).1≤3∧(headB b).1≤b.length∧(headB b).2.1≤65535:=by
 match b with
 | []=>intro h;cases h
 | [x] =>
  rw [zoa]
  have:=x.toNat_lt
  split <;> intro h <;> first | (cases h;done) | (simp;omega)
 | [x,y] =>
  rw [zh7]
  have:=x.toNat_lt
  have:=y.toNat_lt
  split <;> (try split) <;> intro h <;> first | (cases h;done) | (simp;omega)
 | x::y::z::t =>
  rw [zef]
  have:=x.toNat_lt
  have:=y.toNat_lt
  have:=z.toNat_lt
  split <;> (try split) <;> (try split) <;> intro h <;> first | (cases h;done) | (simp;omega)
theorem zo5 (b:List UInt8) (l h:Int) (h0:0≤l∧l≤h∧h≤b.length) :
  PV.slice (h.toNat - l.toNat) (((b.map bC).take (h.toNat*1)).drop (l.toNat*1)) none=sl ((b.take h.toNat).drop l.toNat):=by
 unfold sl
 have:((b.take h.toNat).drop l.toNat).length=h.toNat - l.toNat:=by rw [List.length_drop,zqr];omega
 rw [this,List.map_drop,List.map_take,Nat.mul_one,Nat.mul_one]
def elemV (o:Option (List UInt8)):PV:=.tup [slo (o.getD []) (some 5),.bool o.isSome]
theorem zdt {tag:UInt8} {l:List UInt8} (h:elemB tag l=none):elemC tag (some l)=(none,none):=by
 show (match elemB tag l with | none=>(none,none) | some (x,r)=>(some r,some x))=_
 rw [h]
def zdp (tag:UInt8) (s:Option (List UInt8)) (v:Nat):PObj:=match (elemC tag s).1 with
 | some r=>⟨324,[sl r,.bool false],v+1⟩
 | none=>⟨324,[.nilS,.bool true],v+2⟩
theorem zpd {tag:UInt8} {s:Option (List UInt8)} {v:Nat} (h:elemC tag s=(none,none)):zdp tag s v=⟨324,[.nilS,.bool true],v+2⟩:=by unfold zdp;rw [h]
theorem zmr {tag:UInt8} {s:Option (List UInt8)} {v:Nat} {r x:List UInt8} (h:elemC tag s=(some r,some x)):zdp tag s v=⟨324,[sl r,.bool false],v+1⟩:=by unfold zdp;rw [h]
theorem c201 (c:Nat) (tag:UInt8) (s:Option (List UInt8)) (H:PH) (hc:curAt H c s) (hl:∀l,s=some l→l.length≤140737488355328) :
  CK prog 201 [.ptr (some (c,0)),bC tag] H fun r H'=>r=elemV (elemC tag s).2∧Upd (·=c) H H'∧curAt H' c (elemC tag s).1∧∀y u,H[c]? = some ⟨324,[y,.bool s.isNone],u⟩→H'=H.set c (zdp tag s u):=by
 (refine fnS (imm:=z1u) zb0 func201 ?_;(conv=>whnf))
 refine cO (c233 c s H hc) ?_
 rintro _ _ ⟨rfl,rfl⟩
 rename_i H
 have errs:∀(K:PV→PH→Prop),elemC tag s=(none,none)→(∀H',Upd (·=c) H H'→curAt H' c none→(∀y u,H[c]? = some ⟨324,[y,.bool s.isNone],u⟩→H'=H.set c (zdp tag s u))→K (.slice 0 [] (some 5)) H')→callK prog 203 [.ptr (some (c,0))] H K:=fun K he k =>
  cO (c203 c s H hc) fun r H' ⟨h1,h2,h3,h4⟩=>by rw [h1];exact k H' h2 h3 fun y u hy=>by rw [zpd he];exact h4 y u hy
 cases s with
 | none =>
  conv=>whnf
  refine errs _ rfl fun H' h1 h2 h3=>?_
  conv=>whnf
  exact ⟨rfl,h1,h2,h3⟩
 | some l =>
  have hll:=hl l rfl
  obtain ⟨x,v,hc0,hx⟩:=hc
  have hx:=hx l rfl
  subst hx
  conv=>whnf
  ((conv in (_[_]?)=>tactic=>exact hc0);(conv=>whnf))
  cases l with
  | nil =>
   refine ⟨fun _=>?_,fun h=>absurd rfl h⟩
   conv=>whnf
   refine errs _ rfl fun H' h1 h2 h3=>?_
   conv=>whnf
   exact ⟨rfl,h1,h2,h3⟩
  | cons t b =>
   refine ⟨fun h=>absurd h (by simp <;> omega),fun _=>?_⟩
   conv=>whnf
   ((conv in (_[_]?)=>tactic=>exact hc0);(conv=>whnf))
   refine ⟨⟨by decide,by first | (simp;done) | (simp;omega)⟩,[bC t],at1 (k:=0*1) rfl,?_⟩
   conv=>whnf
   refine ⟨fun h=>?_,fun h=>?_⟩
   ·have ht:t=tag:=by
     have h:(t.toNat:Int)=(tag.toNat:Int):=h
     exact UInt8.toNat_inj.1 (by omega)
    subst ht
    conv=>whnf
    refine zjz [(0,.ptr (some (c,0))),(6,sl b)] H ?_ ?_
    rotate_left
    ·conv=>whnf
     ((conv in (_[_]?)=>tactic=>exact hc0);(conv=>whnf))
     refine ⟨⟨by decide,by simp <;> omega,by simp⟩,?_⟩
     conv=>whnf
     have e:=zo5 (t::b) 1 ((t::b).length:Int) ⟨by decide,by simp <;> omega,by simp⟩
     refine ⟨(),trivial,⟨rfl,e.trans (by rw [Int.toNat_natCast,List.take_length];rfl),zqv⟩,rfl⟩
    conv=>whnf
    refine cP (c234 b) ?_
    have hle:=zr8 b
    have heb:elemB t (t::b)=if (headB b).2.2=true∧(headB b).1+(headB b).2.1≤b.length then some ((b.drop (headB b).1).take (headB b).2.1,b.drop ((headB b).1+(headB b).2.1)) else none:=by
     show (if t=t then _ else none)=_
     rw [zqp rfl]
    revert hle heb
    generalize hq:headB b=q
    obtain ⟨at',n,ok⟩:=q
    intro hle heb
    have hbl:b.length+1≤140737488355328:=hll
    cases ok
    ·conv=>whnf
     refine errs _ (zdt (by rw [heb];rfl)) fun H' h1 h2 h3=>?_
     conv=>whnf
     rw [zdt (by rw [heb];rfl)]
     exact ⟨rfl,h1,h2,h3⟩
    ·obtain ⟨k1,k2,k3⟩:=hle rfl
     have k1:at'≤3:=k1
     have k2:at'≤b.length:=k2
     have k3:n≤65535:=k3
     conv=>whnf
     have hw:IntKind.i64.wrap ((b.length:Int) - (at':Int))=(b.length:Int) - at':=by rw [w64 (by omega) (by omega)]
     have hw2:IntKind.i64.wrap ((at':Int)+(n:Int))=((at'+n:Nat):Int):=by rw [w64 (by omega) (by omega)];rfl
     refine ⟨fun h=>?_,fun h=>?_⟩
     ·conv=>whnf
      have h:IntKind.i64.wrap ((b.length:Int) - (at':Int))<(n:Int):=h
      rw [hw] at h
      have hn:elemB t (t::b)=none:=by rw [heb,zqo (fun hh=>by have hh:at'+n≤b.length:=hh.2;omega)]
      refine errs _ (zdt hn) fun H' h1 h2 h3=>?_
      conv=>whnf
      rw [zdt hn]
      exact ⟨rfl,h1,h2,h3⟩
     ·conv=>whnf
      have h:¬IntKind.i64.wrap ((b.length:Int) - (at':Int))<(n:Int):=h
      rw [hw] at h
      have hfit:at'+n≤b.length:=by omega
      have hs:elemC t (some (t::b))=(some (b.drop (at'+n)),some ((b.drop at').take n)):=by
       show (match elemB t (t::b) with | none=>(none,none) | some (x,r)=>(some r,some x))=_
       rw [heb,zqp ⟨rfl,hfit⟩]
      refine ⟨⟨by show 0≤IntKind.i64.wrap ((at':Int)+(n:Int));rw [hw2];omega,by show IntKind.i64.wrap ((at':Int)+(n:Int))≤(b.length:Int);rw [hw2];omega,by omega⟩,?_⟩
      conv=>whnf
      ((conv in (_[_]?)=>tactic=>exact hc0);(conv=>whnf))
      refine ⟨⟨by show (0:Int)≤(at':Int);omega,by show (at':Int)≤IntKind.i64.wrap ((at':Int)+(n:Int));rw [hw2];omega,by show IntKind.i64.wrap ((at':Int)+(n:Int))≤(b.length:Int);rw [hw2];omega⟩,?_⟩
      conv=>whnf
      have e1:=zo5 b (at':Int) (IntKind.i64.wrap ((at':Int)+(n:Int))) ⟨by omega,by rw [hw2];omega,by rw [hw2];omega⟩
      have e2:=zo5 b (IntKind.i64.wrap ((at':Int)+(n:Int))) (b.length:Int) ⟨by rw [hw2];omega,by rw [hw2];omega,by omega⟩
      have e3:(b.take (IntKind.i64.wrap ((at':Int)+(n:Int))).toNat).drop (at':Int).toNat=(b.drop at').take n:=by
       rw [hw2,Int.toNat_natCast,Int.toNat_natCast,List.drop_take]
       congr 1;omega
      have e4:(b.take (b.length:Int).toNat).drop (IntKind.i64.wrap ((at':Int)+(n:Int))).toNat=b.drop (at'+n):=by
       rw [hw2,Int.toNat_natCast,Int.toNat_natCast,List.take_length]
      refine cA (args':=[sl ((b.drop at').take n)]) (zqm (fun x=>[x]) (e1.trans (by rw [e3]))) (cP (c217 _ (by rw [zqr,List.length_drop];omega)) ?_)
      conv=>whnf
      rw [hs]
      exact ⟨rfl,(Upd.refl (X:=(·=c)) H).set (c:=c) (.inl rfl) _,⟨_,v+1,gS hc0,fun l hl=>by
       have hl:b.drop (at'+n)=l:=Option.some.inj hl
       rw [←hl]
       exact e2.trans (by rw [e4])⟩,fun y u hy=>by
       rw [hc0] at hy
       cases hy
       rw [zmr hs,←e4,←e2];rfl⟩
   ·have ht:¬t=tag:=fun e=>h (show (t.toNat:Int)=(tag.toNat:Int) by rw [e])
    have hn:elemB tag (t::b)=none:=by
     show (if t=tag then _ else none)=none
     rw [zqo ht]
    conv=>whnf
    refine errs _ (zdt hn) fun H' h1 h2 h3=>?_
    conv=>whnf
    rw [zdt hn]
    exact ⟨rfl,h1,h2,h3⟩
theorem c200 (c:Nat) (tag:UInt8) (s:Option (List UInt8)) (H:PH) (hc:curAt H c s) (hl:∀l,s=some l→l.length≤140737488355328) :
  CK prog 200 [.ptr (some (c,0)),bC tag] H fun r H'=>∃d,r=.ptr (some (d,0))∧H.length≤d∧Upd (·=c) H H'∧curAt H' c (elemC tag s).1∧curAt H' d (elemC tag s).2:=by
 (refine fnS (imm:=z1t) zb0 func200 ?_;(conv=>whnf))
 refine cO (c201 c tag s H hc hl) ?_
 rintro _ H1 ⟨rfl,h1,h2,h3⟩
 revert h2
 generalize elemC tag s=q
 obtain ⟨s',o⟩:=q
 intro h2
 have h2:curAt H1 c s':=h2
 cases o with
 | none =>
  conv=>whnf
  exact ⟨H1.length,rfl,h1.1,h1.push _,h2.keep (X:=fun _=>False) ((Upd.refl H1).push _) (fun f=>f),_,0,gL _ _,fun l hl=>by cases hl⟩
 | some x =>
  conv=>whnf
  exact ⟨H1.length,rfl,h1.1,h1.push _,h2.keep (X:=fun _=>False) ((Upd.refl H1).push _) (fun f=>f),sl x,0,gL _ _,fun l hl=>by cases hl;rfl⟩
theorem c173 (c:Nat) (s:Option (List UInt8)) (H:PH) (hc:curAt H c s) (hl:∀l,s=some l→l.length≤140737488355328) :
  CK prog 173 [.ptr (some (c,0))] H fun r H'=>r=.str ((elemC 27 s).2.getD [])∧Upd (·=c) H H'∧curAt H' c (elemC 27 s).1:=by
 (refine fnS (imm:=z1f) zb0 func173 ?_;(conv=>whnf))
 refine cO (c201 c 27 s H hc hl) ?_
 rintro _ H1 ⟨rfl,h1,h2,h3⟩
 conv=>whnf
 refine ⟨_,⟨rfl,rfl⟩,?_⟩
 conv=>whnf
 exact ⟨rfl,h1,h2⟩
theorem c162 (c:Nat) (s:Option (List UInt8)) (H:PH) (hc:curAt H c s) (hl:∀l,s=some l→l.length≤140737488355328) :
  CK prog 162 [.ptr (some (c,0))] H fun r H'=>r=sl ((elemC 4 s).2.getD [])∧Upd (·=c) H H'∧curAt H' c (elemC 4 s).1∧∀y u,H[c]? = some ⟨324,[y,.bool s.isNone],u⟩→H'=H.set c (zdp 4 s u):=by
 (refine fnS (imm:=z04) zb0 func162 ?_;(conv=>whnf))
 refine cO (c201 c 4 s H hc hl) ?_
 rintro _ H1 ⟨rfl,h1,h2,h3⟩
 conv=>whnf
 exact ⟨rfl,h1,h2,h3⟩
def numW (l:List UInt8):Int:=l.foldl (fun n x=>IntKind.i64.wrap (ishl .i64 n 8+IntKind.i64.wrap (x.toNat:Int))) 0
def intR (s':Option (List UInt8)):Option (List UInt8)→Option (List UInt8)×Int
 | none=>(s',0)
 | some b=>if zh8 b=true∧numW (b.take 8)≤4611686018427387904 then (s',numW (b.take 8)) else (none,0)
def intC (s:Option (List UInt8)):Option (List UInt8)×Int:=intR (elemC 2 s).1 (elemC 2 s).2
theorem zse {s':Option (List UInt8)} {b:List UInt8} (h:¬(zh8 b=true∧numW (b.take 8)≤4611686018427387904)):intR s' (some b)=(none,0):=zqo h
theorem zoi {s':Option (List UInt8)} {b:List UInt8} (h:zh8 b=true∧numW (b.take 8)≤4611686018427387904):intR s' (some b)=(s',numW (b.take 8)):=zqp h
structure NuS where
 k:Nat
theorem c160 (c:Nat) (s:Option (List UInt8)) (H:PH) (hc:curAt H c s) (hl:∀l,s=some l→l.length≤140737488355328) :
  CK prog 160 [.ptr (some (c,0))] H fun r H'=>r=.int .i64 (intC s).2∧Upd (·=c) H H'∧curAt H' c (intC s).1:=by
 (refine fnS (imm:=z02) zb0 func160 ?_;(conv=>whnf))
 refine cO (c201 c 2 s H hc hl) ?_
 rintro _ H1 ⟨rfl,h1,h2,h3⟩
 unfold intC
 revert h2
 generalize elemC 2 s=q
 obtain ⟨s',o⟩:=q
 intro h2
 have h2:curAt H1 c s':=h2
 cases o with
 | none =>
  conv=>whnf
  exact ⟨rfl,h1,h2⟩
 | some b =>
  conv=>whnf
  have hcut:=zo5 b 0 (min (b.length:Int) 8) ⟨by decide,by omega,by omega⟩
  have hL:(b.take (min (b.length:Int) 8).toNat).drop (0:Int).toNat=b.take 8:=by
   show (b.take (min (b.length:Int) 8).toNat).drop 0=_
   rw [List.drop_zero]
   by_cases h:b.length≤8
   ·rw [show (min (b.length:Int) 8).toNat=b.length by omega,List.take_length,List.take_of_length_le h]
   ·rw [show (min (b.length:Int) 8).toNat=8 by omega]
  rw [hL] at hcut
  have hm:(min (b.length:Int) 8).toNat - (0:Int).toNat=(b.take 8).length:=by rw [zqr];omega
  refine ⟨⟨by decide,by show (0:Int)≤min (b.length:Int) 8;omega,by show min (b.length:Int) 8≤(b.length:Int);omega⟩,?_⟩
  conv=>whnf
  refine lO NuS (fun x=>[(0,.ptr (some (c,0))),(3,slo b (some 5)),(19,sl (b.take 8)),(20,.int .i64 (b.take 8).length),(21,.int .i64 x.k),(5,.int .i64 (numW ((b.take 8).take x.k)))]) (fun _=>H1) (fun x=>x.k≤(b.take 8).length) (fun x=>(b.take 8).length - x.k)
   ⟨⟨0⟩,Nat.zero_le _,⟨rfl,rfl,hcut,zqm (fun n:Nat=>PV.int .i64 (n:Int)) hm,rfl,rfl,zqv⟩,rfl⟩ ?_
  rintro ⟨k⟩ hk
  have hk:k≤(b.take 8).length:=hk
  have h8:(b.take 8).length≤8:=by rw [zqr];omega
  conv=>whnf
  refine ⟨fun h=>?_,fun h=>?_⟩
  ·conv=>whnf
   have h:(k:Int)<((b.take 8).length:Int):=h
   have hi:k<(b.take 8).length:=by omega
   refine ⟨⟨by show (0:Int)≤(k:Int);omega,h⟩,[bC (b.take 8)[k]],at1 ?_,?_⟩
   ·show ((b.take 8).map bC)[(k:Int).toNat*1]? = _
    rw [Int.toNat_natCast,Nat.mul_one,List.getElem?_map,zqc hi];rfl
   conv=>whnf
   refine ⟨by decide,?_⟩
   conv=>whnf
   refine ⟨⟨k+1⟩,by show k+1≤_;omega,⟨rfl,rfl,rfl,rfl,?_,?_,zqv⟩,rfl,by show (b.take 8).length - (k+1)<(b.take 8).length - k;omega⟩
   ·show PV.int _ (IntKind.i64.wrap ((k:Int)+1))=PV.int _ ((k+1:Nat):Int)
    rw [w64 (by omega) (by omega)];rfl
   ·rw [List.take_succ_eq_append_getElem hi]
    unfold numW
    rw [List.foldl_append]
    rfl
  ·conv=>whnf
   have h:¬(k:Int)<((b.take 8).length:Int):=h
   rw [List.take_of_length_le (l:=b.take 8) (by omega)]
   refine cP (c202 b) ?_
   cases hn:zh8 b
   ·conv=>whnf
    refine cO (c203 c s' H1 h2) fun r H2 ⟨k1,k2,k3,_⟩=>?_
    subst k1
    conv=>whnf
    have hq:intR s' (some b)=(none,0):=zse (fun hh=>by rw [hn] at hh;cases hh.1)
    rw [show intR (s',some b).1 (s',some b).2=(none,0) from hq]
    exact ⟨rfl,h1.trans k2,k3⟩
   ·conv=>whnf
    refine ⟨fun h5=>?_,fun h5=>?_⟩
    ·conv=>whnf
     have h5:(4611686018427387904:Int)<numW (b.take 8):=h5
     refine cO (c203 c s' H1 h2) fun r H2 ⟨k1,k2,k3,_⟩=>?_
     subst k1
     conv=>whnf
     have hq:intR s' (some b)=(none,0):=zse (fun hh=>by omega)
     rw [show intR (s',some b).1 (s',some b).2=(none,0) from hq]
     exact ⟨rfl,h1.trans k2,k3⟩
    ·conv=>whnf
     have h5:¬(4611686018427387904:Int)<numW (b.take 8):=h5
     have hq:intR s' (some b)=(s',numW (b.take 8)):=zoi ⟨hn,by omega⟩
     rw [show intR (s',some b).1 (s',some b).2=(s',numW (b.take 8)) from hq]
     exact ⟨rfl,h1,h2⟩
theorem zsq (n:Nat) (hn:n≤65535) (r:List UInt8):headB (lenB n++r)=((lenB n).length,n,true):=by
 unfold lenB
 split
 ·rename_i h
  have e:(UInt8.ofNat n).toNat=n:=by rw [UInt8.toNat_ofNat'];omega
  match r with
  | []=>show headB [_]=_;rw [zoa,e,zqp h];rfl
  | [y]=>show headB [_,_]=_;rw [zh7,e,zqp h];rfl
  | y::z::t=>show headB (_::_::_::_)=_;rw [zef,e,zqp h];rfl
 ·rename_i h
  split
  ·rename_i h2
   have e:(UInt8.ofNat n).toNat=n:=by rw [UInt8.toNat_ofNat'];omega
   match r with
   | []=>show headB [_,_]=_;rw [zh7,e,zqo (by decide),zqp ⟨by decide,by omega⟩];rfl
   | y::t=>show headB (_::_::_::_)=_;rw [zef,e,zqo (by decide),zqp ⟨by decide,by omega⟩];rfl
  ·rename_i h2
   have e1:(UInt8.ofNat (n / 256)).toNat=n / 256:=by rw [UInt8.toNat_ofNat'];omega
   have e2:(UInt8.ofNat n).toNat=n % 256:=by rw [UInt8.toNat_ofNat']
   show headB (_::_::_::_)=_
   rw [zef,e1,e2,zqo (by decide),zqo (fun hh=>absurd hh.1 (by decide)),zqp ⟨by decide,by omega⟩]
   show (3,n / 256*256+n % 256,true)=(3,n,true)
   rw [show n / 256*256+n % 256=n by omega]
theorem zrz (tag:UInt8) (x rest:List UInt8) (hx:x.length≤65535):elemB tag (wrapB tag x++rest)=some (x,rest):=by
 have e:wrapB tag x++rest=tag::(lenB x.length++(x++rest)):=by unfold wrapB;simp
 rw [e]
 show (if tag=tag then (if (headB (lenB x.length++(x++rest))).2.2=true∧(headB (lenB x.length++(x++rest))).1+(headB (lenB x.length++(x++rest))).2.1≤(lenB x.length++(x++rest)).length then some (((lenB x.length++(x++rest)).drop (headB (lenB x.length++(x++rest))).1).take (headB (lenB x.length++(x++rest))).2.1,(lenB x.length++(x++rest)).drop ((headB (lenB x.length++(x++rest))).1+(headB (lenB x.length++(x++rest))).2.1)) else none) else none)=_
 rw [zqp rfl,zsq _ hx]
 rw [zqp ⟨rfl,by show (lenB x.length).length+x.length≤_;simp⟩]
 show some (((lenB x.length++(x++rest)).drop (lenB x.length).length).take x.length,(lenB x.length++(x++rest)).drop ((lenB x.length).length+x.length))=_
 rw [List.drop_left,List.take_left,←List.drop_drop,List.drop_left,List.drop_left]
theorem zbm (tag:UInt8) (x rest:List UInt8) (hx:x.length≤65535):elemC tag (some (wrapB tag x++rest))=(some rest,some x):=by
 show (match elemB tag (wrapB tag x++rest) with | none=>(none,none) | some (x,r)=>(some r,some x))=_
 rw [zrz tag x rest hx]
theorem ishl8 (v:Int):ishl .i64 v 8=IntKind.i64.wrap (v*256):=by
 unfold ishl
 rw [show (2:Int) ^ (min (Int.toNat 8) IntKind.i64.bits)=256 from rfl]
def stepV (n:Nat) (x:UInt8):Nat:=n*256+x.toNat
def valB (l:List UInt8):Nat:=l.foldl stepV 0
theorem zj4:∀(l:List UInt8) (a:Nat),a*256 ^ l.length≤l.foldl stepV a
 | [],a=>by simp
 | x::l,a=>by
  have h:=zj4 l (stepV a x)
  refine Nat.le_trans ?_ h
  unfold stepV
  rw [List.length_cons,Nat.pow_succ,Nat.mul_comm (256 ^ l.length) 256,←Nat.mul_assoc]
  exact Nat.mul_le_mul_right _ (Nat.le_add_right _ _)
theorem zx2 (l:List UInt8) (a:Nat):a≤l.foldl stepV a :=
 Nat.le_trans (Nat.le_mul_of_pos_right _ (Nat.pow_pos (by decide))) (zj4 l a)
theorem zlo:∀(l:List UInt8) (a:Nat),l.foldl stepV a<9223372036854775808→l.foldl (fun n x=>IntKind.i64.wrap (ishl .i64 n 8+IntKind.i64.wrap (x.toNat:Int))) (a:Int)=((l.foldl stepV a:Nat):Int)
 | [],a,_=>rfl
 | x::l,a,h=>by
  have h:l.foldl stepV (stepV a x)<9223372036854775808:=h
  have h1:=zx2 l (stepV a x)
  have h2:stepV a x=a*256+x.toNat:=rfl
  have hx:=x.toNat_lt
  show l.foldl _ (IntKind.i64.wrap (ishl .i64 (a:Int) 8+IntKind.i64.wrap (x.toNat:Int)))=((l.foldl stepV (stepV a x):Nat):Int)
  rw [←zlo l (stepV a x) h]
  congr 1
  rw [ishl8,zg7,w64 (x:=(a:Int)*256) (by omega) (by omega),w64 (by omega) (by omega),h2]
  omega
theorem zu1 (l:List UInt8) (h:valB l<9223372036854775808):numW l=(valB l:Int):=zlo l 0 h
theorem zom:∀(f n:Nat),n<256 ^ f→valB (le f n).reverse=n
 | 0,n,h=>by simp at h;subst h;rfl
 | f+1,n,h=>by
  unfold le
  split
  ·rename_i e;rw [e];rfl
  ·rw [List.reverse_cons]
   unfold valB
   rw [List.foldl_append]
   have ih:(le f (n / 256)).reverse.foldl stepV 0=n / 256:=zom f (n / 256) (by rw [Nat.pow_succ] at h;omega)
   rw [ih]
   show n / 256*256+(UInt8.ofNat n).toNat=n
   rw [UInt8.toNat_ofNat'];omega
theorem zwx:∀(f n:Nat),n<256 ^ f→∀x t,(le f n).reverse=x::t→0<x.toNat
 | 0,n,_=>fun x t e=>by simp [le] at e
 | f+1,n,h=>fun x t e=>by
  have h':n / 256<256 ^ f:=by rw [Nat.pow_succ] at h;omega
  unfold le at e
  split at e
  ·cases e
  ·rename_i hn
   rw [List.reverse_cons] at e
   cases hd:(le f (n / 256)).reverse with
   | nil =>
    have hv:=zom f (n / 256) h'
    rw [hd] at hv
    have hv:0=n / 256:=hv
    rw [hd] at e
    cases e
    rw [UInt8.toNat_ofNat'];omega
   | cons y u =>
    rw [hd] at e
    cases e
    exact zwx f (n / 256) h' _ _ hd
theorem z3a (f n:Nat) (h:n<256 ^ f) (e:le f n=[]):n=0:=by
 have:=zom f n h
 rw [e] at this
 exact this.symm
theorem zx6 (n : Nat) (hn : n ≤ 4611686018427387904) : zh8 (intB n) = true ∧ valB (intB n) = n ∧ (intB n).length ≤ 8 := by
  have h9 : n < 256 ^ 9 := by omega
  have hv := zom 9 n h9
  have ht := zwx 9 n h9
  unfold intB padB
  generalize hd : (le 9 n).reverse = b at hv ht
  have hl : le 9 n = b.reverse := by rw [← hd, List.reverse_reverse]
  rw [hl]
  cases b with
  | nil => exact ⟨by decide, by rw [← hv]; rfl, by decide⟩
  | cons x t =>
    have hx := ht x t rfl
    have hp : x.toNat * 256 ^ t.length ≤ n := by
      have h := zj4 t (stepV 0 x)
      have e : t.foldl stepV (stepV 0 x) = n := hv
      rw [e] at h
      have e2 : stepV 0 x = x.toNat := by unfold stepV; omega
      rw [e2] at h; exact h
    have hg : ((x :: t).reverse.getLast?.getD 0) = x := by simp
    rw [hg]
    have p7 : 7 ≤ t.length → 256 ^ 7 ≤ 256 ^ t.length := fun h => Nat.pow_le_pow_right (by decide) h
    have p8 : 8 ≤ t.length → 256 ^ 8 ≤ 256 ^ t.length := fun h => Nat.pow_le_pow_right (by decide) h
    have k8 : t.length ≤ 7 := by
      refine Nat.le_of_not_lt fun h => ?_
      have := p8 h
      have : 256 ^ t.length ≤ x.toNat * 256 ^ t.length := Nat.le_mul_of_pos_left _ hx
      have e : (256 : Nat) ^ 8 = 18446744073709551616 := by decide
      omega
    by_cases hc : 128 ≤ x.toNat
    · rw [zqp (.inr hc)]
      have k7 : t.length ≤ 6 := by
        refine Nat.le_of_not_lt fun h => ?_
        have h1 := p7 h
        have : x.toNat * 256 ^ 7 ≤ x.toNat * 256 ^ t.length := Nat.mul_le_mul_left _ h1
        have e : (256 : Nat) ^ 7 = 72057594037927936 := by decide
        rw [e] at this
        omega
      rw [List.reverse_append, List.reverse_reverse]
      refine ⟨?_, ?_, ?_⟩
      · show (decide (t.length ≤ 6) && (decide ((0 : UInt8).toNat < 128) && (decide ((0 : UInt8).toNat ≠ 0) || decide (128 ≤ x.toNat)))) = true
        rw [zqe k7, zqe hc]; rfl
      · exact hv
      · show t.length + 1 + 1 ≤ 8
        omega
    · rw [zqo (fun hh => by rcases hh with hh | hh; · simp at hh
                            · exact hc hh)]
      rw [List.reverse_reverse]
      refine ⟨?_, hv, by show t.length + 1 ≤ 8; omega⟩
      cases t with
      | nil => exact zqe (by omega)
      | cons y u =>
        show (decide (u.length ≤ 6) && (decide (x.toNat < 128) && (decide (x.toNat ≠ 0) || decide (128 ≤ y.toNat)))) = true
        have : u.length + 1 ≤ 7 := k8
        rw [zqe (show u.length ≤ 6 by omega), zqe (show x.toNat < 128 by omega), zqe (show x.toNat ≠ 0 by omega)]; rfl
theorem zbu (n:Int) (h0:0≤n) (h1:n≤4611686018427387904) (rest:List UInt8):intC (some (intE n++rest))=(some rest,n):=by
 have hc:zau n=n.toNat:=by unfold zau;omega
 obtain ⟨k1,k2,k3⟩:=zx6 n.toNat (by omega)
 unfold intC intE
 rw [hc,zbm 2 _ rest (by omega)]
 have e8:(intB n.toNat).take 8=intB n.toNat:=List.take_of_length_le k3
 have hw:numW ((intB n.toNat).take 8)=n:=by rw [e8,zu1 _ (by omega),k2];omega
 show intR (some rest) (some (intB n.toNat))=_
 rw [zoi ⟨k1,by rw [hw];exact h1⟩,hw]
def zac (s:Option (List UInt8)):Option (List UInt8)×(List UInt8×List UInt8) :=
 ((elemC 48 s).1,((elemC 27 (elemC 48 s).2).2.getD [],(elemC 27 (elemC 27 (elemC 48 s).2).1).2.getD []))
theorem zb3 (r n rest:List UInt8) (hr:r.length≤1000) (hn:n.length≤1000):zac (some (zan r n++rest))=(some rest,(r,n)):=by
 have h1:=zah 27 r
 have h2:=zah 27 n
 unfold zac zan
 rw [zbm 48 _ rest (by simp only [zqk,zql,zqf,List.length_nil];omega)]
 show (some rest,((elemC 27 (some [wrapB 27 r,wrapB 27 n].flatten)).2.getD [],(elemC 27 (elemC 27 (some [wrapB 27 r,wrapB 27 n].flatten)).1).2.getD []))=_
 simp only [zqk,zql]
 rw [zbm 27 r _ (by omega)]
 show (some rest,(r,(elemC 27 (some (wrapB 27 n++[]))).2.getD []))=_
 rw [zbm 27 n _ (by omega)]
 rfl
theorem zry {tag:UInt8} {l x r:List UInt8} (h:elemB tag l=some (x,r)):x.length≤l.length∧r.length≤l.length∧x.length≤65535:=by
 cases l with
 | nil=>cases h
 | cons t b =>
  have h:(if t=tag then (if (headB b).2.2=true∧(headB b).1+(headB b).2.1≤b.length then some ((b.drop (headB b).1).take (headB b).2.1,b.drop ((headB b).1+(headB b).2.1)) else none) else none)=some (x,r):=h
  split at h
  ·split at h
   ·rename_i h1 h2
    have:=zr8 b h2.1
    cases h
    simp only [zqr,List.length_drop,List.length_cons]
    omega
   ·cases h
  ·cases h
theorem zar {tag:UInt8} {s:Option (List UInt8)} {B:Nat} (h:∀l,s=some l→l.length≤B):(∀l,(elemC tag s).1=some l→l.length≤B)∧(∀l,(elemC tag s).2=some l→l.length≤B∧l.length≤65535):=by
 cases s with
 | none=>exact ⟨(fun l h=>by cases h),(fun l h=>by cases h)⟩
 | some l =>
  have hb:=h l rfl
  have e:elemC tag (some l)=(match elemB tag l with | none=>(none,none) | some (x,r)=>(some r,some x)):=rfl
  rw [e]
  cases he:elemB tag l with
  | none=>exact ⟨(fun l h=>by cases h),(fun l h=>by cases h)⟩
  | some p =>
   obtain ⟨x,r⟩:=p
   have hl:=zry he
   exact ⟨(fun l h=>by cases h;omega),(fun l h=>by cases h;omega)⟩
theorem ze7 {s:Option (List UInt8)} {B:Nat} (h:∀l,s=some l→l.length≤B):∀l,(intC s).1=some l→l.length≤B:=by
 have hl:=(zar (tag:=2) h).1
 unfold intC
 revert hl
 generalize elemC 2 s=q
 obtain ⟨s',o⟩:=q
 intro hl l
 cases o with
 | none=>exact hl l
 | some b =>
  show (if zh8 b=true∧numW (b.take 8)≤4611686018427387904 then (s',numW (b.take 8)) else (none,0)).1=some l→_
  split
  ·exact hl l
  ·intro e;cases e
def keyC (k:Nat→UInt8):List PV:=[bC (k 0),bC (k 1),bC (k 2),bC (k 3),bC (k 4),bC (k 5),bC (k 6),bC (k 7),bC (k 8),bC (k 9),bC (k 10),bC (k 11),bC (k 12),bC (k 13),bC (k 14),bC (k 15),bC (k 16),bC (k 17),bC (k 18),bC (k 19),bC (k 20),bC (k 21),bC (k 22),bC (k 23),bC (k 24),bC (k 25),bC (k 26),bC (k 27),bC (k 28),bC (k 29),bC (k 30),bC (k 31)]
def keyB (k:Nat→UInt8):List UInt8:=[k 0,k 1,k 2,k 3,k 4,k 5,k 6,k 7,k 8,k 9,k 10,k 11,k 12,k 13,k 14,k 15,k 16,k 17,k 18,k 19,k 20,k 21,k 22,k 23,k 24,k 25,k 26,k 27,k 28,k 29,k 30,k 31]
def keyOf (x:List UInt8):Nat→UInt8:=fun i=>x.getD i 0
theorem zj9 (k:Nat→UInt8):keyC k=(keyB k).map bC:=rfl
theorem zhg (k:Nat→UInt8):(keyB k).length=32:=rfl
theorem zx7 (k:Nat→UInt8):keyB (keyOf (keyB k))=keyB k:=rfl
structure Prt where
 r:List UInt8
 n:List UInt8
 k:Nat→UInt8
 tr:List UInt8
 st:Int
 en:Int
def Prt.cells (p:Prt):List PV:=[.str p.r,.str p.n]++keyC p.k++[.str p.tr,.int .i64 p.st,.int .i64 p.en]
def zao (p:Prt):Bool:=zap p.r p.n&&zby p.tr&&(inZ p.st 0 1073741824&&inZ p.en 0 1073741824)
def partL (p:Prt):List UInt8:=wrapB 99 [zan p.r p.n,wrapB 4 (keyB p.k),wrapB 27 p.tr,intE p.st,intE p.en].flatten
def encPV (p:Prt):PV:=if zao p=true∧(partL p).length≤2000 then .tup [sl (partL p),.int .i64 0] else .tup [sl [],.int .i64 1]
theorem zlg {p:Prt} (h:zao p=true∧(partL p).length≤2000):encPV p=.tup [sl (partL p),.int .i64 0]:=zqp h
theorem zf2 {p:Prt} (h:¬(zao p=true∧(partL p).length≤2000)):encPV p=.tup [sl [],.int .i64 1]:=zqo h
def octC (s:Option (List UInt8)):Option (List UInt8)×List UInt8:=((elemC 4 s).1,(elemC 4 s).2.getD [])
def txtC (s:Option (List UInt8)):Option (List UInt8)×List UInt8:=((elemC 27 s).1,(elemC 27 s).2.getD [])
theorem zes (x rest:List UInt8) (hx:x.length≤65535):octC (some (wrapB 4 x++rest))=(some rest,x):=by
 unfold octC;rw [zbm 4 x rest hx];rfl
theorem zt0 (x rest:List UInt8) (hx:x.length≤65535):txtC (some (wrapB 27 x++rest))=(some rest,x):=by
 unfold txtC;rw [zbm 27 x rest hx];rfl
def partD (s:Option (List UInt8)):Prt :=
 ⟨(zac s).2.1,(zac s).2.2,keyOf (octC (zac s).1).2,(txtC (octC (zac s).1).1).2,(intC (txtC (octC (zac s).1).1).1).2,(intC (intC (txtC (octC (zac s).1).1).1).1).2⟩
def partC (b:List UInt8):Prt:=partD (elemC 99 (some b)).2
def Prt.same (p q:Prt):Prop:=p.r=q.r∧p.n=q.n∧keyB p.k=keyB q.k∧p.tr=q.tr∧p.st=q.st∧p.en=q.en
theorem zo1 (p:Prt):(partL p).length≤p.r.length+p.n.length+p.tr.length+88:=by
 have h0:=zah 99 [zan p.r p.n,wrapB 4 (keyB p.k),wrapB 27 p.tr,intE p.st,intE p.en].flatten
 have h1:=zaq p.r p.n
 have h2:=zah 4 (keyB p.k)
 have h3:=zah 27 p.tr
 have h4:=zam p.st
 have h5:=zam p.en
 have h6:=zhg p.k
 simp only [zqk,zql,zqf,List.length_nil] at h0
 unfold partL
 simp only [zqk,zql]
 omega
theorem ze8 {s:List UInt8} (h:zby s=true):s.length≤300:=by
 unfold zby at h
 rw [zqb] at h
 exact of_decide_eq_true h.1
theorem zpu (p:Prt) (h:zao p=true):(partC (partL p)).same p:=by
 unfold zao at h
 simp only [zqb] at h
 have g1:=zaz h.1.1
 have g2:=ze8 h.1.2
 have g3:=za8 h.2.1
 have g4:=za8 h.2.2
 have h1:=zaq p.r p.n
 have h2:=zah 4 (keyB p.k)
 have h3:=zah 27 p.tr
 have h4:=zam p.st
 have h5:=zam p.en
 have h6:=zhg p.k
 have e0:=zbm 99 [zan p.r p.n,wrapB 4 (keyB p.k),wrapB 27 p.tr,intE p.st,intE p.en].flatten [] (by simp only [zqk,zql,zqf,List.length_nil];omega)
 rw [List.append_nil] at e0
 have w1:=zb3 p.r p.n (wrapB 4 (keyB p.k)++(wrapB 27 p.tr++(intE p.st++(intE p.en++[])))) (by omega) (by omega)
 have w2:=zes (keyB p.k) (wrapB 27 p.tr++(intE p.st++(intE p.en++[]))) (by omega)
 have w3:=zt0 p.tr (intE p.st++(intE p.en++[])) (by omega)
 have w4:=zbu p.st (by omega) (by omega) (intE p.en++[])
 have w5:=zbu p.en (by omega) (by omega) []
 unfold partC partL
 rw [e0]
 show (partD (some [zan p.r p.n,wrapB 4 (keyB p.k),wrapB 27 p.tr,intE p.st,intE p.en].flatten)).same p
 simp only [zqk,zql]
 unfold partD
 simp only [w1,w2,w3,w4,w5]
 exact ⟨rfl,rfl,zx7 _,rfl,rfl,rfl⟩
theorem zlw {p q:Prt} (h:p.same q):zao p=zao q∧partL p=partL q:=by
 obtain ⟨h1,h2,h3,h4,h5,h6⟩:=h
 unfold zao partL
 rw [h1,h2,h3,h4,h5,h6]
 exact ⟨rfl,rfl⟩
structure Tk where
 r:List UInt8
 n:List UInt8
 kv:Int
 b:List UInt8
def tickD (s:Option (List UInt8)):Tk:=⟨(zac s).2.1,(zac s).2.2,(intC (zac s).1).2,(octC (intC (zac s).1).1).2⟩
def tickC (s:Option (List UInt8)):Option (List UInt8)×Tk:=((elemC 97 s).1,tickD (elemC 97 s).2)
theorem zgx (r n:List UInt8) (kv:Int) (b rest:List UInt8) (hr:r.length≤1000) (hn:n.length≤1000) (h0:0≤kv) (h1:kv≤4611686018427387904) (hb:b.length≤10000) :
  tickC (some (zaw r n kv b++rest))=(some rest,⟨r,n,kv,b⟩):=by
 have k1:=zaq r n
 have k2:=zam kv
 have k3:=zah 4 b
 unfold tickC zaw
 rw [zbm 97 _ rest (by simp only [zqk,zql,zqf,List.length_nil];omega)]
 show (some rest,tickD (some [zan r n,intE kv,wrapB 4 b].flatten))=_
 simp only [zqk,zql]
 unfold tickD
 rw [zb3 r n _ hr hn]
 show (some rest,Tk.mk r n (intC (some (intE kv++(wrapB 4 b++[])))).2 (octC (intC (some (intE kv++(wrapB 4 b++[])))).1).2)=_
 rw [zbu kv h0 h1]
 show (some rest,Tk.mk r n kv (octC (some (wrapB 4 b++[]))).2)=_
 rw [zes b [] (by omega)]
def mZ:Msg:=⟨0,[],[],[],[],0,0,[],[],0,[],some 5,[],some 5,[],[],0,0,[],[],[],[],0,[],some 5,[],some 5,[],[],0,[],some 5,[],some 5,0,0⟩
def tkAs (s:Option (List UInt8)):Msg:={ mZ with kind:=1,a1:=(zac s).2.1,a2:=(zac s).2.2,a3:=(zac (zac s).1).2.1,a4:=(zac (zac s).1).2.2,aTill:=(intC (zac (zac s).1).1).2,aNonce:=(intC (intC (zac (zac s).1).1).1).2 }
def tkTgs (s:Option (List UInt8)):Msg:={ mZ with kind:=2,t1:=(tickC s).2.r,t2:=(tickC s).2.n,tKv:=(tickC s).2.kv,tB:=(tickC s).2.b,tBo:=none,tAu:=(octC (tickC s).1).2,tAuo:=none,t3:=(zac (octC (tickC s).1).1).2.1,t4:=(zac (octC (tickC s).1).1).2.2,tTill:=(intC (zac (octC (tickC s).1).1).1).2,tNonce:=(intC (intC (zac (octC (tickC s).1).1).1).1).2 }
def tkRep (s:Option (List UInt8)):Msg:={ mZ with kind:=3,r1:=(zac s).2.1,r2:=(zac s).2.2,r3:=(tickC (zac s).1).2.r,r4:=(tickC (zac s).1).2.n,rKv:=(tickC (zac s).1).2.kv,rB:=(tickC (zac s).1).2.b,rBo:=none,rBl:=(octC (tickC (zac s).1).1).2,rBlo:=none }
def tkAp (s:Option (List UInt8)):Msg:={ mZ with kind:=4,p1:=(tickC s).2.r,p2:=(tickC s).2.n,pKv:=(tickC s).2.kv,pB:=(tickC s).2.b,pBo:=none,pAu:=(octC (tickC s).1).2,pAuo:=none }
def zo8 (s:Option (List UInt8)):Msg:={ mZ with kind:=5,fErr:=(intC s).2,fNonce:=(intC (intC s).1).2 }
def zch (t:UInt8) (s:Option (List UInt8)):Msg :=
 if t.toNat=106 then tkAs s else if t.toNat=108 then tkTgs s else if t.toNat=107 then tkRep s else if t.toNat=110 then tkAp s else if t.toNat=126 then zo8 s else mZ
def zek:List UInt8→Msg
 | []=>mZ
 | t::r=>zch t (elemC t (some (t::r))).2
theorem zdz (t:UInt8) (x:List UInt8) (hx:x.length≤65535):zek (wrapB t x)=zch t (some x):=by
 have e:=zbm t x [] hx
 rw [List.append_nil] at e
 show zch t (elemC t (some (wrapB t x))).2=_
 rw [e]
theorem zos {m:Msg} (h:noAs m=true):m.a1=[]∧m.a2=[]∧m.a3=[]∧m.a4=[]∧m.aTill=0∧m.aNonce=0:=of_decide_eq_true h
theorem zkg {m:Msg} (h:noTgs m=true):m.t1=[]∧m.t2=[]∧m.tKv=0∧m.tB=[]∧m.tAu=[]∧m.t3=[]∧m.t4=[]∧m.tTill=0∧m.tNonce=0:=by
 unfold noTgs noTk at h
 simp only [zqb,decide_eq_true_eq,List.length_eq_zero_iff] at h
 obtain ⟨⟨⟨⟨⟨⟨⟨h1,h2⟩,h3⟩,h4⟩,h5⟩,h6,h7⟩,h8⟩,h9⟩:=h
 exact ⟨h1,h2,h3,h4,h5,h6,h7,h8,h9⟩
theorem zkf {m:Msg} (h:noRep m=true):m.r1=[]∧m.r2=[]∧m.r3=[]∧m.r4=[]∧m.rKv=0∧m.rB=[]∧m.rBl=[]:=by
 unfold noRep noTk at h
 simp only [zqb,decide_eq_true_eq,List.length_eq_zero_iff] at h
 obtain ⟨⟨⟨h1,h2⟩,⟨⟨h3,h4⟩,h5⟩,h6⟩,h7⟩:=h
 exact ⟨h1,h2,h3,h4,h5,h6,h7⟩
theorem zor {m:Msg} (h:noAp m=true):m.p1=[]∧m.p2=[]∧m.pKv=0∧m.pB=[]∧m.pAu=[]:=by
 unfold noAp noTk at h
 simp only [zqb,decide_eq_true_eq,List.length_eq_zero_iff] at h
 obtain ⟨⟨⟨⟨h1,h2⟩,h3⟩,h4⟩,h5⟩:=h
 exact ⟨h1,h2,h3,h4,h5⟩
theorem zhi {m:Msg} (h:zaj m=true):m.fErr=0∧m.fNonce=0:=of_decide_eq_true h
theorem zvg {m:Msg} (h:zab m=true):(m.kind≠1→noAs m=true)∧(m.kind≠2→noTgs m=true)∧(m.kind≠3→noRep m=true)∧(m.kind≠4→noAp m=true)∧(m.kind≠5→zaj m=true):=by
 unfold zab at h
 simp only [zqb,Bool.or_eq_true,decide_eq_true_eq] at h
 obtain ⟨⟨⟨⟨h1,h2⟩,h3⟩,h4⟩,h5⟩:=h
 exact ⟨fun h=>h1.resolve_left h,fun h=>h2.resolve_left h,fun h=>h3.resolve_left h,fun h=>h4.resolve_left h,fun h=>h5.resolve_left h⟩
theorem zur {m:Msg} (h:isB m=true):zab m=true:=by
 unfold isB at h
 rw [zqb] at h
 exact h.2
theorem zni {r n:List UInt8} {kv:Int} {k:Nat} (h:tickB r n kv k=true):1≤kv∧kv≤255:=by
 unfold tickB at h
 rw [zqb,zqb] at h
 exact za8 h.1.2
theorem zpx (m:Msg) (h:isB m=true):(zek (laidB m)).d=m.d:=by
 obtain ⟨o1,o2,o3,o4,o5⟩:=zvg (zur h)
 have hm:=(zqb _ _▸h:_∧_).1
 by_cases h1:m.kind=1
 ·skip
  rw [zqp h1] at hm
  simp only [zqb] at hm
  have g1:=zaz hm.1.1.1
  have g2:=zaz hm.1.1.2
  have g3:=za8 hm.1.2
  have g4:=za8 hm.2
  have e0:=zaq m.a1 m.a2
  have e1:=zaq m.a3 m.a4
  have e2:=zam m.aTill
  have e3:=zam m.aNonce
  have hl:laidB m=wrapB 106 [zan m.a1 m.a2,zan m.a3 m.a4,intE m.aTill,intE m.aNonce].flatten:=by unfold laidB;rw [zqp h1]
  rw [hl,zdz _ _ (by simp only [zqk,zql,zqf,List.length_nil];omega)]
  show (tkAs (some [zan m.a1 m.a2,zan m.a3 m.a4,intE m.aTill,intE m.aNonce].flatten)).d=_
  simp only [zqk,zql]
  unfold tkAs
  have w0:=zb3 m.a1 m.a2 (zan m.a3 m.a4++(intE m.aTill++(intE m.aNonce++[]))) (by omega) (by omega)
  have w1:=zb3 m.a3 m.a4 (intE m.aTill++(intE m.aNonce++[])) (by omega) (by omega)
  have w2:=zbu m.aTill (by omega) (by omega) (intE m.aNonce++[])
  have w3:=zbu m.aNonce (by omega) (by omega) []
  simp only [w0,w1,w2,w3]
  have z2:=zkg (o2 (by omega))
  have z3:=zkf (o3 (by omega))
  have z4:=zor (o4 (by omega))
  have z5:=zhi (o5 (by omega))
  clear o1 o2 o3 o4 o5 hl hm h w0
  obtain ⟨kind,a1,a2,a3,a4,aTill,aNonce,t1,t2,tKv,tB,tBo,tAu,tAuo,t3,t4,tTill,tNonce,r1,r2,r3,r4,rKv,rB,rBo,rBl,rBlo,p1,p2,pKv,pB,pBo,pAu,pAuo,fErr,fNonce⟩:=m
  obtain ⟨y2_0,y2_1,y2_2,y2_3,y2_4,y2_5,y2_6,y2_7,y2_8⟩:=z2
  obtain ⟨y3_0,y3_1,y3_2,y3_3,y3_4,y3_5,y3_6⟩:=z3
  obtain ⟨y4_0,y4_1,y4_2,y4_3,y4_4⟩:=z4
  obtain ⟨y5_0,y5_1⟩:=z5
  simp only at *
  subst h1 y2_0 y2_1 y2_2 y2_3 y2_4 y2_5 y2_6 y2_7 y2_8 y3_0 y3_1 y3_2 y3_3 y3_4 y3_5 y3_6 y4_0 y4_1 y4_2 y4_3 y4_4 y5_0 y5_1
  rfl
 by_cases h2:m.kind=2
 ·skip
  rw [zqo h1] at hm
  rw [zqp h2] at hm
  simp only [zqb] at hm
  have g1:=zcp hm.1.1.1.1
  have gk:=zni hm.1.1.1.1
  have g2:=za8 hm.1.1.1.2
  have g3:=zaz hm.1.1.2
  have g4:=za8 hm.1.2
  have g5:=za8 hm.2
  have e0:=zbf m.t1 m.t2 m.tKv m.tB
  have e1:=zah 4 m.tAu
  have e2:=zaq m.t3 m.t4
  have e3:=zam m.tTill
  have e4:=zam m.tNonce
  have hl:laidB m=wrapB 108 [zaw m.t1 m.t2 m.tKv m.tB,wrapB 4 m.tAu,zan m.t3 m.t4,intE m.tTill,intE m.tNonce].flatten:=by unfold laidB;rw [zqo h1];rw [zqp h2]
  rw [hl,zdz _ _ (by simp only [zqk,zql,zqf,List.length_nil];omega)]
  show (tkTgs (some [zaw m.t1 m.t2 m.tKv m.tB,wrapB 4 m.tAu,zan m.t3 m.t4,intE m.tTill,intE m.tNonce].flatten)).d=_
  simp only [zqk,zql]
  unfold tkTgs
  have w0:=zgx m.t1 m.t2 m.tKv m.tB (wrapB 4 m.tAu++(zan m.t3 m.t4++(intE m.tTill++(intE m.tNonce++[])))) (by omega) (by omega) (by omega) (by omega) (by omega)
  have w1:=zes m.tAu (zan m.t3 m.t4++(intE m.tTill++(intE m.tNonce++[]))) (by omega)
  have w2:=zb3 m.t3 m.t4 (intE m.tTill++(intE m.tNonce++[])) (by omega) (by omega)
  have w3:=zbu m.tTill (by omega) (by omega) (intE m.tNonce++[])
  have w4:=zbu m.tNonce (by omega) (by omega) []
  simp only [w0,w1,w2,w3,w4]
  have z1:=zos (o1 (by omega))
  have z3:=zkf (o3 (by omega))
  have z4:=zor (o4 (by omega))
  have z5:=zhi (o5 (by omega))
  clear o1 o2 o3 o4 o5 hl hm h w0
  obtain ⟨kind,a1,a2,a3,a4,aTill,aNonce,t1,t2,tKv,tB,tBo,tAu,tAuo,t3,t4,tTill,tNonce,r1,r2,r3,r4,rKv,rB,rBo,rBl,rBlo,p1,p2,pKv,pB,pBo,pAu,pAuo,fErr,fNonce⟩:=m
  obtain ⟨y1_0,y1_1,y1_2,y1_3,y1_4,y1_5⟩:=z1
  obtain ⟨y3_0,y3_1,y3_2,y3_3,y3_4,y3_5,y3_6⟩:=z3
  obtain ⟨y4_0,y4_1,y4_2,y4_3,y4_4⟩:=z4
  obtain ⟨y5_0,y5_1⟩:=z5
  simp only at *
  subst h2 y1_0 y1_1 y1_2 y1_3 y1_4 y1_5 y3_0 y3_1 y3_2 y3_3 y3_4 y3_5 y3_6 y4_0 y4_1 y4_2 y4_3 y4_4 y5_0 y5_1
  rfl
 by_cases h3:m.kind=3
 ·skip
  rw [zqo h1] at hm
  rw [zqo h2] at hm
  rw [zqp h3] at hm
  simp only [zqb] at hm
  have g1:=zaz hm.1.1
  have g2:=zcp hm.1.2
  have gk:=zni hm.1.2
  have g3:=za8 hm.2
  have e0:=zaq m.r1 m.r2
  have e1:=zbf m.r3 m.r4 m.rKv m.rB
  have e2:=zah 4 m.rBl
  have hl:laidB m=wrapB 107 [zan m.r1 m.r2,zaw m.r3 m.r4 m.rKv m.rB,wrapB 4 m.rBl].flatten:=by unfold laidB;rw [zqo h1];rw [zqo h2];rw [zqp h3]
  rw [hl,zdz _ _ (by simp only [zqk,zql,zqf,List.length_nil];omega)]
  show (tkRep (some [zan m.r1 m.r2,zaw m.r3 m.r4 m.rKv m.rB,wrapB 4 m.rBl].flatten)).d=_
  simp only [zqk,zql]
  unfold tkRep
  have w0:=zb3 m.r1 m.r2 (zaw m.r3 m.r4 m.rKv m.rB++(wrapB 4 m.rBl++[])) (by omega) (by omega)
  have w1:=zgx m.r3 m.r4 m.rKv m.rB (wrapB 4 m.rBl++[]) (by omega) (by omega) (by omega) (by omega) (by omega)
  have w2:=zes m.rBl [] (by omega)
  simp only [w0,w1,w2]
  have z1:=zos (o1 (by omega))
  have z2:=zkg (o2 (by omega))
  have z4:=zor (o4 (by omega))
  have z5:=zhi (o5 (by omega))
  clear o1 o2 o3 o4 o5 hl hm h w0
  obtain ⟨kind,a1,a2,a3,a4,aTill,aNonce,t1,t2,tKv,tB,tBo,tAu,tAuo,t3,t4,tTill,tNonce,r1,r2,r3,r4,rKv,rB,rBo,rBl,rBlo,p1,p2,pKv,pB,pBo,pAu,pAuo,fErr,fNonce⟩:=m
  obtain ⟨y1_0,y1_1,y1_2,y1_3,y1_4,y1_5⟩:=z1
  obtain ⟨y2_0,y2_1,y2_2,y2_3,y2_4,y2_5,y2_6,y2_7,y2_8⟩:=z2
  obtain ⟨y4_0,y4_1,y4_2,y4_3,y4_4⟩:=z4
  obtain ⟨y5_0,y5_1⟩:=z5
  simp only at *
  subst h3 y1_0 y1_1 y1_2 y1_3 y1_4 y1_5 y2_0 y2_1 y2_2 y2_3 y2_4 y2_5 y2_6 y2_7 y2_8 y4_0 y4_1 y4_2 y4_3 y4_4 y5_0 y5_1
  rfl
 by_cases h4:m.kind=4
 ·skip
  rw [zqo h1] at hm
  rw [zqo h2] at hm
  rw [zqo h3] at hm
  rw [zqp h4] at hm
  simp only [zqb] at hm
  have g1:=zcp hm.1
  have gk:=zni hm.1
  have g2:=za8 hm.2
  have e0:=zbf m.p1 m.p2 m.pKv m.pB
  have e1:=zah 4 m.pAu
  have hl:laidB m=wrapB 110 [zaw m.p1 m.p2 m.pKv m.pB,wrapB 4 m.pAu].flatten:=by unfold laidB;rw [zqo h1];rw [zqo h2];rw [zqo h3];rw [zqp h4]
  rw [hl,zdz _ _ (by simp only [zqk,zql,zqf,List.length_nil];omega)]
  show (tkAp (some [zaw m.p1 m.p2 m.pKv m.pB,wrapB 4 m.pAu].flatten)).d=_
  simp only [zqk,zql]
  unfold tkAp
  have w0:=zgx m.p1 m.p2 m.pKv m.pB (wrapB 4 m.pAu++[]) (by omega) (by omega) (by omega) (by omega) (by omega)
  have w1:=zes m.pAu [] (by omega)
  simp only [w0,w1]
  have z1:=zos (o1 (by omega))
  have z2:=zkg (o2 (by omega))
  have z3:=zkf (o3 (by omega))
  have z5:=zhi (o5 (by omega))
  clear o1 o2 o3 o4 o5 hl hm h w0
  obtain ⟨kind,a1,a2,a3,a4,aTill,aNonce,t1,t2,tKv,tB,tBo,tAu,tAuo,t3,t4,tTill,tNonce,r1,r2,r3,r4,rKv,rB,rBo,rBl,rBlo,p1,p2,pKv,pB,pBo,pAu,pAuo,fErr,fNonce⟩:=m
  obtain ⟨y1_0,y1_1,y1_2,y1_3,y1_4,y1_5⟩:=z1
  obtain ⟨y2_0,y2_1,y2_2,y2_3,y2_4,y2_5,y2_6,y2_7,y2_8⟩:=z2
  obtain ⟨y3_0,y3_1,y3_2,y3_3,y3_4,y3_5,y3_6⟩:=z3
  obtain ⟨y5_0,y5_1⟩:=z5
  simp only at *
  subst h4 y1_0 y1_1 y1_2 y1_3 y1_4 y1_5 y2_0 y2_1 y2_2 y2_3 y2_4 y2_5 y2_6 y2_7 y2_8 y3_0 y3_1 y3_2 y3_3 y3_4 y3_5 y3_6 y5_0 y5_1
  rfl
 by_cases h5:m.kind=5
 ·skip
  rw [zqo h1] at hm
  rw [zqo h2] at hm
  rw [zqo h3] at hm
  rw [zqo h4] at hm
  rw [zqp h5] at hm
  simp only [zqb] at hm
  have g1:=za8 hm.1
  have g2:=za8 hm.2
  have e0:=zam m.fErr
  have e1:=zam m.fNonce
  have hl:laidB m=wrapB 126 [intE m.fErr,intE m.fNonce].flatten:=by unfold laidB;rw [zqo h1,zqo h2,zqo h3,zqo h4]
  rw [hl,zdz _ _ (by simp only [zqk,zql,zqf,List.length_nil];omega)]
  show (zo8 (some [intE m.fErr,intE m.fNonce].flatten)).d=_
  simp only [zqk,zql]
  unfold zo8
  have w0:=zbu m.fErr (by omega) (by omega) (intE m.fNonce++[])
  have w1:=zbu m.fNonce (by omega) (by omega) []
  simp only [w0,w1]
  have z1:=zos (o1 (by omega))
  have z2:=zkg (o2 (by omega))
  have z3:=zkf (o3 (by omega))
  have z4:=zor (o4 (by omega))
  clear o1 o2 o3 o4 o5 hl hm h w0
  obtain ⟨kind,a1,a2,a3,a4,aTill,aNonce,t1,t2,tKv,tB,tBo,tAu,tAuo,t3,t4,tTill,tNonce,r1,r2,r3,r4,rKv,rB,rBo,rBl,rBlo,p1,p2,pKv,pB,pBo,pAu,pAuo,fErr,fNonce⟩:=m
  obtain ⟨y1_0,y1_1,y1_2,y1_3,y1_4,y1_5⟩:=z1
  obtain ⟨y2_0,y2_1,y2_2,y2_3,y2_4,y2_5,y2_6,y2_7,y2_8⟩:=z2
  obtain ⟨y3_0,y3_1,y3_2,y3_3,y3_4,y3_5,y3_6⟩:=z3
  obtain ⟨y4_0,y4_1,y4_2,y4_3,y4_4⟩:=z4
  simp only at *
  subst h5 y1_0 y1_1 y1_2 y1_3 y1_4 y1_5 y2_0 y2_1 y2_2 y2_3 y2_4 y2_5 y2_6 y2_7 y2_8 y3_0 y3_1 y3_2 y3_3 y3_4 y3_5 y3_6 y4_0 y4_1 y4_2 y4_3 y4_4
  rfl
 rw [zqo h1,zqo h2,zqo h3,zqo h4,zqo h5] at hm
 cases hm
set_option maxHeartbeats 2000000
theorem Upd.over {X Y:Nat→Prop} {H H1 H2:PH} (h:Upd X H H1) (k:Upd Y H1 H2) (hy:∀i,i<H.length→Y i→X i):Upd X H H2 :=
 ⟨Nat.le_trans h.1 k.1,fun i hi hx=>(k.2 i (Nat.lt_of_lt_of_le hi h.1) fun hY=>hx (hy i hi hY)).trans (h.2 i hi hx)⟩
theorem curAt.set_ne {H:PH} {c j:Nat} {s:Option (List UInt8)} (h:curAt H c s) (hj:j≠c) (o:PObj):curAt (H.set j o) c s:=by
 obtain ⟨x,v,h1,h2⟩:=h
 exact ⟨x,v,by rw [zqj hj];exact h1,h2⟩
theorem c158 (b:List UInt8) (tag:UInt8) (hb:b.length≤140737488355328) (H:PH):CK prog 158 [sl b,bC tag] H fun r H' =>
  ∃d,r=.agg [.ptr (some (d,0))]∧H.length≤d∧Upd (fun _=>False) H H'∧curAt H' d (elemC tag (some b)).2:=by
 (refine fnS (imm:=z0z) zb0 func158 ?_;(conv=>whnf))
 refine cO (c199 b hb _) ?_
 rintro _ _ ⟨rfl,rfl⟩
 conv=>whnf
 obtain ⟨H1,hH1⟩:∃H1,H1=H++[PObj.mk 279 [.ptr none] 0]:=⟨_,rfl⟩
 have hl1:H1.length=H.length+1:=by rw [hH1];simp
 have h0:H1[H.length]? = some ⟨279,[.ptr none],0⟩:=by rw [hH1];exact gL _ _
 have u1:Upd (fun _=>False) H H1:=by rw [hH1];exact (Upd.refl H).push _
 rw [←hH1]
 have hcur:curAt (H1++[PObj.mk 324 [sl b,.bool false] 0]) H1.length (some b):=⟨sl b,0,gL _ _,fun l hl=>by cases hl;rfl⟩
 refine cO (c200 H1.length tag (some b) (H1++[PObj.mk 324 [sl b,.bool false] 0]) hcur (fun l hl=>by cases hl;exact hb)) ?_
 rintro _ H2 ⟨d,rfl,k1,k2,k3,k4⟩
 have hl2:(H1++[PObj.mk 324 [sl b,.bool false] 0]).length=H.length+2:=by simp [hl1]
 have u2:Upd (fun _=>False) H (H1++[⟨324,[sl b,.bool false],0⟩]):=u1.push _
 have u3:Upd (fun _=>False) H H2:=u2.over k2 (fun i hi e=>by have e:i=H1.length:=e;omega)
 have hat:H2[H.length]? = some ⟨279,[.ptr none],0⟩:=by
  rw [k2.2 H.length (by omega) (fun e=>by have e:H.length=H1.length:=e;omega),zq2 (by omega)]
  exact h0
 conv=>whnf
 ((conv in (_[_]?)=>tactic=>exact hat);(conv=>whnf))
 ((conv in (_[_]?)=>tactic=>exact gS hat);(conv=>whnf))
 exact ⟨d,rfl,by omega,u3.set (.inr (zqn _)) _,k4.set_ne (by omega) _⟩
theorem c159 (d:Nat) (s:Option (List UInt8)) (H:PH) (hc:curAt H d s) (hl:∀l,s=some l→l.length≤140737488355328) :
  CK prog 159 [.agg [.ptr (some (d,0))]] H fun r H'=>r=.agg [.str (zac s).2.1,.str (zac s).2.2]∧Upd (·=d) H H'∧curAt H' d (zac s).1:=by
 have hd:=hc.lt
 have g0:=zar (tag:=48) hl
 have g1:∀l,(elemC 48 s).2=some l→l.length≤140737488355328:=fun l h=>(g0.2 l h).1
 have g2:=(zar (tag:=27) g1).1
 (refine fnS (imm:=z00) zb0 func159 ?_;(conv=>whnf))
 obtain ⟨H1,hH1⟩:∃H1,H1=H++[PObj.mk 30 [.str [],.str []] 0]:=⟨_,rfl⟩
 have hl1:H1.length=H.length+1:=by rw [hH1];simp
 have h0:H1[H.length]? = some ⟨30,[.str [],.str []],0⟩:=by rw [hH1];exact gL _ _
 have u1:Upd (·=d) H H1:=by rw [hH1];exact (Upd.refl H).push _
 have hc1:curAt H1 d s:=hc.keep (X:=fun _=>False) (by rw [hH1];exact (Upd.refl H).push _) (fun f=>f)
 rw [←hH1]
 refine cO (c200 d 48 s H1 hc1 hl) ?_
 rintro _ H2 ⟨e,rfl,k1,k2,k3,k4⟩
 conv=>whnf
 refine cO (c173 e _ H2 k4 g1) ?_
 rintro _ H3 ⟨rfl,k5,k6⟩
 conv=>whnf
 refine cO (c173 e _ H3 k6 g2) ?_
 rintro _ H4 ⟨rfl,k7,k8⟩
 have u4:Upd (fun i=>i=d∨i=e) H1 H4:=((k2.mono fun i _ h=>.inl h).trans (k5.mono fun i _ h=>.inr h)).trans (k7.mono fun i _ h=>.inr h)
 have hat:H4[H.length]? = some ⟨30,[.str [],.str []],0⟩:=by
  rw [u4.2 H.length (by omega) (fun h=>by rcases h with h | h <;> omega)]
  exact h0
 have u5:Upd (·=d) H H4:=u1.over u4 (fun i hi h=>by rcases h with h | h;exact h;omega)
 have hc4:curAt H4 d (elemC 48 s).1:=(k3.keep k5 (fun h=>by omega)).keep k7 (fun h=>by omega)
 conv=>whnf
 ((conv in (_[_]?)=>tactic=>exact hat);(conv=>whnf))
 ((conv in (_[_]?)=>tactic=>exact gS hat);(conv=>whnf))
 exact ⟨rfl,u5.set (.inr (zqn _)) _,hc4.set_ne (by omega) _⟩
theorem zph (k:Nat→UInt8):keyB k=(List.range 32).map k:=rfl
def D172:Draw:={ imp:=[3,4],win:=[(0,0,1),(4,1,1)] }
theorem zuv (x:List UInt8) (m:Nat) (hm:m=min 32 x.length):zaa 0 ((x.take m).map bC) (List.replicate 32 (.int .u8 0))=keyC (keyOf x):=by
 have hl:0+((x.take m).map bC).length≤(List.replicate 32 (PV.int .u8 0)).length:=by rw [zqq,zqr,List.length_replicate];omega
 rw [zj9,zph]
 apply List.ext_getElem?
 intro j
 rw [zbw _ _ _ hl,zqq,zqr,List.getElem?_map,List.getElem?_map,List.getElem?_map]
 by_cases h:j<32
 ·rw [List.getElem?_range h]
  by_cases h2:j<x.length
  ·rw [zqp (by omega),Nat.sub_zero,zqs,zqp (by omega),zqc h2]
   show some (bC x[j])=some (bC (x.getD j 0))
   rw [List.getD_eq_getElem?_getD,zqc h2];rfl
  ·rw [zqo (by omega),List.getElem?_replicate,zqp h]
   show some (PV.int .u8 0)=some (bC (x.getD j 0))
   rw [List.getD_eq_getElem?_getD,List.getElem?_eq_none (by omega)];rfl
 ·rw [zqo (by omega),List.getElem?_replicate,zqo h,List.getElem?_eq_none (by rw [List.length_range];omega)]
  rfl
theorem zpc {H:PH} {d:Nat} {o:PObj} (h:H[d]? = some o) (t:UInt8) (s:Option (List UInt8)) (v:Nat):curAt (H.set d (zdp t s v)) d (elemC t s).1:=by
 unfold zdp
 cases (elemC t s).1 with
 | none=>exact ⟨.nilS,v+2,gS h,fun l hl=>by cases hl⟩
 | some r=>exact ⟨sl r,v+1,gS h,fun l hl=>by cases hl;rfl⟩
theorem c172 (d:Nat) (s:Option (List UInt8)) (H:PH) (hc:curAt H d s) (hl:∀l,s=some l→l.length≤140737488355328) :
  CK prog 172 [.agg [.ptr (some (d,0))]] H fun r H'=>r=.agg (keyC (keyOf (octC s).2))∧Upd (·=d) H H'∧curAt H' d (octC s).1:=by
 have hd:=hc.lt
 obtain ⟨y,v,h0,hy⟩:=id hc
 obtain ⟨HA,hHA⟩:∃HA,HA=H++[PObj.mk 24 (List.replicate 32 (.int .u8 0)) 0]:=⟨_,rfl⟩
 obtain ⟨H1,hH1⟩:∃H1,H1=HA++[PObj.mk 24 (List.replicate 32 (.int .u8 0)) 1]:=⟨_,rfl⟩
 have hlA:HA.length=H.length+1:=by rw [hHA];simp
 have hl1:H1.length=H.length+2:=by rw [hH1];simp [hlA]
 have uA:Upd (·=d) H HA:=by rw [hHA];exact (Upd.refl H).push _
 have u1:Upd (·=d) H H1:=by rw [hH1];exact uA.push _
 have hc1:curAt H1 d s:=hc.keep (X:=fun _=>False) (by rw [hH1,hHA];exact ((Upd.refl H).push _).push _) (fun f=>f)
 have h1d:H1[d]? = some ⟨324,[y,.bool s.isNone],v⟩:=by
  rw [hH1,zq2 (by omega),hHA,zq2 hd];exact h0
 obtain ⟨H2,hH2⟩:∃H2,H2=H1.set d (zdp 4 s v):=⟨_,rfl⟩
 have hl2:H2.length=H.length+2:=by rw [hH2,List.length_set,hl1]
 have h2k:H2[HA.length]? = some ⟨24,List.replicate 32 (.int .u8 0),1⟩:=by
  rw [hH2,zqj (by omega),hH1];exact gL _ _
 have h2r:H2[H.length]? = some ⟨24,List.replicate 32 (.int .u8 0),0⟩:=by
  rw [hH2,zqj (by omega),hH1,zq2 (by omega),hHA];exact gL _ _
 obtain ⟨H3,hH3⟩:∃H3,H3=H2.set HA.length ⟨24,keyC (keyOf (octC s).2),2⟩:=⟨_,rfl⟩
 have h3k:H3[HA.length]? = some ⟨24,keyC (keyOf (octC s).2),2⟩:=by rw [hH3];exact gS h2k
 have h3r:H3[H.length]? = some ⟨24,List.replicate 32 (.int .u8 0),0⟩:=by rw [hH3,zqj (by omega)];exact h2r
 (refine fnS (imm:=z1e) zb0 func172 ?_;(conv=>whnf))
 ((conv in (_[_]?)=>tactic=>exact gL _ _);(conv=>whnf))
 refine dO2 D172 [H1,H2,H3] (by kernel_rfl) ?_ trivial ?_
 ·rw [hH1,hHA]
  exact (sL _ _ _).symm
 rw [←hHA]
 conv=>whnf
 refine ⟨.sref HA.length 0 32 32,⟨?_,?_⟩,?_⟩
 ·conv=>whnf
  exact ⟨⟨by decide,by decide,by decide⟩,fun _=>⟨rfl,rfl,zqv⟩,fun h=>absurd (show (0:Int)<32 by decide) h⟩
 ·conv=>whnf
  exact ⟨⟨by decide,by decide,by decide⟩,fun _=>⟨rfl,rfl,zqv⟩,fun h=>absurd (show (0:Int)<32 by decide) h⟩
 conv=>whnf
 iterate 2 (refine dS ?_;(conv=>whnf))
 refine ⟨_,cO (c162 d s H1 hc1 hl) (fun r H' ⟨k1,_,_,k4⟩=>⟨k1,(k4 _ _ h1d).trans hH2.symm,zqv⟩),?_⟩
 conv=>whnf
 apply exA
 ·conv=>whnf
  ((conv in (_[_]?)=>tactic=>exact h2k);(conv=>whnf))
  refine ⟨⟨by rw [zqq];exact (Nat.mul_one _).symm,zbr _,by decide⟩,rfl,?_,zqv⟩
  show H2.set HA.length ⟨24,zaa 0 (((octC s).2.map bC).take (min (octC s).2.length 32*1)) (List.replicate 32 (.int .u8 0)),2⟩=H3
  rw [hH3,Nat.mul_one,←List.map_take,zuv _ _ (Nat.min_comm _ _)]
 conv=>whnf
 ((conv in (_[_]?)=>tactic=>exact h3k);(conv=>whnf))
 ((conv in (_[_]?)=>tactic=>exact h3r);(conv=>whnf))
 ((conv in (_[_]?)=>tactic=>exact gS h3r);(conv=>whnf))
 refine ⟨rfl,?_,?_⟩
 ·have u2:Upd (·=d) H H2:=by rw [hH2];exact u1.set (.inl rfl) _
  have u3:Upd (·=d) H H3:=by rw [hH3];exact u2.set (.inr (by omega)) _
  exact u3.set (.inr (zqn _)) _
 ·have k2:curAt H2 d (octC s).1:=by rw [hH2];exact zpc h1d 4 s v
  have k3:curAt H3 d (octC s).1:=by rw [hH3];exact k2.set_ne (by omega) _
  exact k3.set_ne (by omega) _
theorem zon {ok:Bool} {b:List UInt8} (h:ok=true∧b.length≤2000):limV ok b=.tup [sl b,.int .i64 0]:=zqp h
theorem zep {ok:Bool} {b:List UInt8} (h:¬(ok=true∧b.length≤2000)):limV ok b=.tup [.slice 0 [] (some 5),.int .i64 1]:=zqo h
theorem c175 (p:Prt) (hr:p.r.length≤1000000) (hn:p.n.length≤1000000) (ht:p.tr.length≤1000000):Pure prog 175 [.agg p.cells] (encPV p):=by
 intro H
 have h1:=zaq p.r p.n
 have h2:=zah 4 (keyB p.k)
 have h3:=zah 27 p.tr
 have h4:=zam p.st
 have h5:=zam p.en
 have h6:=zhg p.k
 (refine fnS (imm:=z1h) zb0 func175 ?_;(conv=>whnf))
 refine dP2 (by kernel_rfl) ?_
 conv=>whnf
 iterate 2 (refine dS ?_;(conv=>whnf))
 refine ⟨_,cP (c64 p.r p.n (by omega) (by omega)) ⟨rfl,rfl,zqv⟩,?_⟩
 conv=>whnf
 cases f1:zap p.r p.n
 ·(refine dS ?_;(conv=>whnf))
  iterate 14 (refine dS ?_;(conv=>whnf))
  refine ⟨_,cP (c211 p.r p.n hr hn) ⟨rfl,rfl,zqv⟩,?_⟩
  conv=>whnf
  iterate 2 (refine dS ?_;(conv=>whnf))
  refine ⟨_,cP (c214p (keyB p.k) (by omega)) ⟨rfl,rfl,zqv⟩,?_⟩
  conv=>whnf
  iterate 2 (refine dS ?_;(conv=>whnf))
  refine ⟨_,cP (c220p p.tr (by omega)) ⟨rfl,rfl,zqv⟩,?_⟩
  conv=>whnf
  iterate 2 (refine dS ?_;(conv=>whnf))
  refine ⟨_,cP (c212 p.st) ⟨rfl,rfl,zqv⟩,?_⟩
  conv=>whnf
  iterate 2 (refine dS ?_;(conv=>whnf))
  refine ⟨_,cP (c212 p.en) ⟨rfl,rfl,zqv⟩,?_⟩
  conv=>whnf
  (refine dS ?_;(conv=>whnf))
  refine ⟨_,cP (c210p 99 [zan p.r p.n,wrapB 4 (keyB p.k),wrapB 27 p.tr,intE p.st,intE p.en] (by simp) (by simp only [zqk,zql,zqf,List.length_nil];omega)) ⟨rfl,rfl,zqv⟩,?_⟩
  conv=>whnf
  have hb:zao p=false:=by unfold zao;simp only [f1,zq6,zq5,zq3,zq4]
  refine ⟨_,cP ((c164 false (partL p)).of_eq (zep (fun h=>by cases h.1))) ⟨rfl,rfl,zqv⟩,?_⟩
  conv=>whnf
  iterate 4 (refine dS ?_;(conv=>whnf))
  exact ⟨(zf2 (fun h=>by rw [hb] at h;cases h.1)).symm,rfl⟩
 iterate 3 (refine dS ?_;(conv=>whnf))
 refine ⟨_,cP (c219 p.tr) ⟨rfl,rfl,zqv⟩,?_⟩
 conv=>whnf
 cases f2:zby p.tr
 ·(refine dS ?_;(conv=>whnf))
  iterate 10 (refine dS ?_;(conv=>whnf))
  refine ⟨_,cP (c211 p.r p.n hr hn) ⟨rfl,rfl,zqv⟩,?_⟩
  conv=>whnf
  iterate 2 (refine dS ?_;(conv=>whnf))
  refine ⟨_,cP (c214p (keyB p.k) (by omega)) ⟨rfl,rfl,zqv⟩,?_⟩
  conv=>whnf
  iterate 2 (refine dS ?_;(conv=>whnf))
  refine ⟨_,cP (c220p p.tr (by omega)) ⟨rfl,rfl,zqv⟩,?_⟩
  conv=>whnf
  iterate 2 (refine dS ?_;(conv=>whnf))
  refine ⟨_,cP (c212 p.st) ⟨rfl,rfl,zqv⟩,?_⟩
  conv=>whnf
  iterate 2 (refine dS ?_;(conv=>whnf))
  refine ⟨_,cP (c212 p.en) ⟨rfl,rfl,zqv⟩,?_⟩
  conv=>whnf
  (refine dS ?_;(conv=>whnf))
  refine ⟨_,cP (c210p 99 [zan p.r p.n,wrapB 4 (keyB p.k),wrapB 27 p.tr,intE p.st,intE p.en] (by simp) (by simp only [zqk,zql,zqf,List.length_nil];omega)) ⟨rfl,rfl,zqv⟩,?_⟩
  conv=>whnf
  have hb:zao p=false:=by unfold zao;simp only [f1,f2,zq6,zq5,zq3,zq4]
  refine ⟨_,cP ((c164 false (partL p)).of_eq (zep (fun h=>by cases h.1))) ⟨rfl,rfl,zqv⟩,?_⟩
  conv=>whnf
  iterate 4 (refine dS ?_;(conv=>whnf))
  exact ⟨(zf2 (fun h=>by rw [hb] at h;cases h.1)).symm,rfl⟩
 iterate 7 (refine dS ?_;(conv=>whnf))
 refine ⟨_,cP ((c204 [p.st,p.en] (by simp)).of_eq (show PV.bool (inZ p.st 0 1073741824&&(inZ p.en 0 1073741824&&true))=.bool (inZ p.st 0 1073741824&&inZ p.en 0 1073741824) by rw [zq6])) ⟨rfl,rfl,zqv⟩,?_⟩
 conv=>whnf
 cases f3:(inZ p.st 0 1073741824&&inZ p.en 0 1073741824)
 ·(refine dS ?_;(conv=>whnf))
  iterate 2 (refine dS ?_;(conv=>whnf))
  refine ⟨_,cP (c211 p.r p.n hr hn) ⟨rfl,rfl,zqv⟩,?_⟩
  conv=>whnf
  iterate 2 (refine dS ?_;(conv=>whnf))
  refine ⟨_,cP (c214p (keyB p.k) (by omega)) ⟨rfl,rfl,zqv⟩,?_⟩
  conv=>whnf
  iterate 2 (refine dS ?_;(conv=>whnf))
  refine ⟨_,cP (c220p p.tr (by omega)) ⟨rfl,rfl,zqv⟩,?_⟩
  conv=>whnf
  iterate 2 (refine dS ?_;(conv=>whnf))
  refine ⟨_,cP (c212 p.st) ⟨rfl,rfl,zqv⟩,?_⟩
  conv=>whnf
  iterate 2 (refine dS ?_;(conv=>whnf))
  refine ⟨_,cP (c212 p.en) ⟨rfl,rfl,zqv⟩,?_⟩
  conv=>whnf
  (refine dS ?_;(conv=>whnf))
  refine ⟨_,cP (c210p 99 [zan p.r p.n,wrapB 4 (keyB p.k),wrapB 27 p.tr,intE p.st,intE p.en] (by simp) (by simp only [zqk,zql,zqf,List.length_nil];omega)) ⟨rfl,rfl,zqv⟩,?_⟩
  conv=>whnf
  have hb:zao p=false:=by unfold zao;simp only [f1,f2,f3,zq6,zq5,zq3,zq4]
  refine ⟨_,cP ((c164 false (partL p)).of_eq (zep (fun h=>by cases h.1))) ⟨rfl,rfl,zqv⟩,?_⟩
  conv=>whnf
  iterate 4 (refine dS ?_;(conv=>whnf))
  exact ⟨(zf2 (fun h=>by rw [hb] at h;cases h.1)).symm,rfl⟩
 iterate 3 (refine dS ?_;(conv=>whnf))
 refine ⟨_,cP (c211 p.r p.n hr hn) ⟨rfl,rfl,zqv⟩,?_⟩
 conv=>whnf
 iterate 2 (refine dS ?_;(conv=>whnf))
 refine ⟨_,cP (c214p (keyB p.k) (by omega)) ⟨rfl,rfl,zqv⟩,?_⟩
 conv=>whnf
 iterate 2 (refine dS ?_;(conv=>whnf))
 refine ⟨_,cP (c220p p.tr (by omega)) ⟨rfl,rfl,zqv⟩,?_⟩
 conv=>whnf
 iterate 2 (refine dS ?_;(conv=>whnf))
 refine ⟨_,cP (c212 p.st) ⟨rfl,rfl,zqv⟩,?_⟩
 conv=>whnf
 iterate 2 (refine dS ?_;(conv=>whnf))
 refine ⟨_,cP (c212 p.en) ⟨rfl,rfl,zqv⟩,?_⟩
 conv=>whnf
 (refine dS ?_;(conv=>whnf))
 refine ⟨_,cP (c210p 99 [zan p.r p.n,wrapB 4 (keyB p.k),wrapB 27 p.tr,intE p.st,intE p.en] (by simp) (by simp only [zqk,zql,zqf,List.length_nil];omega)) ⟨rfl,rfl,zqv⟩,?_⟩
 conv=>whnf
 have hb:zao p=true:=by unfold zao;simp only [f1,f2,f3,zq6,zq5,zq3,zq4]
 by_cases hlen:(partL p).length≤2000
 ·have hlim:=zon (ok:=true) (b:=partL p) ⟨rfl,hlen⟩
  refine ⟨_,cP ((c164 true (partL p)).of_eq hlim) ⟨rfl,rfl,zqv⟩,?_⟩
  conv=>whnf
  iterate 4 (refine dS ?_;(conv=>whnf))
  exact ⟨(zlg ⟨hb,hlen⟩).symm,rfl⟩
 ·have hlim:=zep (ok:=true) (b:=partL p) (fun h=>hlen h.2)
  refine ⟨_,cP ((c164 true (partL p)).of_eq hlim) ⟨rfl,rfl,zqv⟩,?_⟩
  conv=>whnf
  iterate 4 (refine dS ?_;(conv=>whnf))
  exact ⟨(zf2 (fun h=>hlen h.2)).symm,rfl⟩
def zPrt:Prt:=⟨[],[],fun _=>0,[],0,0⟩
def okPrt (p:Prt) (b:List UInt8):Bool:=zao p&&(decide ((partL p).length≤2000)&&decide (partL p=b))
theorem zbk (H:PH) (o o':PObj):(H++[o]++[o'])[H.length]? = some o:=by
 rw [zq2 (by simp)];exact gL _ _
def agPV (p:Prt) (b:List UInt8):PV:=match okPrt p b with
 | true=>.tup [.agg p.cells,.int .i64 0]
 | false=>.tup [.agg zPrt.cells,.int .i64 2]
theorem zjs {p:Prt} {b:List UInt8} (h:okPrt p b=true):agPV p b=.tup [.agg p.cells,.int .i64 0]:=by unfold agPV;rw [h]
theorem zmk {p:Prt} {b:List UInt8} (h:okPrt p b=false):agPV p b=.tup [.agg zPrt.cells,.int .i64 2]:=by unfold agPV;rw [h]
theorem c174x (p:Prt) (b:List UInt8) (hr:p.r.length≤1000000) (hn:p.n.length≤1000000) (ht:p.tr.length≤1000000) (H:PH) :
  CK prog 174 [sl b,.agg p.cells,.func 175 [] []] H fun r H'=>r=agPV p b∧∃ext,H'=H++ext:=by
 (refine fnS (imm:=z1g) zb0 func174 ?_;(conv=>whnf))
 have e:∀{x:Bool},okPrt p b=x→agPV p b=match x with
  | true=>.tup [.agg p.cells,.int .i64 0]
  | false=>.tup [.agg zPrt.cells,.int .i64 2]:=fun h=>by unfold agPV;rw [h]
 by_cases hb:zao p=true∧(partL p).length≤2000
 ·refine cP ((c175 p hr hn ht).of_eq (zlg hb)) ?_
  conv=>whnf
  refine ⟨fun _=>?_,fun h=>absurd rfl h⟩
  conv=>whnf
  refine cP (c157 (partL p) b) ?_
  cases hq:decide (partL p=b)
  ·have hk:okPrt p b=false:=by unfold okPrt;rw [hq,zq3,zq3]
   rw [e hk]
   conv=>whnf
   ((conv in (_[_]?)=>tactic=>exact gL _ _);(conv=>whnf))
   ((conv in (_[_]?)=>tactic=>exact zbk _ _ _);(conv=>whnf))
   ((conv in (_[_]?)=>tactic=>exact gS (zbk _ _ _));(conv=>whnf))
   exact ⟨rfl,(((Ext.refl H).push _).push _).set (zqn _) _⟩
  ·have hk:okPrt p b=true:=by unfold okPrt;rw [hq,hb.1,zqe hb.2];rfl
   rw [e hk]
   conv=>whnf
   ((conv in (_[_]?)=>tactic=>exact zbk _ _ _);(conv=>whnf))
   ((conv in (_[_]?)=>tactic=>exact gS (zbk _ _ _));(conv=>whnf))
   exact ⟨rfl,(((Ext.refl H).push _).push _).set (zqn _) _⟩
 ·refine cP ((c175 p hr hn ht).of_eq (zf2 hb)) ?_
  have hk:okPrt p b=false:=by
   unfold okPrt
   cases h1:zao p
   ·rfl
   ·rw [zqd (fun h2=>hb ⟨h1,h2⟩)];rfl
  rw [e hk]
  conv=>whnf
  refine ⟨fun h=>absurd h (by decide),fun _=>?_⟩
  conv=>whnf
  ((conv in (_[_]?)=>tactic=>exact gL _ _);(conv=>whnf))
  ((conv in (_[_]?)=>tactic=>exact zbk _ _ _);(conv=>whnf))
  ((conv in (_[_]?)=>tactic=>exact gS (zbk _ _ _));(conv=>whnf))
  exact ⟨rfl,(((Ext.refl H).push _).push _).set (zqn _) _⟩
theorem c174 (p:Prt) (b:List UInt8) (hr:p.r.length≤1000000) (hn:p.n.length≤1000000) (ht:p.tr.length≤1000000):Pure prog 174 [sl b,.agg p.cells,.func 175 [] []] (agPV p b) :=
 Pure.of_gc (by unfold agPV;cases okPrt p b <;> rfl) (c174x p b hr hn ht)
structure DecS (T:Nat) (zc:List PV) (H K:PH) (a d q:Nat) (s:Option (List UInt8)) (cells:List PV) (ver:Nat):Prop where
 z:K[H.length]? = some ⟨T,zc,0⟩
 c:K[a]? = some ⟨279,[.ptr (some (d,0))],1⟩
 p:K[q]? = some ⟨T,cells,ver⟩
 cur:curAt K d s
 up:Upd (fun _=>False) H K
 o1:H.length<d
 o2:d<a
 o3:a<q
theorem DecS.call {T:Nat} {zc:List PV} {H K K':PH} {a d q:Nat} {s s':Option (List UInt8)} {cells:List PV} {ver:Nat} (h:DecS T zc H K a d q s cells ver) (u:Upd (·=d) K K') (c:curAt K' d s') :
  DecS T zc H K' a d q s' cells ver:=by
 have o1:=h.o1
 have o2:=h.o2
 have o3:=h.o3
 have lt:∀{i:Nat} {o:PObj},K[i]? = some o→i<K.length:=fun h=>(zq1.1 h).1
 refine ⟨(u.2 _ (lt h.z) (by omega)).trans h.z,(u.2 _ (lt h.c) (by omega)).trans h.c,(u.2 _ (lt h.p) (by omega)).trans h.p,c,h.up.over u (fun i hi e=>by omega),o1,o2,o3⟩
theorem DecS.store {T:Nat} {zc:List PV} {H K:PH} {a d q:Nat} {s:Option (List UInt8)} {cells:List PV} {ver:Nat} (h:DecS T zc H K a d q s cells ver) (cells':List PV) (ver':Nat) :
  DecS T zc H (K.set q ⟨T,cells',ver'⟩) a d q s cells' ver':=by
 have o1:=h.o1
 have o2:=h.o2
 have o3:=h.o3
 refine ⟨?_,?_,gS h.p,h.cur.set_ne (by omega) _,h.up.set (.inr (by omega)) _,o1,o2,o3⟩
 ·rw [zqj (by omega)];exact h.z
 ·rw [zqj (by omega)];exact h.c
theorem zhf {o:Option (List UInt8)} {B:Nat} (h:∀l,o=some l→l.length≤B∧l.length≤65535):(o.getD []).length≤65535:=by
 cases o with
 | none=>exact Nat.zero_le _
 | some l=>exact (h l rfl).2
theorem zld {T:Nat} {zc:List PV} {H H2:PH} {d:Nat} {s:Option (List UInt8)} (h1:(H++[PObj.mk T zc 0]).length≤d) (u:Upd (fun _=>False) (H++[PObj.mk T zc 0]) H2) (c:curAt H2 d s) :
  H.length<d∧d<H2.length∧((H2++[PObj.mk 279 [.ptr none] 0]).set H2.length (PObj.mk 279 [.ptr (some (d,0))] 1))[H.length]? = some ⟨T,zc,0⟩∧((H2++[PObj.mk 279 [.ptr none] 0]).set H2.length (PObj.mk 279 [.ptr (some (d,0))] 1))[H2.length]? = some ⟨279,[.ptr (some (d,0))],1⟩ ∧
   curAt ((H2++[PObj.mk 279 [.ptr none] 0]).set H2.length (PObj.mk 279 [.ptr (some (d,0))] 1)) d s∧Upd (fun _=>False) H ((H2++[PObj.mk 279 [.ptr none] 0]).set H2.length (PObj.mk 279 [.ptr (some (d,0))] 1)):=by
 have hl:=c.lt
 have h1:H.length+1≤d:=by simpa using h1
 rw [sL]
 refine ⟨h1,hl,?_,gL _ _,c.keep (X:=fun _=>False) ((Upd.refl H2).push _) (fun f=>f),?_⟩
 ·rw [zq2 (by omega),u.2 _ (by simp) (fun f=>f)];exact gL _ _
 ·exact (((Upd.refl H).push _).over u (fun i hi f=>f)).push _
theorem zn2 {T:Nat} {zc:List PV} {H K0 K:PH} {a d:Nat} {s:Option (List UInt8)} (o1:H.length<d) (o2:d<a) (hz:K0[H.length]? = some ⟨T,zc,0⟩) (hc:K0[a]? = some ⟨279,[.ptr (some (d,0))],1⟩)
  (up:Upd (fun _=>False) H K0) (u:Upd (·=d) K0 K) (c:curAt K d s) (cells:List PV) (ver:Nat):DecS T zc H ((K++[PObj.mk T zc 0]).set K.length ⟨T,cells,ver⟩) a d K.length s cells ver:=by
 rw [sL]
 have lt:∀{i:Nat} {o:PObj},K0[i]? = some o→i<K0.length:=fun h=>(zq1.1 h).1
 have l1:=lt hz
 have l2:=lt hc
 have l3:=u.1
 refine ⟨?_,?_,gL _ _,c.keep (X:=fun _=>False) ((Upd.refl K).push _) (fun f=>f),(up.over u (fun i hi e=>by omega)).push _,o1,o2,by omega⟩
 ·rw [zq2 (by omega),u.2 _ l1 (by omega)];exact hz
 ·rw [zq2 (by omega),u.2 _ l2 (by omega)];exact hc
theorem c132x (b:List UInt8) (hb:b.length≤140737488355328) (H:PH):CK prog 132 [sl b] H fun r H'=>r=agPV (partC b) b∧∃ext,H'=H++ext:=by
 (refine fnS (imm:=z0i) zb0 func132 ?_;(conv=>whnf))
 refine cO (c158 b 99 hb (H++[PObj.mk 33 zPrt.cells 0])) ?_
 rintro _ H2 ⟨d,rfl,k1,k2,k3⟩
 obtain ⟨o1,o2,e1,e2,e3,e4⟩:=zld k1 k2 k3
 have hs0:∀l,(elemC 99 (some b)).2=some l→l.length≤140737488355328:=fun l h=>((zar (tag:=99) (fun l h=>by cases h;exact hb)).2 l h).1
 show _
 unfold partC
 generalize (elemC 99 (some b)).2=s at hs0 k3 e3
 unfold partD
 have hs1:=(zar (tag:=48) hs0).1
 have hq:=(zar (tag:=48) hs0).2
 have hr:=zhf (zar (tag:=27) (fun l h=>(hq l h).1)).2
 have hn:=zhf (zar (tag:=27) (zar (tag:=27) (fun l h=>(hq l h).1)).1).2
 have hs2:=(zar (tag:=4) hs1).1
 have hs3:=(zar (tag:=27) hs2).1
 have ht:=zhf (zar (tag:=27) hs2).2
 have hs4:=ze7 hs3
 conv=>whnf
 ((conv in (_[_]?)=>tactic=>exact gL _ _);(conv=>whnf))
 ((conv in (_[_]?)=>tactic=>exact e2);(conv=>whnf))
 refine cO (c159 d s _ e3 hs0) ?_
 rintro _ K1 ⟨rfl,u1,g1⟩
 have D1:=zn2 o1 o2 e1 e2 e4 u1 g1 (Prt.mk (zac s).2.1 (zac s).2.2 (fun _=>0) [] 0 0).cells 1
 conv=>whnf
 ((conv in (_[_]?)=>tactic=>exact gL _ _);(conv=>whnf))
 ((conv in (_[_]?)=>tactic=>exact D1.c);(conv=>whnf))
 refine cO (c172 d _ _ D1.cur hs1) ?_
 rintro _ K2 ⟨rfl,u2,g2⟩
 have D2:=D1.call u2 g2
 conv=>whnf
 ((conv in (_[_]?)=>tactic=>exact D2.p);(conv=>whnf))
 have D3:=D2.store (Prt.mk (zac s).2.1 (zac s).2.2 (keyOf (octC (zac s).1).2) [] 0 0).cells 2
 ((conv in (_[_]?)=>tactic=>exact D3.c);(conv=>whnf))
 refine cO (c173 d _ _ D3.cur hs2) ?_
 rintro _ K4 ⟨rfl,u4,g4⟩
 have D4:=D3.call u4 g4
 conv=>whnf
 ((conv in (_[_]?)=>tactic=>exact D4.p);(conv=>whnf))
 have D5:=D4.store (Prt.mk (zac s).2.1 (zac s).2.2 (keyOf (octC (zac s).1).2) (txtC (octC (zac s).1).1).2 0 0).cells 3
 ((conv in (_[_]?)=>tactic=>exact D5.c);(conv=>whnf))
 refine cO (c160 d _ _ D5.cur hs3) ?_
 rintro _ K6 ⟨rfl,u6,g6⟩
 have D6:=D5.call u6 g6
 conv=>whnf
 ((conv in (_[_]?)=>tactic=>exact D6.p);(conv=>whnf))
 have D7:=D6.store (Prt.mk (zac s).2.1 (zac s).2.2 (keyOf (octC (zac s).1).2) (txtC (octC (zac s).1).1).2 (intC (txtC (octC (zac s).1).1).1).2 0).cells 4
 ((conv in (_[_]?)=>tactic=>exact D7.c);(conv=>whnf))
 refine cO (c160 d _ _ D7.cur hs4) ?_
 rintro _ K8 ⟨rfl,u8,g8⟩
 have D8:=D7.call u8 g8
 conv=>whnf
 ((conv in (_[_]?)=>tactic=>exact D8.p);(conv=>whnf))
 have D9:=D8.store (partD s).cells 5
 ((conv in (_[_]?)=>tactic=>exact D9.p);(conv=>whnf))
 refine cP (c174 (partD s) b (by unfold partD;exact Nat.le_trans hr (by decide)) (by unfold partD;exact Nat.le_trans hn (by decide)) (by unfold partD;exact Nat.le_trans ht (by decide))) ?_
 have hw:K8.length ≥ H.length:=by have:=D8.up.1;omega
 cases hk:okPrt (partD s) b
 ·rw [zmk hk]
  conv=>whnf
  ((conv in (_[_]?)=>tactic=>exact D9.z);(conv=>whnf))
  ((conv in (_[_]?)=>tactic=>exact gS D9.z);(conv=>whnf))
  refine ⟨(zmk hk).symm,?_⟩
  exact Upd.ext (D9.up.set (.inr (zqn _)) _)
 ·rw [zjs hk]
  conv=>whnf
  ((conv in (_[_]?)=>tactic=>exact D9.z);(conv=>whnf))
  ((conv in (_[_]?)=>tactic=>exact gS D9.z);(conv=>whnf))
  refine ⟨(zjs hk).symm,?_⟩
  exact Upd.ext (D9.up.set (.inr (zqn _)) _)
theorem c132 (b:List UInt8) (hb:b.length≤140737488355328):Pure prog 132 [sl b] (agPV (partC b) b):=Pure.of_gc (by unfold agPV;cases okPrt (partC b) b <;> rfl) (c132x b hb)
end Go.Proofs.Tryz
