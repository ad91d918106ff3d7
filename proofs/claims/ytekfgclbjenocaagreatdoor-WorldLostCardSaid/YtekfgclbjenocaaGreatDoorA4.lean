import Derived.Test.YtekfgclbjenocaaGreatDoorA3
import Derived.Test.YtekfgclbjenocaaGreatDoorA2
import Derived.Tactics
import Derived.Tactics2
import Derived.Defers
import Derived.Laws.Pointers
import Derived.Laws.LoneSync
import Derived.RegionTactic
import Derived.RegionCalls
import Derived.Shelf.GgClosure.StringsRunes
import Derived.WalkKit
set_option linter.all false
set_option maxRecDepth 100000
set_option maxHeartbeats 2000000
namespace Go.Proofs.Tryz
open Go Ps
def ttO:TT:=[(1,⟨.fn,1,8,[.nilF]⟩),(3,⟨.int .i64,1,8,[.int .i64 0]⟩),(4,⟨.bool,1,1,[.bool false]⟩),(5,⟨.int .u8,1,1,[.int .u8 0]⟩),(21,⟨.int .i32,1,4,[.int .i32 0]⟩),(31,⟨.slice 5,1,24,[.slice 0 [] (some 5)]⟩),(85,⟨.ptr,1,8,[.ptr none]⟩),(151,⟨.arr 16 5,16,16,List.replicate 16 (.int .u8 0)⟩),(226,⟨.int .u64,1,8,[.int .u64 0]⟩),(259,⟨.int .u64,1,8,[.int .u64 0]⟩),(243,⟨.int .u32,1,4,[.int .u32 0]⟩),(252,⟨.arr 27 243,27,108,List.replicate 27 (.int .u32 0)⟩),(245,⟨.strB [(81,0),(243,0)],1,4,[.int .u32 0]⟩),(247,⟨.strct [(21,0),(243,1)],2,8,[.int .i32 0,.int .u32 0]⟩),(249,⟨.strB [(242,0),(247,0)],2,8,[.int .i32 0,.int .u32 0]⟩),(251,⟨.strB [(242,0),(245,0),(249,1)],3,12,[.int .u32 0,.int .i32 0,.int .u32 0]⟩),(254,⟨.strct [(151,0),(251,16),(252,19),(245,46)],47,140,List.replicate 16 (.int .u8 0)++[.int .u32 0,.int .i32 0]++List.replicate 29 (.int .u32 0)⟩),(322,⟨.slice 243,1,24,[.slice 0 [] (some 243)]⟩),(327,⟨.arr 4 243,4,16,[.int .u32 0,.int .u32 0,.int .u32 0,.int .u32 0]⟩),(429,⟨.ptr,1,8,[.ptr none]⟩),(451,⟨.ptr,1,8,[.ptr none]⟩)]
theorem ttO_ok:ttOk prog ttO=true:=by kernel_rfl
def imm251:List Nat:=[]
def imm275:List Nat:=[]
def imm277:List Nat:=[]
def imm250:List Nat:=[]
def imm211:List Nat:=[]
def imm171:List Nat:=[]
def imm212:List Nat:=[]
def imm297:List Nat:=[]
def rot32S (k:Int):Int:=ibits .and .u64 (IntKind.u64.wrap k) 31
def rot32 (x k:Int):Int:=ibits .or .u32 (ishl .u32 x (rot32S k)) (ishr .u32 x (IntKind.u64.wrap (32 - rot32S k)))
def add32 (x y:Int):Int:=IntKind.u32.wrap (x+y)
def xor32 (x y:Int):Int:=ibits .xor .u32 x y
theorem c212 (x k:Int):Pure prog 212 [.int .u32 x,.int .i64 k] (.int .u32 (rot32 x k)):=by
 intro H
 (refine fnS (imm:=imm212) ttO_ok func212 ?_;(conv=>whnf))
 refine ⟨u64_nonneg _,?_⟩
 conv=>whnf
 refine ⟨u64_nonneg _,?_⟩
 conv=>whnf
 exact ⟨rfl,rfl⟩
def S4.O4 (s:S4) (v:Nat):PObj:=⟨327,[.int .u32 s.a,.int .u32 s.b,.int .u32 s.c,.int .u32 s.d],v⟩
def orB (x:Int) (c:UInt8) (s:Int):Int:=ibits .or .u32 x (ishl .u32 (IntKind.u32.wrap (c.toNat:Int)) s)
def wN (k:List UInt8):Nat→S4
 | 0=>⟨0,0,0,0⟩
 | i+1=>match i / 4 with
  | 0=>{ wN k i with a:=orB (wN k i).a (k.getD i 0) (8*((i % 4:Nat):Int)) }
  | 1=>{ wN k i with b:=orB (wN k i).b (k.getD i 0) (8*((i % 4:Nat):Int)) }
  | 2=>{ wN k i with c:=orB (wN k i).c (k.getD i 0) (8*((i % 4:Nat):Int)) }
  | _=>{ wN k i with d:=orB (wN k i).d (k.getD i 0) (8*((i % 4:Nat):Int)) }
def spN (k:List UInt8):Nat→S4
 | 0=>wN k 16
 | i+1=>⟨xor32 (rot32 (spN k i).a 3) (xor32 (add32 (spN k i).a (rot32 (spN k i).b (-8))) (IntKind.u32.wrap (i:Int))),(spN k i).c,(spN k i).d,xor32 (add32 (spN k i).a (rot32 (spN k i).b (-8))) (IntKind.u32.wrap (i:Int))⟩
def u32C (x:Int):PV:=.int .u32 x
def keyO (k:List UInt8) (d m s:Int) (l:List Int) (md:Int) (v:Nat):PObj:=⟨254,(k.map bC++[.int .u32 d,.int .i32 m,.int .u32 s])++l.map u32C++[.int .u32 md],v⟩
theorem setCells_mid (p q:List PV) (l:List Int) (i n:Nat) (x:Int) (hi:i<l.length) (e:n=p.length+i):setCells n [u32C x] (p++l.map u32C++q)=p++(l.set i x).map u32C++q:=by
 subst e
 rw [setCells_eq _ _ _ (by simp;omega)]
 have h1:(p++l.map u32C++q).take (p.length+i)=p++(l.take i).map u32C:=by
  rw [List.append_assoc,List.take_length_add_append,List.take_append_of_le_length (by rw [zqq];omega),List.map_take]
 have h2:(p++l.map u32C++q).drop (p.length+i+[u32C x].length)=(l.drop (i+1)).map u32C++q:=by
  rw [List.append_assoc,Nat.add_assoc,List.drop_length_add_append,List.drop_append_of_le_length (by rw [zqq];simp;omega),List.map_drop];rfl
 rw [h1,h2,List.set_eq_take_append_cons_drop,zqp hi,List.map_append,List.map_cons]
 simp
def D251_4:Draw:={ imp:=[12],win:=[] }
theorem S4.look4 (s:S4) (v:Nat) (H:PH):(H++[s.O4 v])[H.length]? = some ⟨327,[.int .u32 s.a,.int .u32 s.b,.int .u32 s.c,.int .u32 s.d],v⟩:=gL H _
structure MkS where
 i:Nat
 kv:Nat
 lid:Nat
 off:Nat
 cap:Nat
 ob:PObj
 K:PH
def spL (k:List UInt8) (l:List Int) (i:Nat):List Int:=(List.range i).map (fun j=>(spN k j).a)++l.drop i
theorem spL_len (k:List UInt8) (l:List Int) (i:Nat) (hl:l.length=27) (hi:i≤27):(spL k l i).length=27:=by
 unfold spL
 rw [zqf,zqq,List.length_range,List.length_drop];omega
theorem spL_set (k:List UInt8) (l:List Int) (i:Nat) (hl:l.length=27) (hi:i<27):(spL k l i).set i (spN k i).a=spL k l (i+1):=by
 unfold spL
 rw [List.set_append_right _ _ (by simp),zqq,List.length_range,Nat.sub_self,List.drop_eq_getElem_cons (by omega),List.set_cons_zero,List.range_succ,List.map_append,List.append_assoc]
 rfl
structure MkOk (k:List UInt8) (d m s md:Int) (l:List Int) (kid:Nat) (H:PH) (x:MkS):Prop where
 i:x.i≤27
 key:x.K[kid]? = some (keyO k d m s (spL k l x.i) md x.kv)
 ne:x.lid≠kid
 new:H.length≤x.lid
 lst:x.K[x.lid]? = some x.ob
 three:(x.ob.cs.drop x.off).take 3=[u32C (spN k x.i).b,u32C (spN k x.i).c,u32C (spN k x.i).d]
 room:x.off+x.cap≤x.ob.cs.length
 cap:3≤x.cap
 len:H.length≤x.K.length
 fr:∀j,j<H.length→j≠kid→x.K[j]? = H[j]?
def spW (k:List UInt8):List Int:=(List.range 27).map fun j=>(spN k j).a
theorem setCells_len (k:Nat) (xs cs:List PV) (h:k+xs.length≤cs.length):(setCells k xs cs).length=cs.length:=by
 rw [setCells_eq _ _ _ h]
 simp only [zqf,zqr,List.length_drop];omega
theorem slide (cs:List PV) (off:Nat) (b c d:PV) (r:List PV) (h:cs.drop off=b::c::d::r) (hr:off+4≤cs.length) (n:PV):((setCells (off+1+2) [n] cs).drop (off+1)).take 3=[c,d,n]:=by
 have hcs:cs=cs.take off++b::c::d::r:=by rw [←h,List.take_append_drop]
 have hp:(cs.take off).length=off:=by rw [zqr];omega
 generalize cs.take off=p at hcs hp
 subst hcs
 subst hp
 match r,hr with
 | [],hr=>simp at hr
 | e::r',_ =>
  rw [setCells_eq _ _ _ (by simp;omega)]
  have h1:(p++b::c::d::e::r').take (p.length+1+2)=p++[b,c,d]:=by
   rw [Nat.add_assoc,List.take_length_add_append];rfl
  rw [h1,List.append_assoc,List.append_assoc,List.drop_length_add_append]
  rfl
theorem c296 {H:PH} {id off:Nat} {o:PObj} {n:Int} (m:Int) (ho:H[id]? = some o) (hc:o.cs[off]? = some (.int .u32 n)) :
  CK prog 296 [.ptr (some (id,off)),.int .u32 m] H fun r H'=>r=.tup []∧H'=H.set id ⟨o.T,setCells off [.int .u32 m] o.cs,o.ver+1⟩ :=
 callOk_store func296 (by kernel_rfl) (by kernel_rfl) (by kernel_rfl) .u32 (by kernel_rfl) m ho hc
theorem c297:Pure prog 297 [.bool true] (.int .u32 1):=by
 intro H
 (refine fnS (imm:=imm297) ttO_ok func297 ?_;(conv=>whnf))
 exact ⟨rfl,rfl⟩
def D277:Draw:={ imp:=[5],win:=[] }
theorem c277 {H:PH} {id off:Nat} {o:PObj} {n:Int} (ho:H[id]? = some o) (hc:o.cs[off]? = some (.int .u32 n)) :
  CK prog 277 [.ptr (some (id,off)),.bool true] H fun r H'=>r=.tup []∧H'=H.set id ⟨o.T,setCells off [.int .u32 1] o.cs,o.ver+1⟩:=by
 (refine fnS (imm:=imm277) ttO_ok func277 ?_;(conv=>whnf))
 refine dO2 D277 [H,H.set id ⟨o.T,setCells off [.int .u32 1] o.cs,o.ver+1⟩] (by kernel_rfl) rfl trivial ?_
 conv=>whnf
 iterate 4 (refine dS ?_;(conv=>whnf))
 refine ⟨_,cP c297 ⟨rfl,rfl,zqv⟩,?_⟩
 conv=>whnf
 refine ⟨_,cO (c296 1 ho hc) (by rintro _ _ ⟨rfl,rfl⟩;exact ⟨rfl,rfl,zqv⟩),?_⟩
 conv=>whnf
 exact ⟨rfl,rfl⟩
theorem c251x (k:List UInt8) (hk:k.length=16) (d m s md:Int) (l:List Int) (hl:l.length=27) (v kid:Nat) (H:PH) (hid:H[kid]? = some (keyO k d m s l md v)) :
  CK prog 251 [.ptr (some (kid,0))] H fun r H'=>r=.tup []∧∃(K:PH) (kv:Nat),K[kid]? = some (keyO k d m s (spW k) md kv)∧H.length≤K.length∧(∀j,j<H.length→j≠kid→K[j]? = H[j]?)∧H'=K.set kid (keyO k d m s (spW k) 1 (kv+1)):=by
 obtain ⟨k0,k1,k2,k3,k4,k5,k6,k7,k8,k9,ka,kb,kc,kd,ke,kf,rfl⟩:=len16 hk
 have hlt:kid<H.length:=(zq1.1 hid).1
 (refine fnS (imm:=imm251) ttO_ok func251 ?_;(conv=>whnf))
 have hid1:(H++[(⟨327,[.int .u32 0,.int .u32 0,.int .u32 0,.int .u32 0],0⟩:PObj)])[kid]? = some (keyO [k0,k1,k2,k3,k4,k5,k6,k7,k8,k9,ka,kb,kc,kd,ke,kf] d m s l md v):=by rw [zq2 hlt];exact hid
 ((conv in (_[_]?)=>tactic=>exact hid1);(conv=>whnf))
 obtain ⟨kk,hkk⟩:∃kk:List UInt8,kk=[k0,k1,k2,k3,k4,k5,k6,k7,k8,k9,ka,kb,kc,kd,ke,kf]:=⟨_,rfl⟩
 refine lO Nat (fun x=>[(0,.ptr (some (kid,0))),(2,.ptr (some (H.length,0))),(12,.agg ([k0,k1,k2,k3,k4,k5,k6,k7,k8,k9,ka,kb,kc,kd,ke,kf].map bC)),(13,.int .i64 x)]) (fun x=>H++[(wN kk x).O4 x]) (fun x=>x≤16) (fun x=>16 - x) ⟨0,Nat.zero_le _,⟨rfl,rfl,rfl,rfl,zqv⟩,rfl⟩ ?_
 intro i hi
 match i,hi with
 | 0,_ =>
  conv=>whnf
  refine ⟨fun _=>?_,fun h=>absurd (show ((0:Nat):Int)<16 by decide) h⟩
  conv=>whnf
  refine ⟨⟨by decide,by decide⟩,?_⟩
  conv=>whnf
  generalize hz:wN kk 0=z
  refine dO2 D251_4 [H++[z.O4 0],H++[S4.O4 { z with a:=orB z.a k0 0 } 1]] (by kernel_rfl) rfl trivial ?_
  conv=>whnf
  (refine dS ?_;(conv=>whnf))
  iterate 2 (refine dZ ?_;(conv=>whnf))
  apply exA
  ·conv=>whnf
   ((conv in (_[_]?)=>tactic=>exact (z.look4 0 H));(conv=>whnf))
   exact ⟨rfl,rfl,zqv⟩
  conv=>whnf
  iterate 3 (refine dS ?_;(conv=>whnf))
  (refine dZ ?_;(conv=>whnf))
  (refine dS ?_;(conv=>whnf))
  (refine dZ ?_;(conv=>whnf))
  (refine dS ?_;(conv=>whnf))
  (refine dZ ?_;(conv=>whnf))
  apply exA
  ·conv=>whnf
   ((conv in (_[_]?)=>tactic=>exact (z.look4 0 H));(conv=>whnf))
   exact ⟨rfl,sL H _ _,zqv⟩
  conv=>whnf
  refine ⟨1,by decide,⟨rfl,rfl,rfl,rfl,zqv⟩,?_,by decide⟩
  subst hz hkk
  rfl
 | 1,_ =>
  conv=>whnf
  refine ⟨fun _=>?_,fun h=>absurd (show ((1:Nat):Int)<16 by decide) h⟩
  conv=>whnf
  refine ⟨⟨by decide,by decide⟩,?_⟩
  conv=>whnf
  generalize hz:wN kk 1=z
  refine dO2 D251_4 [H++[z.O4 1],H++[S4.O4 { z with a:=orB z.a k1 8 } 2]] (by kernel_rfl) rfl trivial ?_
  conv=>whnf
  (refine dS ?_;(conv=>whnf))
  iterate 2 (refine dZ ?_;(conv=>whnf))
  apply exA
  ·conv=>whnf
   ((conv in (_[_]?)=>tactic=>exact (z.look4 1 H));(conv=>whnf))
   exact ⟨rfl,rfl,zqv⟩
  conv=>whnf
  iterate 3 (refine dS ?_;(conv=>whnf))
  (refine dZ ?_;(conv=>whnf))
  (refine dS ?_;(conv=>whnf))
  (refine dZ ?_;(conv=>whnf))
  (refine dS ?_;(conv=>whnf))
  (refine dZ ?_;(conv=>whnf))
  apply exA
  ·conv=>whnf
   ((conv in (_[_]?)=>tactic=>exact (z.look4 1 H));(conv=>whnf))
   exact ⟨rfl,sL H _ _,zqv⟩
  conv=>whnf
  refine ⟨2,by decide,⟨rfl,rfl,rfl,rfl,zqv⟩,?_,by decide⟩
  subst hz hkk
  rfl
 | 2,_ =>
  conv=>whnf
  refine ⟨fun _=>?_,fun h=>absurd (show ((2:Nat):Int)<16 by decide) h⟩
  conv=>whnf
  refine ⟨⟨by decide,by decide⟩,?_⟩
  conv=>whnf
  generalize hz:wN kk 2=z
  refine dO2 D251_4 [H++[z.O4 2],H++[S4.O4 { z with a:=orB z.a k2 16 } 3]] (by kernel_rfl) rfl trivial ?_
  conv=>whnf
  (refine dS ?_;(conv=>whnf))
  iterate 2 (refine dZ ?_;(conv=>whnf))
  apply exA
  ·conv=>whnf
   ((conv in (_[_]?)=>tactic=>exact (z.look4 2 H));(conv=>whnf))
   exact ⟨rfl,rfl,zqv⟩
  conv=>whnf
  iterate 3 (refine dS ?_;(conv=>whnf))
  (refine dZ ?_;(conv=>whnf))
  (refine dS ?_;(conv=>whnf))
  (refine dZ ?_;(conv=>whnf))
  (refine dS ?_;(conv=>whnf))
  (refine dZ ?_;(conv=>whnf))
  apply exA
  ·conv=>whnf
   ((conv in (_[_]?)=>tactic=>exact (z.look4 2 H));(conv=>whnf))
   exact ⟨rfl,sL H _ _,zqv⟩
  conv=>whnf
  refine ⟨3,by decide,⟨rfl,rfl,rfl,rfl,zqv⟩,?_,by decide⟩
  subst hz hkk
  rfl
 | 3,_ =>
  conv=>whnf
  refine ⟨fun _=>?_,fun h=>absurd (show ((3:Nat):Int)<16 by decide) h⟩
  conv=>whnf
  refine ⟨⟨by decide,by decide⟩,?_⟩
  conv=>whnf
  generalize hz:wN kk 3=z
  refine dO2 D251_4 [H++[z.O4 3],H++[S4.O4 { z with a:=orB z.a k3 24 } 4]] (by kernel_rfl) rfl trivial ?_
  conv=>whnf
  (refine dS ?_;(conv=>whnf))
  iterate 2 (refine dZ ?_;(conv=>whnf))
  apply exA
  ·conv=>whnf
   ((conv in (_[_]?)=>tactic=>exact (z.look4 3 H));(conv=>whnf))
   exact ⟨rfl,rfl,zqv⟩
  conv=>whnf
  iterate 3 (refine dS ?_;(conv=>whnf))
  (refine dZ ?_;(conv=>whnf))
  (refine dS ?_;(conv=>whnf))
  (refine dZ ?_;(conv=>whnf))
  (refine dS ?_;(conv=>whnf))
  (refine dZ ?_;(conv=>whnf))
  apply exA
  ·conv=>whnf
   ((conv in (_[_]?)=>tactic=>exact (z.look4 3 H));(conv=>whnf))
   exact ⟨rfl,sL H _ _,zqv⟩
  conv=>whnf
  refine ⟨4,by decide,⟨rfl,rfl,rfl,rfl,zqv⟩,?_,by decide⟩
  subst hz hkk
  rfl
 | 4,_ =>
  conv=>whnf
  refine ⟨fun _=>?_,fun h=>absurd (show ((4:Nat):Int)<16 by decide) h⟩
  conv=>whnf
  refine ⟨⟨by decide,by decide⟩,?_⟩
  conv=>whnf
  generalize hz:wN kk 4=z
  refine dO2 D251_4 [H++[z.O4 4],H++[S4.O4 { z with b:=orB z.b k4 0 } 5]] (by kernel_rfl) rfl trivial ?_
  conv=>whnf
  (refine dS ?_;(conv=>whnf))
  iterate 2 (refine dZ ?_;(conv=>whnf))
  apply exA
  ·conv=>whnf
   ((conv in (_[_]?)=>tactic=>exact (z.look4 4 H));(conv=>whnf))
   exact ⟨rfl,rfl,zqv⟩
  conv=>whnf
  iterate 3 (refine dS ?_;(conv=>whnf))
  (refine dZ ?_;(conv=>whnf))
  (refine dS ?_;(conv=>whnf))
  (refine dZ ?_;(conv=>whnf))
  (refine dS ?_;(conv=>whnf))
  (refine dZ ?_;(conv=>whnf))
  apply exA
  ·conv=>whnf
   ((conv in (_[_]?)=>tactic=>exact (z.look4 4 H));(conv=>whnf))
   exact ⟨rfl,sL H _ _,zqv⟩
  conv=>whnf
  refine ⟨5,by decide,⟨rfl,rfl,rfl,rfl,zqv⟩,?_,by decide⟩
  subst hz hkk
  rfl
 | 5,_ =>
  conv=>whnf
  refine ⟨fun _=>?_,fun h=>absurd (show ((5:Nat):Int)<16 by decide) h⟩
  conv=>whnf
  refine ⟨⟨by decide,by decide⟩,?_⟩
  conv=>whnf
  generalize hz:wN kk 5=z
  refine dO2 D251_4 [H++[z.O4 5],H++[S4.O4 { z with b:=orB z.b k5 8 } 6]] (by kernel_rfl) rfl trivial ?_
  conv=>whnf
  (refine dS ?_;(conv=>whnf))
  iterate 2 (refine dZ ?_;(conv=>whnf))
  apply exA
  ·conv=>whnf
   ((conv in (_[_]?)=>tactic=>exact (z.look4 5 H));(conv=>whnf))
   exact ⟨rfl,rfl,zqv⟩
  conv=>whnf
  iterate 3 (refine dS ?_;(conv=>whnf))
  (refine dZ ?_;(conv=>whnf))
  (refine dS ?_;(conv=>whnf))
  (refine dZ ?_;(conv=>whnf))
  (refine dS ?_;(conv=>whnf))
  (refine dZ ?_;(conv=>whnf))
  apply exA
  ·conv=>whnf
   ((conv in (_[_]?)=>tactic=>exact (z.look4 5 H));(conv=>whnf))
   exact ⟨rfl,sL H _ _,zqv⟩
  conv=>whnf
  refine ⟨6,by decide,⟨rfl,rfl,rfl,rfl,zqv⟩,?_,by decide⟩
  subst hz hkk
  rfl
 | 6,_ =>
  conv=>whnf
  refine ⟨fun _=>?_,fun h=>absurd (show ((6:Nat):Int)<16 by decide) h⟩
  conv=>whnf
  refine ⟨⟨by decide,by decide⟩,?_⟩
  conv=>whnf
  generalize hz:wN kk 6=z
  refine dO2 D251_4 [H++[z.O4 6],H++[S4.O4 { z with b:=orB z.b k6 16 } 7]] (by kernel_rfl) rfl trivial ?_
  conv=>whnf
  (refine dS ?_;(conv=>whnf))
  iterate 2 (refine dZ ?_;(conv=>whnf))
  apply exA
  ·conv=>whnf
   ((conv in (_[_]?)=>tactic=>exact (z.look4 6 H));(conv=>whnf))
   exact ⟨rfl,rfl,zqv⟩
  conv=>whnf
  iterate 3 (refine dS ?_;(conv=>whnf))
  (refine dZ ?_;(conv=>whnf))
  (refine dS ?_;(conv=>whnf))
  (refine dZ ?_;(conv=>whnf))
  (refine dS ?_;(conv=>whnf))
  (refine dZ ?_;(conv=>whnf))
  apply exA
  ·conv=>whnf
   ((conv in (_[_]?)=>tactic=>exact (z.look4 6 H));(conv=>whnf))
   exact ⟨rfl,sL H _ _,zqv⟩
  conv=>whnf
  refine ⟨7,by decide,⟨rfl,rfl,rfl,rfl,zqv⟩,?_,by decide⟩
  subst hz hkk
  rfl
 | 7,_ =>
  conv=>whnf
  refine ⟨fun _=>?_,fun h=>absurd (show ((7:Nat):Int)<16 by decide) h⟩
  conv=>whnf
  refine ⟨⟨by decide,by decide⟩,?_⟩
  conv=>whnf
  generalize hz:wN kk 7=z
  refine dO2 D251_4 [H++[z.O4 7],H++[S4.O4 { z with b:=orB z.b k7 24 } 8]] (by kernel_rfl) rfl trivial ?_
  conv=>whnf
  (refine dS ?_;(conv=>whnf))
  iterate 2 (refine dZ ?_;(conv=>whnf))
  apply exA
  ·conv=>whnf
   ((conv in (_[_]?)=>tactic=>exact (z.look4 7 H));(conv=>whnf))
   exact ⟨rfl,rfl,zqv⟩
  conv=>whnf
  iterate 3 (refine dS ?_;(conv=>whnf))
  (refine dZ ?_;(conv=>whnf))
  (refine dS ?_;(conv=>whnf))
  (refine dZ ?_;(conv=>whnf))
  (refine dS ?_;(conv=>whnf))
  (refine dZ ?_;(conv=>whnf))
  apply exA
  ·conv=>whnf
   ((conv in (_[_]?)=>tactic=>exact (z.look4 7 H));(conv=>whnf))
   exact ⟨rfl,sL H _ _,zqv⟩
  conv=>whnf
  refine ⟨8,by decide,⟨rfl,rfl,rfl,rfl,zqv⟩,?_,by decide⟩
  subst hz hkk
  rfl
 | 8,_ =>
  conv=>whnf
  refine ⟨fun _=>?_,fun h=>absurd (show ((8:Nat):Int)<16 by decide) h⟩
  conv=>whnf
  refine ⟨⟨by decide,by decide⟩,?_⟩
  conv=>whnf
  generalize hz:wN kk 8=z
  refine dO2 D251_4 [H++[z.O4 8],H++[S4.O4 { z with c:=orB z.c k8 0 } 9]] (by kernel_rfl) rfl trivial ?_
  conv=>whnf
  (refine dS ?_;(conv=>whnf))
  iterate 2 (refine dZ ?_;(conv=>whnf))
  apply exA
  ·conv=>whnf
   ((conv in (_[_]?)=>tactic=>exact (z.look4 8 H));(conv=>whnf))
   exact ⟨rfl,rfl,zqv⟩
  conv=>whnf
  iterate 3 (refine dS ?_;(conv=>whnf))
  (refine dZ ?_;(conv=>whnf))
  (refine dS ?_;(conv=>whnf))
  (refine dZ ?_;(conv=>whnf))
  (refine dS ?_;(conv=>whnf))
  (refine dZ ?_;(conv=>whnf))
  apply exA
  ·conv=>whnf
   ((conv in (_[_]?)=>tactic=>exact (z.look4 8 H));(conv=>whnf))
   exact ⟨rfl,sL H _ _,zqv⟩
  conv=>whnf
  refine ⟨9,by decide,⟨rfl,rfl,rfl,rfl,zqv⟩,?_,by decide⟩
  subst hz hkk
  rfl
 | 9,_ =>
  conv=>whnf
  refine ⟨fun _=>?_,fun h=>absurd (show ((9:Nat):Int)<16 by decide) h⟩
  conv=>whnf
  refine ⟨⟨by decide,by decide⟩,?_⟩
  conv=>whnf
  generalize hz:wN kk 9=z
  refine dO2 D251_4 [H++[z.O4 9],H++[S4.O4 { z with c:=orB z.c k9 8 } 10]] (by kernel_rfl) rfl trivial ?_
  conv=>whnf
  (refine dS ?_;(conv=>whnf))
  iterate 2 (refine dZ ?_;(conv=>whnf))
  apply exA
  ·conv=>whnf
   ((conv in (_[_]?)=>tactic=>exact (z.look4 9 H));(conv=>whnf))
   exact ⟨rfl,rfl,zqv⟩
  conv=>whnf
  iterate 3 (refine dS ?_;(conv=>whnf))
  (refine dZ ?_;(conv=>whnf))
  (refine dS ?_;(conv=>whnf))
  (refine dZ ?_;(conv=>whnf))
  (refine dS ?_;(conv=>whnf))
  (refine dZ ?_;(conv=>whnf))
  apply exA
  ·conv=>whnf
   ((conv in (_[_]?)=>tactic=>exact (z.look4 9 H));(conv=>whnf))
   exact ⟨rfl,sL H _ _,zqv⟩
  conv=>whnf
  refine ⟨10,by decide,⟨rfl,rfl,rfl,rfl,zqv⟩,?_,by decide⟩
  subst hz hkk
  rfl
 | 10,_ =>
  conv=>whnf
  refine ⟨fun _=>?_,fun h=>absurd (show ((10:Nat):Int)<16 by decide) h⟩
  conv=>whnf
  refine ⟨⟨by decide,by decide⟩,?_⟩
  conv=>whnf
  generalize hz:wN kk 10=z
  refine dO2 D251_4 [H++[z.O4 10],H++[S4.O4 { z with c:=orB z.c ka 16 } 11]] (by kernel_rfl) rfl trivial ?_
  conv=>whnf
  (refine dS ?_;(conv=>whnf))
  iterate 2 (refine dZ ?_;(conv=>whnf))
  apply exA
  ·conv=>whnf
   ((conv in (_[_]?)=>tactic=>exact (z.look4 10 H));(conv=>whnf))
   exact ⟨rfl,rfl,zqv⟩
  conv=>whnf
  iterate 3 (refine dS ?_;(conv=>whnf))
  (refine dZ ?_;(conv=>whnf))
  (refine dS ?_;(conv=>whnf))
  (refine dZ ?_;(conv=>whnf))
  (refine dS ?_;(conv=>whnf))
  (refine dZ ?_;(conv=>whnf))
  apply exA
  ·conv=>whnf
   ((conv in (_[_]?)=>tactic=>exact (z.look4 10 H));(conv=>whnf))
   exact ⟨rfl,sL H _ _,zqv⟩
  conv=>whnf
  refine ⟨11,by decide,⟨rfl,rfl,rfl,rfl,zqv⟩,?_,by decide⟩
  subst hz hkk
  rfl
 | 11,_ =>
  conv=>whnf
  refine ⟨fun _=>?_,fun h=>absurd (show ((11:Nat):Int)<16 by decide) h⟩
  conv=>whnf
  refine ⟨⟨by decide,by decide⟩,?_⟩
  conv=>whnf
  generalize hz:wN kk 11=z
  refine dO2 D251_4 [H++[z.O4 11],H++[S4.O4 { z with c:=orB z.c kb 24 } 12]] (by kernel_rfl) rfl trivial ?_
  conv=>whnf
  (refine dS ?_;(conv=>whnf))
  iterate 2 (refine dZ ?_;(conv=>whnf))
  apply exA
  ·conv=>whnf
   ((conv in (_[_]?)=>tactic=>exact (z.look4 11 H));(conv=>whnf))
   exact ⟨rfl,rfl,zqv⟩
  conv=>whnf
  iterate 3 (refine dS ?_;(conv=>whnf))
  (refine dZ ?_;(conv=>whnf))
  (refine dS ?_;(conv=>whnf))
  (refine dZ ?_;(conv=>whnf))
  (refine dS ?_;(conv=>whnf))
  (refine dZ ?_;(conv=>whnf))
  apply exA
  ·conv=>whnf
   ((conv in (_[_]?)=>tactic=>exact (z.look4 11 H));(conv=>whnf))
   exact ⟨rfl,sL H _ _,zqv⟩
  conv=>whnf
  refine ⟨12,by decide,⟨rfl,rfl,rfl,rfl,zqv⟩,?_,by decide⟩
  subst hz hkk
  rfl
 | 12,_ =>
  conv=>whnf
  refine ⟨fun _=>?_,fun h=>absurd (show ((12:Nat):Int)<16 by decide) h⟩
  conv=>whnf
  refine ⟨⟨by decide,by decide⟩,?_⟩
  conv=>whnf
  generalize hz:wN kk 12=z
  refine dO2 D251_4 [H++[z.O4 12],H++[S4.O4 { z with d:=orB z.d kc 0 } 13]] (by kernel_rfl) rfl trivial ?_
  conv=>whnf
  (refine dS ?_;(conv=>whnf))
  iterate 2 (refine dZ ?_;(conv=>whnf))
  apply exA
  ·conv=>whnf
   ((conv in (_[_]?)=>tactic=>exact (z.look4 12 H));(conv=>whnf))
   exact ⟨rfl,rfl,zqv⟩
  conv=>whnf
  iterate 3 (refine dS ?_;(conv=>whnf))
  (refine dZ ?_;(conv=>whnf))
  (refine dS ?_;(conv=>whnf))
  (refine dZ ?_;(conv=>whnf))
  (refine dS ?_;(conv=>whnf))
  (refine dZ ?_;(conv=>whnf))
  apply exA
  ·conv=>whnf
   ((conv in (_[_]?)=>tactic=>exact (z.look4 12 H));(conv=>whnf))
   exact ⟨rfl,sL H _ _,zqv⟩
  conv=>whnf
  refine ⟨13,by decide,⟨rfl,rfl,rfl,rfl,zqv⟩,?_,by decide⟩
  subst hz hkk
  rfl
 | 13,_ =>
  conv=>whnf
  refine ⟨fun _=>?_,fun h=>absurd (show ((13:Nat):Int)<16 by decide) h⟩
  conv=>whnf
  refine ⟨⟨by decide,by decide⟩,?_⟩
  conv=>whnf
  generalize hz:wN kk 13=z
  refine dO2 D251_4 [H++[z.O4 13],H++[S4.O4 { z with d:=orB z.d kd 8 } 14]] (by kernel_rfl) rfl trivial ?_
  conv=>whnf
  (refine dS ?_;(conv=>whnf))
  iterate 2 (refine dZ ?_;(conv=>whnf))
  apply exA
  ·conv=>whnf
   ((conv in (_[_]?)=>tactic=>exact (z.look4 13 H));(conv=>whnf))
   exact ⟨rfl,rfl,zqv⟩
  conv=>whnf
  iterate 3 (refine dS ?_;(conv=>whnf))
  (refine dZ ?_;(conv=>whnf))
  (refine dS ?_;(conv=>whnf))
  (refine dZ ?_;(conv=>whnf))
  (refine dS ?_;(conv=>whnf))
  (refine dZ ?_;(conv=>whnf))
  apply exA
  ·conv=>whnf
   ((conv in (_[_]?)=>tactic=>exact (z.look4 13 H));(conv=>whnf))
   exact ⟨rfl,sL H _ _,zqv⟩
  conv=>whnf
  refine ⟨14,by decide,⟨rfl,rfl,rfl,rfl,zqv⟩,?_,by decide⟩
  subst hz hkk
  rfl
 | 14,_ =>
  conv=>whnf
  refine ⟨fun _=>?_,fun h=>absurd (show ((14:Nat):Int)<16 by decide) h⟩
  conv=>whnf
  refine ⟨⟨by decide,by decide⟩,?_⟩
  conv=>whnf
  generalize hz:wN kk 14=z
  refine dO2 D251_4 [H++[z.O4 14],H++[S4.O4 { z with d:=orB z.d ke 16 } 15]] (by kernel_rfl) rfl trivial ?_
  conv=>whnf
  (refine dS ?_;(conv=>whnf))
  iterate 2 (refine dZ ?_;(conv=>whnf))
  apply exA
  ·conv=>whnf
   ((conv in (_[_]?)=>tactic=>exact (z.look4 14 H));(conv=>whnf))
   exact ⟨rfl,rfl,zqv⟩
  conv=>whnf
  iterate 3 (refine dS ?_;(conv=>whnf))
  (refine dZ ?_;(conv=>whnf))
  (refine dS ?_;(conv=>whnf))
  (refine dZ ?_;(conv=>whnf))
  (refine dS ?_;(conv=>whnf))
  (refine dZ ?_;(conv=>whnf))
  apply exA
  ·conv=>whnf
   ((conv in (_[_]?)=>tactic=>exact (z.look4 14 H));(conv=>whnf))
   exact ⟨rfl,sL H _ _,zqv⟩
  conv=>whnf
  refine ⟨15,by decide,⟨rfl,rfl,rfl,rfl,zqv⟩,?_,by decide⟩
  subst hz hkk
  rfl
 | 15,_ =>
  conv=>whnf
  refine ⟨fun _=>?_,fun h=>absurd (show ((15:Nat):Int)<16 by decide) h⟩
  conv=>whnf
  refine ⟨⟨by decide,by decide⟩,?_⟩
  conv=>whnf
  generalize hz:wN kk 15=z
  refine dO2 D251_4 [H++[z.O4 15],H++[S4.O4 { z with d:=orB z.d kf 24 } 16]] (by kernel_rfl) rfl trivial ?_
  conv=>whnf
  (refine dS ?_;(conv=>whnf))
  iterate 2 (refine dZ ?_;(conv=>whnf))
  apply exA
  ·conv=>whnf
   ((conv in (_[_]?)=>tactic=>exact (z.look4 15 H));(conv=>whnf))
   exact ⟨rfl,rfl,zqv⟩
  conv=>whnf
  iterate 3 (refine dS ?_;(conv=>whnf))
  (refine dZ ?_;(conv=>whnf))
  (refine dS ?_;(conv=>whnf))
  (refine dZ ?_;(conv=>whnf))
  (refine dS ?_;(conv=>whnf))
  (refine dZ ?_;(conv=>whnf))
  apply exA
  ·conv=>whnf
   ((conv in (_[_]?)=>tactic=>exact (z.look4 15 H));(conv=>whnf))
   exact ⟨rfl,sL H _ _,zqv⟩
  conv=>whnf
  refine ⟨16,by decide,⟨rfl,rfl,rfl,rfl,zqv⟩,?_,by decide⟩
  subst hz hkk
  rfl
 | 16,_ =>
  conv=>whnf
  refine ⟨fun h=>absurd h (by decide),fun _=>?_⟩
  conv=>whnf
  refine dP2 (by kernel_rfl) ?_
  conv=>whnf
  apply exA
  ·conv=>whnf
   exact ⟨by decide,rfl,rfl,zqv⟩
  conv=>whnf
  apply exA
  ·conv=>whnf
   ((conv in (_[_]?)=>tactic=>exact ((wN kk 16).look4 16 H));(conv=>whnf))
   exact ⟨rfl,rfl,zqv⟩
  conv=>whnf
  apply exA
  ·conv=>whnf
   refine ⟨by decide,fun _=>?_,fun h=>absurd (show (1:Int)<4 by decide) h⟩
   conv=>whnf
   exact ⟨rfl,rfl,zqv⟩
  conv=>whnf
  iterate 2 (refine dS ?_;(conv=>whnf))
  subst hkk
  refine lO MkS (fun x=>[(0,.ptr (some (kid,0))),(5,.int .u32 (spN [k0,k1,k2,k3,k4,k5,k6,k7,k8,k9,ka,kb,kc,kd,ke,kf] x.i).a),(6,.sref x.lid x.off 3 x.cap),(33,.int .i64 x.i)]) (fun x=>x.K) (fun x=>MkOk [k0,k1,k2,k3,k4,k5,k6,k7,k8,k9,ka,kb,kc,kd,ke,kf] d m s md l kid H x) (fun x=>27 - x.i)
   ⟨⟨0,v,H.length,1,3,(wN [k0,k1,k2,k3,k4,k5,k6,k7,k8,k9,ka,kb,kc,kd,ke,kf] 16).O4 16,H++[(wN [k0,k1,k2,k3,k4,k5,k6,k7,k8,k9,ka,kb,kc,kd,ke,kf] 16).O4 16]⟩,⟨Nat.zero_le _,by rw [zq2 hlt];exact hid,by show H.length≠kid;omega,zqn _,gL H _,rfl,by show 1+3≤4;omega,by show 3≤3;omega,by simp,fun j hj _=>zq2 hj⟩,⟨rfl,rfl,rfl,rfl,zqv⟩,rfl⟩ ?_
  rintro x hx
  obtain ⟨i,kv,lid,off,cap,ob,K⟩:=x
  have hx:MkOk [k0,k1,k2,k3,k4,k5,k6,k7,k8,k9,ka,kb,kc,kd,ke,kf] d m s md l kid H ⟨i,kv,lid,off,cap,ob,K⟩:=hx
  have hi:i≤27:=hx.i
  have hKk:K[kid]? = some (keyO [k0,k1,k2,k3,k4,k5,k6,k7,k8,k9,ka,kb,kc,kd,ke,kf] d m s (spL [k0,k1,k2,k3,k4,k5,k6,k7,k8,k9,ka,kb,kc,kd,ke,kf] l i) md kv):=hx.key
  conv=>whnf
  refine ⟨fun h=>?_,fun h=>?_⟩
  ·have h:(i:Int)<27:=h
   have hspl:(spL [k0,k1,k2,k3,k4,k5,k6,k7,k8,k9,ka,kb,kc,kd,ke,kf] l i).length=27:=by rw [spL_len _ _ _ hl hi]
   conv=>whnf
   refine ⟨⟨by omega,h⟩,?_⟩
   conv=>whnf
   ((conv in (_[_]?)=>tactic=>exact hKk);(conv=>whnf))
   ((conv in (Nat.ble _ _)=>tactic=>exact (show Nat.ble (0+19+(i:Int).toNat*1+1) (([k0,k1,k2,k3,k4,k5,k6,k7,k8,k9,ka,kb,kc,kd,ke,kf].map bC++[PV.int .u32 d,PV.int .i32 m,PV.int .u32 s])++(spL [k0,k1,k2,k3,k4,k5,k6,k7,k8,k9,ka,kb,kc,kd,ke,kf] l i).map u32C++[PV.int .u32 md]).length=true by rw [Nat.ble_eq];simp [hspl];omega));(conv=>whnf))
   generalize hg:setH kid _ _ _=K1
   have hK1:K1=K.set kid (keyO [k0,k1,k2,k3,k4,k5,k6,k7,k8,k9,ka,kb,kc,kd,ke,kf] d m s (spL [k0,k1,k2,k3,k4,k5,k6,k7,k8,k9,ka,kb,kc,kd,ke,kf] l (i+1)) md (kv+1)):=by
    rw [←hg]
    show K.set kid ⟨254,setCells (0+19+(i:Int).toNat*1) [u32C (spN [k0,k1,k2,k3,k4,k5,k6,k7,k8,k9,ka,kb,kc,kd,ke,kf] i).a] (([k0,k1,k2,k3,k4,k5,k6,k7,k8,k9,ka,kb,kc,kd,ke,kf].map bC++[PV.int .u32 d,PV.int .i32 m,PV.int .u32 s])++(spL [k0,k1,k2,k3,k4,k5,k6,k7,k8,k9,ka,kb,kc,kd,ke,kf] l i).map u32C++[PV.int .u32 md]),kv+1⟩=_
    rw [setCells_mid _ _ _ i _ _ (by omega) (by simp),spL_set _ _ _ hl (by omega)]
    rfl
   have h1:K1[lid]? = some ob:=by rw [hK1,zqj (Ne.symm hx.ne)];exact hx.lst
   have hk1:K1[kid]? = some (keyO [k0,k1,k2,k3,k4,k5,k6,k7,k8,k9,ka,kb,kc,kd,ke,kf] d m s (spL [k0,k1,k2,k3,k4,k5,k6,k7,k8,k9,ka,kb,kc,kd,ke,kf] l (i+1)) md (kv+1)):=by rw [hK1];exact gS hKk
   have hl1:K1.length=K.length:=by rw [hK1,List.length_set]
   have ht:(ob.cs.drop off).take 3=[u32C (spN [k0,k1,k2,k3,k4,k5,k6,k7,k8,k9,ka,kb,kc,kd,ke,kf] i).b,u32C (spN [k0,k1,k2,k3,k4,k5,k6,k7,k8,k9,ka,kb,kc,kd,ke,kf] i).c,u32C (spN [k0,k1,k2,k3,k4,k5,k6,k7,k8,k9,ka,kb,kc,kd,ke,kf] i).d]:=hx.three
   have ht2:ob.cs.drop off=u32C (spN [k0,k1,k2,k3,k4,k5,k6,k7,k8,k9,ka,kb,kc,kd,ke,kf] i).b::u32C (spN [k0,k1,k2,k3,k4,k5,k6,k7,k8,k9,ka,kb,kc,kd,ke,kf] i).c::u32C (spN [k0,k1,k2,k3,k4,k5,k6,k7,k8,k9,ka,kb,kc,kd,ke,kf] i).d::(ob.cs.drop off).drop 3:=by
    conv=>lhs;rw [←List.take_append_drop 3 (ob.cs.drop off),ht]
    rfl
   clear hg
   conv=>whnf
   refine ⟨⟨by decide,by show (0:Int)<((3:Nat):Int);decide⟩,?_⟩
   conv=>whnf
   ((conv in (_[_]?)=>tactic=>exact h1);(conv=>whnf))
   ((conv in (dropN _ _)=>tactic=>exact ((dropN_eq _ _).trans ht2));(conv=>whnf))
   refine cP (c212 _ _) ?_
   conv=>whnf
   refine cP (c212 _ _) ?_
   conv=>whnf
   refine ⟨⟨by decide,by show (1:Int)≤((3:Nat):Int);decide,by show ((3:Nat):Int)≤((3:Nat):Int);decide⟩,fun _=>?_,fun h=>absurd (show (1:Int)<((3:Nat):Int) by decide) h⟩
   conv=>whnf
   ((conv in (_[_]?)=>tactic=>exact h1);(conv=>whnf))
   have hr1:off+cap≤ob.cs.length:=hx.room
   have hr2:3≤cap:=hx.cap
   have hlid:H.length≤lid:=hx.new
   have hlen:H.length≤K.length:=hx.len
   refine ⟨⟨by decide,rfl,rfl,by show off+1+2≤ob.cs.length;omega⟩,fun h4=>?_,fun h4 cap' hc=>?_⟩
   ·have h4:3≤cap - 1:=h4
    refine ⟨by show off+1+3≤ob.cs.length;omega,?_⟩
    conv=>whnf
    refine ⟨⟨i+1,kv+1,lid,off+1,cap - 1,⟨ob.T,setCells (off+1+2) [u32C (spN [k0,k1,k2,k3,k4,k5,k6,k7,k8,k9,ka,kb,kc,kd,ke,kf] (i+1)).d] ob.cs,ob.ver+1⟩,K1.set lid ⟨ob.T,setCells (off+1+2) [u32C (spN [k0,k1,k2,k3,k4,k5,k6,k7,k8,k9,ka,kb,kc,kd,ke,kf] (i+1)).d] ob.cs,ob.ver+1⟩⟩,⟨by show i+1≤27;omega,by rw [zqj hx.ne];exact hk1,hx.ne,hx.new,gS h1,slide ob.cs off _ _ _ _ ht2 (by omega) _,?_,by show 3≤cap - 1;omega,by show H.length≤(K1.set lid _).length;rw [List.length_set];omega,fun j hj hjk=>?_⟩,⟨rfl,rfl,rfl,?_,zqv⟩,rfl,by show 27 - (i+1)<27 - i;omega⟩
    ·show off+1+(cap - 1)≤(setCells _ _ _).length
     rw [setCells_len _ _ _ (by show off+1+2+1≤_;omega)];omega
    ·rw [zqj (by omega),hK1,zqj (Ne.symm hjk)]
     exact hx.fr j hj hjk
    ·show PV.int _ (IntKind.i64.wrap ((i:Int)+1))=PV.int _ _
     rw [w64 (by omega) (by omega)];simp
   ·have hc:3≤cap':=hc
    conv=>whnf
    have ht3:ob.cs.drop (off+1)=u32C (spN [k0,k1,k2,k3,k4,k5,k6,k7,k8,k9,ka,kb,kc,kd,ke,kf] i).c::u32C (spN [k0,k1,k2,k3,k4,k5,k6,k7,k8,k9,ka,kb,kc,kd,ke,kf] i).d::(ob.cs.drop off).drop 3:=by
     rw [←List.drop_drop,ht2];rfl
    have hcell:((ob.cs.drop (off+1)).take 2).map dem=[u32C (spN [k0,k1,k2,k3,k4,k5,k6,k7,k8,k9,ka,kb,kc,kd,ke,kf] i).c,u32C (spN [k0,k1,k2,k3,k4,k5,k6,k7,k8,k9,ka,kb,kc,kd,ke,kf] i).d]:=by rw [ht3];rfl
    refine ⟨⟨i+1,kv+1,K1.length,0,cap',⟨243,((ob.cs.drop (off+1)).take 2).map dem++[u32C (spN [k0,k1,k2,k3,k4,k5,k6,k7,k8,k9,ka,kb,kc,kd,ke,kf] (i+1)).d]++zerosOf [PV.int .u32 0] (cap' - 3),0⟩,K1++[⟨243,((ob.cs.drop (off+1)).take 2).map dem++[u32C (spN [k0,k1,k2,k3,k4,k5,k6,k7,k8,k9,ka,kb,kc,kd,ke,kf] (i+1)).d]++zerosOf [PV.int .u32 0] (cap' - 3),0⟩]⟩,⟨by show i+1≤27;omega,by rw [zq2 (zq1.1 hk1).1];exact hk1,by show K1.length≠kid;omega,by show H.length≤K1.length;omega,gL K1 _,?_,?_,hc,by show H.length≤(K1++[_]).length;rw [zqf];omega,fun j hj hjk=>?_⟩,⟨rfl,rfl,rfl,?_,zqv⟩,rfl,by show 27 - (i+1)<27 - i;omega⟩
    ·rw [hcell];rfl
    ·show 0+cap'≤(((ob.cs.drop (off+1)).take 2).map dem++[u32C (spN [k0,k1,k2,k3,k4,k5,k6,k7,k8,k9,ka,kb,kc,kd,ke,kf] (i+1)).d]++zerosOf [PV.int .u32 0] (cap' - 3)).length
     rw [hcell,zqf,(zerosOf_get (z:=[PV.int .u32 0]) (sz:=1) rfl (by omega) (cap' - 3)).1]
     show 0+cap'≤3+(cap' - 3)*1
     omega
    ·rw [zq2 (by omega),hK1,zqj (Ne.symm hjk)]
     exact hx.fr j hj hjk
    ·show PV.int _ (IntKind.i64.wrap ((i:Int)+1))=PV.int _ _
     rw [w64 (by omega) (by omega)];simp
  ·have h:¬(i:Int)<27:=h
   have e:i=27:=by omega
   subst e
   have hspl:spL [k0,k1,k2,k3,k4,k5,k6,k7,k8,k9,ka,kb,kc,kd,ke,kf] l 27=spW [k0,k1,k2,k3,k4,k5,k6,k7,k8,k9,ka,kb,kc,kd,ke,kf]:=by
    unfold spL spW
    rw [List.drop_of_length_le (by omega),List.append_nil]
   rw [hspl] at hKk
   conv=>whnf
   refine cO (c277 (o:=keyO [k0,k1,k2,k3,k4,k5,k6,k7,k8,k9,ka,kb,kc,kd,ke,kf] d m s (spW [k0,k1,k2,k3,k4,k5,k6,k7,k8,k9,ka,kb,kc,kd,ke,kf]) md kv) (n:=md) hKk rfl) ?_
   rintro _ _ ⟨rfl,rfl⟩
   conv=>whnf
   exact ⟨rfl,K,kv,hKk,hx.len,hx.fr,rfl⟩
 | j+17,hj=>exact absurd hj (by omega)
set_option maxHeartbeats 1000000
theorem keyO_flat (k:List UInt8) (d m s:Int) (l:List Int) (md:Int) (v:Nat):∀c∈(keyO k d m s l md v).cs,flatP c=true:=by
 intro c hc
 simp only [keyO,List.mem_append,List.mem_map,List.mem_cons,List.not_mem_nil,or_false] at hc
 rcases hc with ((⟨b,_,rfl⟩ | rfl | rfl | rfl) | ⟨x,_,rfl⟩) | rfl <;> rfl
theorem split_set {H K:PH} {kid:Nat} {o:PObj} (hlt:kid<H.length) (hl:H.length≤K.length) (hf:∀j,j<H.length→j≠kid→K[j]? = H[j]?):K.set kid o=H.set kid o++K.drop H.length:=by
 apply List.ext_getElem?
 intro j
 by_cases h:j<H.length
 ·rw [zq2 (by rw [List.length_set];exact h)]
  by_cases e:j=kid
  ·subst e
   rw [List.getElem?_set_self (by omega),List.getElem?_set_self h]
  ·rw [zqj (Ne.symm e),zqj (Ne.symm e)]
   exact hf j h e
 ·rw [zqi (by rw [List.length_set];omega),List.length_set,zqt,zqj (by omega)]
  congr 1;omega
theorem c251 (k:List UInt8) (hk:k.length=16) (d m s md:Int) (l:List Int) (hl:l.length=27) (v kid:Nat) (H:PH) (hid:H[kid]? = some (keyO k d m s l md v)) :
  CK prog 251 [.ptr (some (kid,0))] H fun r H'=>r=.tup []∧∃v',H'=H.set kid (keyO k d m s (spW k) 1 v'):=by
 have hlt:kid<H.length:=(zq1.1 hid).1
 refine CK.gcK (c251x k hk d m s md l hl v kid H hid) fun r H' hh=>?_
 obtain ⟨rfl,K,kv,h1,h2,h3,rfl⟩:=hh
 exact ⟨rfl,H.set kid (keyO k d m s (spW k) 1 (kv+1)),_,split_set hlt h2 h3,kept_set hlt fun c hc=>.inl (keyO_flat _ _ _ _ _ _ _ c hc),rfl,_,rfl⟩
def WordsOk:Prop:=∀(k:List UInt8) (hk:k.length=16) (kid:Nat) (H:PH),(∃v,H[kid]? = some (keyO k 0 0 0 (List.replicate 27 0) 0 v))∨(∃v,H[kid]? = some (keyO k 1 0 0 (spW k) 1 v)) →
 CK prog 211 [.ptr (some (kid,0))] H fun r H'=>r=.sref kid 19 27 27∧∃v',H'=H.set kid (keyO k 1 0 0 (spW k) 1 v')
def spR (w:Int) (p:Int×Int):Int×Int:=(xor32 (add32 (rot32 p.1 (-8)) p.2) w,xor32 (rot32 p.2 3) (xor32 (add32 (rot32 p.1 (-8)) p.2) w))
def spB (ws:List Int) (p:Int×Int):Int×Int:=ws.foldl (fun p w=>spR w p) p
theorem spB_snoc (ws:List Int) (w:Int) (p:Int×Int):spB (ws++[w]) p=spR w (spB ws p):=by unfold spB;rw [List.foldl_append];rfl
theorem spW_len (k:List UInt8):(spW k).length=27:=by unfold spW;simp
theorem c171 (hw:WordsOk) (k:List UInt8) (hk:k.length=16) (kid:Nat) (H:PH) (h0:(∃v,H[kid]? = some (keyO k 0 0 0 (List.replicate 27 0) 0 v))∨(∃v,H[kid]? = some (keyO k 1 0 0 (spW k) 1 v))) (x y:Int) :
  CK prog 171 [.ptr (some (kid,0)),.int .u32 x,.int .u32 y] H fun r H'=>r=.tup [.int .u32 (spB (spW k) (x,y)).1,.int .u32 (spB (spW k) (x,y)).2]∧∃v',H'=H.set kid (keyO k 1 0 0 (spW k) 1 v'):=by
 have hlt:kid<H.length:=by
  rcases h0 with ⟨v,h⟩ | ⟨v,h⟩ <;> exact (zq1.1 h).1
 (refine fnS (imm:=imm171) ttO_ok func171 ?_;(conv=>whnf))
 refine cO (hw k hk kid H h0) ?_
 rintro _ _ ⟨rfl,v',rfl⟩
 have hK:(H.set kid (keyO k 1 0 0 (spW k) 1 v'))[kid]? = some (keyO k 1 0 0 (spW k) 1 v'):=List.getElem?_set_self hlt
 generalize hKK:H.set kid (keyO k 1 0 0 (spW k) 1 v')=K at hK
 conv=>whnf
 refine lO Nat (fun i=>[(13,.sref kid 19 27 27),(14,.int .i64 27),(15,.int .i64 i),(1,.int .u32 (spB ((spW k).take i) (x,y)).1),(2,.int .u32 (spB ((spW k).take i) (x,y)).2)]) (fun _=>K) (fun i=>i≤27) (fun i=>27 - i) ⟨0,Nat.zero_le _,⟨rfl,rfl,rfl,rfl,rfl,zqv⟩,rfl⟩ ?_
 intro i hi
 conv=>whnf
 refine ⟨fun h=>?_,fun h=>?_⟩
 ·have h:(i:Int)<27:=h
  have hi':i<(spW k).length:=by rw [spW_len];omega
  conv=>whnf
  refine ⟨⟨by omega,by show (i:Int)<((27:Nat):Int);exact h⟩,?_⟩
  conv=>whnf
  ((conv in (_[_]?)=>tactic=>exact hK);(conv=>whnf))
  have hd:dropN (19+(i:Int).toNat*1) (keyO k 1 0 0 (spW k) 1 v').cs=u32C (spW k)[i]::(((spW k).drop (i+1)).map u32C++[u32C 1]):=by
   rw [dropN_eq]
   show ((k.map bC++[PV.int .u32 1,PV.int .i32 0,PV.int .u32 0])++(spW k).map u32C++[PV.int .u32 1]).drop _=_
   have e:19+(i:Int).toNat*1=(k.map bC++[PV.int .u32 1,PV.int .i32 0,PV.int .u32 0]).length+i:=by simp [hk]
   rw [e,List.append_assoc,List.drop_length_add_append,List.drop_append_of_le_length (by rw [zqq];omega),←List.map_drop,List.drop_eq_getElem_cons hi']
   rfl
  ((conv in (dropN _ _)=>tactic=>exact hd);(conv=>whnf))
  refine cP (c212 _ _) ?_
  conv=>whnf
  refine cP (c212 _ _) ?_
  conv=>whnf
  have et:spB ((spW k).take (i+1)) (x,y)=spR (spW k)[i] (spB ((spW k).take i) (x,y)):=by rw [List.take_succ_eq_append_getElem hi',spB_snoc]
  refine ⟨i+1,by omega,⟨rfl,rfl,?_,?_,?_,zqv⟩,rfl,by omega⟩
  ·show PV.int _ (IntKind.i64.wrap ((i:Int)+1))=PV.int _ _
   rw [w64 (by omega) (by omega)];simp
  ·rw [et];rfl
  ·rw [et];rfl
 ·have h:¬(i:Int)<27:=h
  have e:(spW k).take i=spW k:=List.take_of_length_le (by rw [spW_len];omega)
  rw [e]
  conv=>whnf
  exact ⟨rfl,v',hKK.symm⟩
def KeySt (k:List UInt8) (o:PObj):Prop:=(∃v,o=keyO k 0 0 0 (List.replicate 27 0) 0 v)∨(∃v,o=keyO k 1 0 0 (spW k) 1 v)
theorem KeySt.flat {k:List UInt8} {o:PObj} (h:KeySt k o):o.cs.all flatP=true:=by
 rcases h with ⟨v,rfl⟩ | ⟨v,rfl⟩ <;> exact List.all_eq_true.2 fun c hc=>keyO_flat _ _ _ _ _ _ _ c hc
def le4 (w:Int):List UInt8:=[byteI w,byteI (ishr .u32 w 8),byteI (ishr .u32 w 16),byteI (ishr .u32 w 24)]
def blkP (k:List UInt8) (nn:Int) (i:Nat):Int×Int:=spB (spW k) (IntKind.u32.wrap (ishr .u64 nn 32),add32 (IntKind.u32.wrap nn) i)
def strN (k:List UInt8) (nn:Int):Nat→List UInt8
 | 0=>[]
 | i+1=>strN k nn i++(le4 (blkP k nn i).1++le4 (blkP k nn i).2)
theorem strN_len (k:List UInt8) (nn:Int):∀i,(strN k nn i).length=8*i
 | 0=>rfl
 | i+1=>by
  show (strN k nn i++(le4 _++le4 _)).length=_
  rw [zqf,strN_len k nn i]
  show 8*i+8=_
  omega
def streamV (k:List UInt8) (nn:Int) (n:Nat):List UInt8:=(strN k nn ((n+7) / 8)).take n
theorem streamV_len (k:List UInt8) (nn:Int) (n:Nat):(streamV k nn n).length=n:=by
 unfold streamV
 rw [zqr,strN_len];omega
theorem le4_cells (w:Int):[PV.int .u8 (IntKind.u8.wrap w),.int .u8 (IntKind.u8.wrap (ishr .u32 w 8)),.int .u8 (IntKind.u8.wrap (ishr .u32 w 16)),.int .u8 (IntKind.u8.wrap (ishr .u32 w 24))]=(le4 w).map bC:=by
 rw [byteC_I,byteC_I,byteC_I,byteC_I];rfl
theorem ow_app' (a b:List UInt8) {n:Nat} (hn:n=b.length):PV.slice (a.length+n) (a.map bC++b.map bC) (some 5)=ow (a++b):=by subst hn;exact ow_app a b
structure StS where
 i:Nat
 o:PObj
theorem wrap32 {n:Nat} (h:n<4294967296):IntKind.u32.wrap (n:Int)=(n:Int):=by
 show (n:Int) % _=_
 have:(2 ^ IntKind.u32.bits:Int)=4294967296:=by decide
 rw [this];omega
set_option maxHeartbeats 1600000
open Go
theorem mDisable (w:World):(callFunc 322 #[]).run prog w=.ok (.value (.tuple #[])) w:=run_call_mark0 func322 (by kernel_rfl) (by kernel_rfl) (by kernel_rfl) .disable (by kernel_rfl) w
theorem mEnable (w:World):(callFunc 324 #[]).run prog w=.ok (.value (.tuple #[])) w:=run_call_mark0 func324 (by kernel_rfl) (by kernel_rfl) (by kernel_rfl) .enable (by kernel_rfl) w
theorem mAcquire (a:Addr) (w:World):(callFunc 325 #[.pointer (some a)]).run prog w=.ok (.value (.tuple #[])) w:=run_call_marked func325 (by kernel_rfl) (by kernel_rfl) (by kernel_rfl) .acquire (by kernel_rfl) a w
theorem mRelease (a:Addr) (w:World):(callFunc 327 #[.pointer (some a)]).run prog w=.ok (.value (.tuple #[])) w:=run_call_marked func327 (by kernel_rfl) (by kernel_rfl) (by kernel_rfl) .releaseMerge (by kernel_rfl) a w
theorem lock_free (a:Addr) (w:World) (hc:w.cell? a=some (.int .i32 0)) (hz:w.frozen? a=false) :
  Calls prog 294 #[.pointer (some a)] w fun e w'=>e=.returned (.tuple #[])∧w'=w.setCell a (.int .i32 1):=by
 have hd:=mDisable
 have he:=mEnable
 have ha:=mAcquire
 have hcas:=run_call_cas_hit (P:=prog) func323 (by kernel_rfl) (by kernel_rfl) (by kernel_rfl) .i32 (by kernel_rfl) (y:=1) hc hz
 have hc':(w.setCell a (.int .i32 1)).cell? a=some (.int .i32 1):=World.cell?_setCell_same w a _ hc
 have hcv:=run_convert_to_unsafe (P:=prog) (src:=468) (dst:=472) underlying468 underlying472 (by kernel_rfl) hc'
 go_enter func294,ntmps294
 go_wp2
 first | go_end0 | (simp only [Exit.inBlock,Exit.then];refine bodyPost_ret (results_none rfl _ _ _) rfl ?_) | refine bodyPost_ret (results_none rfl _ _ _) rfl ?_
 go_wp2
 go_end0
 exact ⟨rfl,rfl⟩
theorem unlock_deferred (a:Addr) (u:FrameMode) (w:World) (hc:w.cell? a=some (.int .i32 1)) (hz:w.frozen? a=false) :
  CallsD prog 295 #[.pointer (some a)] u w fun e u' w'=>u'=u∧(e=.returned (.tuple #[])∧w'=w.setCell a (.int .i32 0)):=by
 have hd:=mDisable
 have he:=mEnable
 have hr:=mRelease
 have hadd:=run_call_add (P:=prog) func328 (by kernel_rfl) (by kernel_rfl) (by kernel_rfl) .i32 (by kernel_rfl) (y:=-1) (s:=0) hc hz (by simp [go_sem];rfl)
 have hcv:=run_convert_to_unsafe (P:=prog) (src:=468) (dst:=472) underlying468 underlying472 (by kernel_rfl) hc
 go_enter_d func295,ntmps295
 go_wp2
 go_end0
 go_wp2
 go_end0
 exact ⟨rfl,rfl⟩
set_option maxHeartbeats 3000000
open Go Ps
theorem c207D {H:PH} {id off:Nat} {o:PObj} {n:Int} (ho:H[id]? = some o) (hc:o.cs[off]? = some (.int .u32 n)) :
  CallDOk prog 277 [.ptr (some (id,off)),.bool true] H fun r H'=>r=.tup []∧H'=H.set id ⟨o.T,setCells off [.int .u32 1] o.cs,o.ver+1⟩:=by
 refine callDOk_of_pFun2 (tt:=ttO) (imm:=imm277) follows ttO_ok depth6 func277 (by kernel_rfl) ?_
 conv=>whnf
 refine dO2 D277 [H,H.set id ⟨o.T,setCells off [.int .u32 1] o.cs,o.ver+1⟩] (by kernel_rfl) rfl trivial ?_
 conv=>whnf
 iterate 4 (refine dS ?_;(conv=>whnf))
 refine ⟨_,cP c297 ⟨rfl,rfl,zqv⟩,?_⟩
 conv=>whnf
 refine ⟨_,cO (c296 1 ho hc) (by rintro _ _ ⟨rfl,rfl⟩;exact ⟨rfl,rfl,zqv⟩),?_⟩
 conv=>whnf
 exact ⟨rfl,rfl⟩
theorem keyO_at (k:List UInt8) (hk:k.length=16) (d m s:Int) (l:List Int) (md:Int) (v:Nat):(keyO k d m s l md v).cs[16]? = some (.int .u32 d)∧(keyO k d m s l md v).cs[17]? = some (.int .i32 m):=by
 obtain ⟨k0,k1,k2,k3,k4,k5,k6,k7,k8,k9,ka,kb,kc,kd,ke,kf,rfl⟩:=len16 hk
 exact ⟨rfl,rfl⟩
theorem keyO_set16 (k:List UInt8) (hk:k.length=16) (d m s:Int) (l:List Int) (md:Int) (v:Nat) (x:Int):setCells 16 [.int .u32 x] (keyO k d m s l md v).cs=(keyO k x m s l md v).cs:=by
 obtain ⟨k0,k1,k2,k3,k4,k5,k6,k7,k8,k9,ka,kb,kc,kd,ke,kf,rfl⟩:=len16 hk
 rfl
theorem keyO_set17 (k:List UInt8) (hk:k.length=16) (d m s:Int) (l:List Int) (md:Int) (v:Nat) (x:Int):setCells 17 [.int .i32 x] (keyO k d m s l md v).cs=(keyO k d x s l md v).cs:=by
 obtain ⟨k0,k1,k2,k3,k4,k5,k6,k7,k8,k9,ka,kb,kc,kd,ke,kf,rfl⟩:=len16 hk
 rfl
theorem load_none (a:Addr) (w:World) (hc:w.cell? a=some (.int .u32 0)) :
  Calls prog 275 #[.pointer (some a)] w fun e w'=>e=.returned (.bool false)∧w'=w:=by
 have hl:=run_call_load (P:=prog) func293 (by kernel_rfl) (by kernel_rfl) (by kernel_rfl) .u32 (by kernel_rfl) (w:=w) (a:=a) (x:=0) hc
 go_enter func275,ntmps275
 go_wp2
 exact ⟨rfl,.bool false,by simp [results,f205,go_sem,Act.eval],rfl,rfl⟩
theorem c276 (k:List UInt8) (hk:k.length=16) (kid v:Nat) (H:PH) (hid:H[kid]? = some (keyO k 0 0 0 (List.replicate 27 0) 0 v)) :
  CK prog 276 [.ptr (some (kid,16)),.func 251 [.ptr (some (kid,0))] []] H fun r H'=>r=.tup []∧∃v',H'=H.set kid (keyO k 1 0 0 (spW k) 1 v'):=by
 intro g w vs hs hr
 obtain ⟨a,y,rfl,ha,hy⟩:=args2 hs hr.e
 obtain ⟨b,rfl,hι,hkd⟩:=(plain_of ha (by simp) (by simp)).inv_ptr
 obtain ⟨first,caps,rfl,e2,e3,e4,e5⟩:=(plain_of hy (by simp) (by simp)).inv_func
 have st0:=St.start hr
 obtain ⟨b1,q1,hd1,fd1,_⟩:=cell_at hr.h ha hid (keyO_at k hk 0 0 0 _ 0 v).1
 cases q1
 obtain ⟨b2,q2,hm1,fm1,hset1⟩:=cell_at hr.h ((V.ptr kid b 17 hι hkd).vc) hid (keyO_at k hk 0 0 0 _ 0 v).2
 cases q2
 have st1:St prog g w H g (w.setCell ⟨b,17,none⟩ (.int .i32 1)) _:=hset1 1 _ _ _ st0
 rw [keyO_set17 k hk] at st1
 obtain ⟨p,rfl⟩:∃p,first=#[p]:=by
  match first,e2 with
  | ⟨[p]⟩,_=>exact ⟨p,rfl⟩
 obtain rfl:caps=#[]:=Array.eq_empty_of_size_eq_zero e3
 have hp:V g w p (.ptr (some (kid,0))):=e4 0 _ rfl
 obtain ⟨b3,rfl,hι3,_⟩:=hp.inv_ptr
 rw [hι] at hι3
 cases hι3
 refine .inl ⟨run_callFunc_body func276 (by kernel_rfl) (by kernel_rfl),?_⟩
 have hd1':(w.setCell ⟨b,17,none⟩ (.int .i32 1)).cell? ⟨b,16,none⟩=some (.int .u32 0):=(World.cell?_setCell_other _ ⟨b,17,none⟩ ⟨b,16,none⟩ _ (by simp)).trans hd1
 have hid1:(H.set kid ⟨(keyO k 0 0 0 (List.replicate 27 0) 0 v).T,(keyO k 0 1 0 (List.replicate 27 0) 0 v).cs,(keyO k 0 0 0 (List.replicate 27 0) 0 v).ver+1⟩)[kid]? = some (keyO k 0 1 0 (List.replicate 27 0) 0 (v+1)):=gS hid
 have hmake:=St.call st1 func251 (by kernel_rfl) (by kernel_rfl) (c251 k hk 0 1 0 0 (List.replicate 27 0) rfl (v+1) kid _ hid1) (vs:=#[.pointer (some ⟨b,0,none⟩)]) rfl (fun j c hj=>by
  match j,hj with
  | 0,hj=>cases hj;exact .ptr kid b 0 hι (cell_kind hd1')
  | j+1,hj=>simp at hj)
 have hnot:∀(x:Bool) (w:World),(Op.unary .not (.bool x)).run prog w=.ok (.bool (!x)) w:=fun _ _=>rfl
 go_enter_defers func276,ntmps276
 go_wp2_with (go_at_call 294;refine (lock_free ⟨b,17,none⟩ _ hm1 fm1).mono ?_;rintro e w' ⟨rfl,rfl⟩)
 refine (load_none ⟨b,16,none⟩ _ hd1').mono ?_
 rintro e w' ⟨rfl,rfl⟩
 go_wp2_with (go_at_call 251;refine hmake.mono ?_;rintro e w' ⟨v',r,H2,g2,rfl,⟨rfl,v2,rfl⟩,st2,kp,hv2⟩)
 have hidk:((H.set kid ⟨(keyO k 0 0 0 (List.replicate 27 0) 0 v).T,(keyO k 0 1 0 (List.replicate 27 0) 0 v).cs,(keyO k 0 0 0 (List.replicate 27 0) 0 v).ver+1⟩).set kid (keyO k 0 1 0 (spW k) 1 v2))[kid]? = some (keyO k 0 1 0 (spW k) 1 v2):=gS hid1
 have hι2:g2.ι[kid]? = some (some b):=kp.ι kid b hι
 have hk2:=(kp.kind kid b hι).trans (cell_kind hd1')
 obtain ⟨hinv,hstore⟩:=St.callD st2 (c207D hidk (keyO_at k hk 0 1 0 (spW k) 1 v2).1) (vs:=#[.pointer (some ⟨b,16,none⟩),.bool true]) .returning rfl (fun j c hj=>by
  match j,hj with
  | 0,hj=>cases hj;exact .ptr kid b 16 hι2 hk2
  | 1,hj=>cases hj;exact .bool true
  | j+2,hj=>simp at hj)
 show Leaves prog f276 _ _ _ .returning w'
 refine leaves_cons (f:=277) (args:=#[.pointer (some ⟨b,16,none⟩),.bool true]) (by simp) (by simp [invoke,hinv]) ?_
 refine hstore.mono ?_
 rintro e u' w3 ⟨rfl,v3,r3,H3,g3,rfl,⟨rfl,rfl⟩,st3,kp3⟩
 rw [keyO_set16 k hk] at st3
 have hid3:=gS (o':=⟨(keyO k 0 1 0 (spW k) 1 v2).T,(keyO k 1 1 0 (spW k) 1 v2).cs,(keyO k 0 1 0 (spW k) 1 v2).ver+1⟩) hidk
 have hι3:g3.ι[kid]? = some (some b):=kp3.ι kid b hι2
 obtain ⟨b5,q5,hm3,fm3,hset3⟩:=cell_at st3.rel.h ((V.ptr kid b 17 hι3 ((kp3.kind kid b hι2).trans hk2)).vc) hid3 (keyO_at k hk 1 1 0 (spW k) 1 v2).2
 cases q5
 have st4:St prog g w H g3 (w3.setCell ⟨b,17,none⟩ (.int .i32 0)) _:=hset3 0 _ _ _ st3
 rw [show setCells 17 [PV.int .i32 0] (PObj.mk (keyO k 0 1 0 (spW k) 1 v2).T (keyO k 1 1 0 (spW k) 1 v2).cs ((keyO k 0 1 0 (spW k) 1 v2).ver+1)).cs=(keyO k 1 0 0 (spW k) 1 v2).cs from keyO_set17 k hk 1 1 0 (spW k) 1 v2 0] at st4
 refine leaves_cons (f:=295) (args:=#[.pointer (some ⟨b,17,none⟩)]) (by simp [settle]) (by
  have:=run_callFunc_body (P:=prog) (vs:=#[.pointer (some ⟨b,17,none⟩)]) (w:=w3) func295 (by kernel_rfl) (by kernel_rfl)
  simp [invoke,this]) ?_
 refine (unlock_deferred ⟨b,17,none⟩ _ _ hm3 fm3).mono ?_
 rintro e u' w4 ⟨rfl,rfl,rfl⟩
 obtain ⟨f1,f2,f3,f4⟩:=st4.fin
 refine ⟨.tuple #[],results_none rfl _ _ _,.tuple #[],.tup [],_,g3,rfl,⟨rfl,v2+1+1,?_⟩,f1,f2,f3,f4⟩
 rw [List.set_set,List.set_set,List.set_set]
 rfl
set_option maxHeartbeats 1000000
theorem c293 {H:PH} {id off:Nat} {o:PObj} {n:Int} (ho:H[id]? = some o) (hc:o.cs[off]? = some (.int .u32 n)) :
  CK prog 293 [.ptr (some (id,off))] H fun r H'=>r=.int .u32 n∧H'=H :=
 callOk_load func293 (by kernel_rfl) (by kernel_rfl) (by kernel_rfl) .u32 (by kernel_rfl) ho hc
theorem c275 {H:PH} {id off:Nat} {o:PObj} {n:Int} (ho:H[id]? = some o) (hc:o.cs[off]? = some (.int .u32 n)) :
  CK prog 275 [.ptr (some (id,off))] H fun r H'=>r=.bool (!decide (n=0))∧H'=H:=by
 (refine fnS (imm:=imm275) ttO_ok func275 ?_;(conv=>whnf))
 refine cO (c293 ho hc) ?_
 rintro _ _ ⟨rfl,rfl⟩
 conv=>whnf
 refine ⟨fun h=>?_,fun h=>?_⟩
 ·conv=>whnf
  have h:n=0:=h
  exact ⟨zqm PV.bool (by rw [zqe h];rfl),rfl⟩
 ·conv=>whnf
  have h:¬n=0:=h
  exact ⟨zqm PV.bool (by rw [zqd h];rfl),rfl⟩
theorem c250a (k:List UInt8) (hk:k.length=16) (kid v:Nat) (H:PH) (hid:H[kid]? = some (keyO k 0 0 0 (List.replicate 27 0) 0 v)) :
  CK prog 250 [.ptr (some (kid,16)),.func 251 [.ptr (some (kid,0))] []] H fun r H'=>r=.tup []∧∃v',H'=H.set kid (keyO k 1 0 0 (spW k) 1 v'):=by
 (refine fnS (imm:=imm250) ttO_ok func250 ?_;(conv=>whnf))
 refine cO (c275 hid (keyO_at k hk 0 0 0 _ 0 v).1) ?_
 rintro _ _ ⟨rfl,rfl⟩
 conv=>whnf
 refine cO (c276 k hk kid v _ hid) ?_
 rintro _ _ ⟨rfl,v',rfl⟩
 conv=>whnf
 exact ⟨rfl,v',rfl⟩
theorem c250b (k:List UInt8) (hk:k.length=16) (kid v:Nat) (H:PH) (hid:H[kid]? = some (keyO k 1 0 0 (spW k) 1 v)) :
  CK prog 250 [.ptr (some (kid,16)),.func 251 [.ptr (some (kid,0))] []] H fun r H'=>r=.tup []∧∃v',H'=H.set kid (keyO k 1 0 0 (spW k) 1 v'):=by
 (refine fnS (imm:=imm250) ttO_ok func250 ?_;(conv=>whnf))
 refine cO (c275 hid (keyO_at k hk 1 0 0 _ 1 v).1) ?_
 rintro _ _ ⟨rfl,rfl⟩
 conv=>whnf
 exact ⟨rfl,v,(set_self hid).symm⟩
theorem wordsOk:WordsOk:=by
 intro k hk kid H h0
 have hlt:kid<H.length:=by
  rcases h0 with ⟨v,h⟩ | ⟨v,h⟩ <;> exact (zq1.1 h).1
 have hc:CK prog 250 [.ptr (some (kid,16)),.func 251 [.ptr (some (kid,0))] []] H fun r H'=>r=.tup []∧∃v',H'=H.set kid (keyO k 1 0 0 (spW k) 1 v'):=by
  rcases h0 with ⟨v,h⟩ | ⟨v,h⟩
  ·exact c250a k hk kid v H h
  ·exact c250b k hk kid v H h
 (refine fnS (imm:=imm211) ttO_ok func211 ?_;(conv=>whnf))
 refine cO hc ?_
 rintro _ _ ⟨rfl,v',rfl⟩
 conv=>whnf
 refine ⟨by decide,fun _=>?_,fun h=>absurd (show (0:Int)<((27:Nat):Int) by decide) h⟩
 conv=>whnf
 exact ⟨rfl,v',rfl⟩
set_option maxHeartbeats 2000000
def ttQ2:TT:=[(3,⟨.int .i64,1,8,[.int .i64 0]⟩),(5,⟨.int .u8,1,1,[.int .u8 0]⟩),(31,⟨.slice 5,1,24,[.slice 0 [] (some 5)]⟩),(151,⟨.arr 16 5,16,16,List.replicate 16 (.int .u8 0)⟩),(226,⟨.int .u64,1,8,[.int .u64 0]⟩),(259,⟨.int .u64,1,8,[.int .u64 0]⟩),(243,⟨.int .u32,1,4,[.int .u32 0]⟩),(252,⟨.arr 27 243,27,108,List.replicate 27 (.int .u32 0)⟩),(322,⟨.slice 243,1,24,[.slice 0 [] (some 243)]⟩),(327,⟨.arr 4 243,4,16,[.int .u32 0,.int .u32 0,.int .u32 0,.int .u32 0]⟩)]
theorem ttQ2_ok:ttOk prog ttQ2=true:=by kernel_rfl
def imm173:List Nat:=[]
def imm174:List Nat:=[]
def imm131:List Nat:=[1]
def imm172:List Nat:=[3]
def imm130:List Nat:=[3]
def right32 (x n:Int):Int:=ibits .or .u32 (ishr .u32 x n) (ishl .u32 x (IntKind.u64.wrap (32 - n)))
def left32 (x n:Int):Int:=ibits .or .u32 (ishl .u32 x n) (ishr .u32 x (IntKind.u64.wrap (32 - n)))
theorem c173' (x n:Int) (hn:0≤n):Pure prog 173 [.int .u32 x,.int .u64 n] (.int .u32 (right32 x n)):=by
 intro H
 (refine fnS (imm:=imm173) ttQ2_ok func173 ?_;(conv=>whnf))
 refine ⟨hn,?_⟩
 conv=>whnf
 refine ⟨u64_nonneg _,?_⟩
 conv=>whnf
 exact ⟨rfl,rfl⟩
theorem c174' (x n:Int) (hn:0≤n):Pure prog 174 [.int .u32 x,.int .u64 n] (.int .u32 (left32 x n)):=by
 intro H
 (refine fnS (imm:=imm174) ttQ2_ok func174 ?_;(conv=>whnf))
 refine ⟨hn,?_⟩
 conv=>whnf
 refine ⟨u64_nonneg _,?_⟩
 conv=>whnf
 exact ⟨rfl,rfl⟩
theorem or_comm32 (x y:Int):ibits .or .u32 x y=ibits .or .u32 y x:=by
 show IntKind.u32.wrap _=IntKind.u32.wrap _
 rw [BitVec.or_comm]
theorem c173 (x:Int):Pure prog 173 [.int .u32 x,.int .u64 8] (.int .u32 (rot32 x (-8))) :=
 (c173' x 8 (by decide)).of_eq (zqm _ (by
  unfold rot32 right32
  rw [show rot32S (-8)=24 by decide,or_comm32]
  rfl))
theorem c174 (x:Int):Pure prog 174 [.int .u32 x,.int .u64 3] (.int .u32 (rot32 x 3)) :=
 (c174' x 3 (by decide)).of_eq (zqm _ (by
  unfold rot32 left32
  rw [show rot32S 3=3 by decide]))
theorem c172 (ws:List Int) (hws:ws.length=27) (x y:Int):Pure prog 172 [.agg (ws.map u32C),.int .u32 x,.int .u32 y] (.tup [.int .u32 (spB ws (x,y)).1,.int .u32 (spB ws (x,y)).2]):=by
 intro H
 (refine fnS (imm:=imm172) ttQ2_ok func172 ?_;(conv=>whnf))
 refine lO Nat (fun i=>[(3,.elem (ws.map u32C)),(1,.int .u32 (spB (ws.take i) (x,y)).1),(2,.int .u32 (spB (ws.take i) (x,y)).2),(8,.int .i64 i)]) (fun _=>H) (fun i=>i≤27) (fun i=>27 - i) ⟨0,Nat.zero_le _,⟨rfl,rfl,rfl,rfl,zqv⟩,rfl⟩ ?_
 intro i hi
 conv=>whnf
 refine ⟨fun h=>?_,fun h=>?_⟩
 ·have h:(i:Int)<27:=h
  have hi':i<ws.length:=by omega
  conv=>whnf
  refine dP2 (by kernel_rfl) ?_
  conv=>whnf
  (refine dS ?_;(conv=>whnf))
  refine ⟨_,cP (c173 _) ⟨rfl,rfl,zqv⟩,?_⟩
  conv=>whnf
  iterate 3 (refine dS ?_;(conv=>whnf))
  refine ⟨.elem [u32C ws[i]],⟨⟨by omega,by show (i:Int)<((27:Nat):Int);exact h⟩,[u32C ws[i]],at1' (k:=(i:Int).toNat*1) (by rw [Int.toNat_natCast,Nat.mul_one,List.getElem?_map,zqc hi'];rfl),rfl,rfl,zqv⟩,?_⟩
  conv=>whnf
  iterate 3 (refine dS ?_;(conv=>whnf))
  refine cP (c174 _) ?_
  conv=>whnf
  have et:spB (ws.take (i+1)) (x,y)=spR ws[i] (spB (ws.take i) (x,y)):=by rw [List.take_succ_eq_append_getElem hi',spB_snoc]
  refine ⟨i+1,by omega,⟨rfl,?_,?_,?_,zqv⟩,rfl,by omega⟩
  ·rw [et];rfl
  ·rw [et];rfl
  ·show PV.int _ (IntKind.i64.wrap ((i:Int)+1))=PV.int _ _
   rw [w64 (by omega) (by omega)];simp
 ·have h:¬(i:Int)<27:=h
  have e:ws.take i=ws:=List.take_of_length_le (by omega)
  rw [e]
  conv=>whnf
  exact ⟨rfl,rfl⟩
theorem agg27 (ws:List Int) (hws:ws.length=27):((dropN 0 (ws.map u32C)).take 27).map dem=ws.map u32C:=by
 rw [dropN_eq,List.drop_zero,List.take_of_length_le (by rw [zqq];omega),List.map_map]
 rfl
theorem c130 (k:List UInt8) (nn:Int) (n:Nat) (hn:n≤1000000):Pure prog 130 [.agg ((spW k).map u32C),.int .u64 nn,.int .i64 n] (sl (streamV k nn n)):=by
 intro H
 (refine fnS (imm:=imm130) ttQ2_ok func130 ?_;(conv=>whnf))
 refine lO Nat (fun i=>[(1,.int .u64 nn),(2,.int .i64 n),(3,.elem ((spW k).map u32C)),(7,ow (strN k nn i)),(8,.int .i64 i)]) (fun _=>H) (fun i=>i≤(n+7) / 8) (fun i=>(n+7) / 8 - i) ⟨0,Nat.zero_le _,⟨rfl,rfl,rfl,rfl,rfl,zqv⟩,rfl⟩ ?_
 intro i hi
 have hsl:=strN_len k nn i
 conv=>whnf
 refine ⟨fun h=>?_,fun h=>?_⟩
 ·have h:((strN k nn i).length:Int)<n:=h
  rw [hsl] at h
  conv=>whnf
  refine ⟨by decide,?_⟩
  conv=>whnf
  have eargs:[PV.agg (((dropN 0 ((spW k).map u32C)).take 27).map dem),PV.int .u32 (IntKind.u32.wrap (ishr .u64 nn 32)),PV.int .u32 (IntKind.u32.wrap (IntKind.u32.wrap nn+IntKind.u32.wrap (i:Int)))]=[.agg ((spW k).map u32C),.int .u32 (IntKind.u32.wrap (ishr .u64 nn 32)),.int .u32 (add32 (IntKind.u32.wrap nn) i)]:=by
   rw [agg27 _ (spW_len k),wrap32 (n:=i) (by omega)];rfl
  refine cA eargs (cP ((c172 (spW k) (spW_len k) _ _).of_eq (show _=PV.tup [.int .u32 (blkP k nn i).1,.int .u32 (blkP k nn i).2] from rfl)) ?_)
  conv=>whnf
  generalize hx:(blkP k nn i).1=x
  generalize hy:(blkP k nn i).2=y
  refine ⟨by decide,?_⟩
  conv=>whnf
  refine ⟨by decide,?_⟩
  conv=>whnf
  refine ⟨by decide,?_⟩
  conv=>whnf
  refine ⟨by decide,?_⟩
  conv=>whnf
  refine ⟨by decide,?_⟩
  conv=>whnf
  refine ⟨by decide,?_⟩
  conv=>whnf
  refine ⟨⟨by show ((strN k nn i).length+8)*1≤_;omega,rfl,rfl⟩,?_⟩
  conv=>whnf
  refine ⟨i+1,by omega,⟨rfl,rfl,rfl,?_,?_,zqv⟩,rfl,by omega⟩
  ·have e8:[PV.int .u8 (IntKind.u8.wrap x),.int .u8 (IntKind.u8.wrap (ishr .u32 x 8)),.int .u8 (IntKind.u8.wrap (ishr .u32 x 16)),.int .u8 (IntKind.u8.wrap (ishr .u32 x 24)),.int .u8 (IntKind.u8.wrap y),.int .u8 (IntKind.u8.wrap (ishr .u32 y 8)),.int .u8 (IntKind.u8.wrap (ishr .u32 y 16)),.int .u8 (IntKind.u8.wrap (ishr .u32 y 24))]=(le4 x++le4 y).map bC:=by
    rw [List.map_append,←le4_cells,←le4_cells];rfl
   show PV.slice ((strN k nn i).length+8) ((strN k nn i).map bC++[PV.int .u8 (IntKind.u8.wrap x),.int .u8 (IntKind.u8.wrap (ishr .u32 x 8)),.int .u8 (IntKind.u8.wrap (ishr .u32 x 16)),.int .u8 (IntKind.u8.wrap (ishr .u32 x 24)),.int .u8 (IntKind.u8.wrap y),.int .u8 (IntKind.u8.wrap (ishr .u32 y 8)),.int .u8 (IntKind.u8.wrap (ishr .u32 y 16)),.int .u8 (IntKind.u8.wrap (ishr .u32 y 24))]) (some 5)=_
   rw [e8,ow_app' _ (le4 x++le4 y) (n:=8) rfl]
   subst hx hy
   rfl
  ·show PV.int _ (IntKind.i64.wrap ((i:Int)+1))=PV.int _ _
   rw [w64 (by omega) (by omega)];simp
 ·have h:¬((strN k nn i).length:Int)<n:=h
  rw [hsl] at h
  have e:i=(n+7) / 8:=by omega
  conv=>whnf
  have hmax:max (n:Int) 0=(n:Int):=by omega
  refine ⟨⟨by decide,by rw [hmax];omega,by rw [hmax];omega⟩,?_⟩
  conv=>whnf
  refine ⟨?_,rfl⟩
  have ec:=sl_cut2 (strN k nn i) 0 n ⟨by omega,by omega,by omega⟩
  show PV.slice ((max (n:Int) 0).toNat - (0:Int).toNat) ((((strN k nn i).map bC).take ((max (n:Int) 0).toNat*1)).drop ((0:Int).toNat*1)) none=_
  rw [hmax]
  refine ec.trans ?_
  rw [Int.toNat_natCast,e]
  rfl
set_option maxHeartbeats 4000000
def D131_5:Draw:={ imp:=[17],win:=[] }
def D131_12:Draw:={ cons:=[(14,[6]),(15,[57])],imp:=[],win:=[],fs:=[(0,14,.slot 6)],looks:=[(0,6)] }
def D131_13:Draw:={ imp:=[13],win:=[] }
def z27:List Int:=List.replicate 27 0
theorem spN_c (k:List UInt8) (i:Nat):(spN k i).c=(spN k (i+1)).b:=by rw [spN]
theorem spN_d' (k:List UInt8) (i:Nat):(spN k i).d=(spN k (i+1)).c:=by rw [spN]
theorem spN_d (k:List UInt8) (i:Nat):(spN k i).d=(spN k (i+2)).b:=by rw [spN_d',spN_c]
theorem spN_next (k:List UInt8) (i:Nat):(spN k (i+1)).d=xor32 (add32 (spN k i).a (rot32 (spN k i).b (-8))) (IntKind.u32.wrap (i:Int)):=by rw [spN]
theorem spN_a (k:List UInt8) (i:Nat):(spN k (i+1)).a=xor32 (rot32 (spN k i).a 3) (spN k (i+1)).d:=by rw [spN]
def spL2 (k:List UInt8) (i:Nat):List Int:=(List.range (i+3)).map fun j=>(spN k j).b
theorem spN_zero (k:List UInt8):spN k 0=wN k 16:=by rw [spN]
theorem spL2_zero (k:List UInt8):spL2 k 0=[(wN k 16).b,(wN k 16).c,(wN k 16).d]:=by
 rw [←spN_zero,spN_c,spN_d]
 generalize hb:(fun j=>(spN k j).b)=f
 have e:∀j,(spN k j).b=f j:=fun j=>by rw [←hb]
 unfold spL2
 rw [hb,e,e,e]
 rfl
theorem spL_one (k:List UInt8):spL k z27 (0+1)=(wN k 16).a::z27.drop 1:=by
 rw [←spN_zero]
 generalize hb:(fun j=>(spN k j).a)=f
 have e:(spN k 0).a=f 0:=by rw [←hb]
 unfold spL
 rw [hb,e]
 rfl
theorem spL2_len (k:List UInt8) (i:Nat):(spL2 k i).length=i+3:=by unfold spL2;simp
theorem spL2_get (k:List UInt8) (i j:Nat) (h:j<i+3):(spL2 k i)[j]? = some (spN k j).b:=by
 unfold spL2
 rw [List.getElem?_map,List.getElem?_range h];rfl
theorem spL2_succ (k:List UInt8) (i:Nat):spL2 k (i+1)=spL2 k i++[(spN k (i+3)).b]:=by
 unfold spL2
 rw [show i+1+3=(i+3)+1 by omega,List.range_succ,List.map_append];rfl
theorem spL_at (k:List UInt8) (i j:Nat) (hi:i≤27) (h:j<i):(spL k z27 i)[j]? = some (spN k j).a:=by
 unfold spL
 rw [zq2 (by simp;omega),List.getElem?_map,List.getElem?_range h];rfl
theorem drop_u32 {l:List Int} {j:Nat} {x:Int} (h:l[j]? = some x):∃r,dropN (0+(j:Int).toNat*1) (l.map u32C)=u32C x::r:=by
 have hlt:=(zq1.1 h).1
 refine ⟨(l.drop (j+1)).map u32C,?_⟩
 rw [dropN_eq,Int.toNat_natCast,Nat.mul_one,Nat.zero_add,←List.map_drop,List.drop_eq_getElem_cons hlt,(zq1.1 h).2];rfl
theorem ext_of {H K:PH} (hl:H.length≤K.length) (hf:∀j,j<H.length→K[j]? = H[j]?):∃ext,K=H++ext:=⟨K.drop H.length,List.ext_getElem? fun j=>by
 by_cases h:j<H.length
 ·rw [zq2 h];exact hf j h
 ·rw [zqi (by omega),zqt]
  congr 1;omega⟩
theorem c131x (k:List UInt8) (hk:k.length=16) (H:PH):CK prog 131 [.agg (k.map bC)] H fun r H'=>r=.agg ((spW k).map u32C)∧∃ext,H'=H++ext:=by
 obtain ⟨k0,k1,k2,k3,k4,k5,k6,k7,k8,k9,ka,kb,kc,kd,ke,kf,rfl⟩:=len16 hk
 obtain ⟨kk,hkk⟩:∃kk:List UInt8,kk=[k0,k1,k2,k3,k4,k5,k6,k7,k8,k9,ka,kb,kc,kd,ke,kf]:=⟨_,rfl⟩
 rw [←hkk]
 (refine fnS (imm:=imm131) ttQ2_ok func131 ?_;(conv=>whnf))
 obtain ⟨H1,hH1⟩:∃H1:PH,H1=H++[⟨252,z27.map u32C,0⟩]:=⟨_,rfl⟩
 have hl1:H1.length=H.length+1:=by rw [hH1];simp
 have hr1:H1[H.length]? = some ⟨252,z27.map u32C,0⟩:=by rw [hH1];exact gL H _
 refine lO Nat (fun x=>[(1,.elem (kk.map bC)),(2,.ptr (some (H.length,0))),(3,.ptr (some (H1.length,0))),(4,.int .i64 x)]) (fun x=>H1++[(wN kk x).O4 x]) (fun x=>x≤16) (fun x=>16 - x) ⟨0,Nat.zero_le _,⟨rfl,rfl,?_,rfl,zqv⟩,?_⟩ ?_
 ·subst hH1;rfl
 ·subst hH1;rfl
 intro i hi
 match i,hi with
 | 0,_ =>
  conv=>whnf
  refine ⟨fun _=>?_,fun h=>absurd (show ((0:Nat):Int)<16 by decide) h⟩
  conv=>whnf
  generalize hz:wN kk 0=z
  refine dO2 D131_5 [H1++[z.O4 0],H1++[S4.O4 { z with a:=orB z.a k0 0 } 1]] (by kernel_rfl) rfl trivial ?_
  conv=>whnf
  (refine dS ?_;(conv=>whnf))
  (refine dZ ?_;(conv=>whnf))
  (refine dS ?_;(conv=>whnf))
  iterate 2 (refine dZ ?_;(conv=>whnf))
  apply exA
  ·conv=>whnf
   ((conv in (_[_]?)=>tactic=>exact (z.look4 0 H1));(conv=>whnf))
   exact ⟨rfl,rfl,zqv⟩
  conv=>whnf
  (refine dS ?_;(conv=>whnf))
  refine ⟨.elem [bC k0],⟨⟨by decide,by decide⟩,[bC k0],at1' (k:=0) (by rw [hkk];rfl),rfl,rfl,zqv⟩,?_⟩
  conv=>whnf
  iterate 3 (refine dS ?_;(conv=>whnf))
  (refine dZ ?_;(conv=>whnf))
  iterate 2 (refine dS ?_;(conv=>whnf))
  (refine dZ ?_;(conv=>whnf))
  (refine dS ?_;(conv=>whnf))
  (refine dZ ?_;(conv=>whnf))
  apply exA
  ·conv=>whnf
   ((conv in (_[_]?)=>tactic=>exact (z.look4 0 H1));(conv=>whnf))
   exact ⟨rfl,sL H1 _ _,zqv⟩
  conv=>whnf
  refine ⟨1,by decide,⟨rfl,rfl,rfl,rfl,zqv⟩,?_,by decide⟩
  subst hz hkk
  rfl
 | 1,_ =>
  conv=>whnf
  refine ⟨fun _=>?_,fun h=>absurd (show ((1:Nat):Int)<16 by decide) h⟩
  conv=>whnf
  generalize hz:wN kk 1=z
  refine dO2 D131_5 [H1++[z.O4 1],H1++[S4.O4 { z with a:=orB z.a k1 8 } 2]] (by kernel_rfl) rfl trivial ?_
  conv=>whnf
  (refine dS ?_;(conv=>whnf))
  (refine dZ ?_;(conv=>whnf))
  (refine dS ?_;(conv=>whnf))
  iterate 2 (refine dZ ?_;(conv=>whnf))
  apply exA
  ·conv=>whnf
   ((conv in (_[_]?)=>tactic=>exact (z.look4 1 H1));(conv=>whnf))
   exact ⟨rfl,rfl,zqv⟩
  conv=>whnf
  (refine dS ?_;(conv=>whnf))
  refine ⟨.elem [bC k1],⟨⟨by decide,by decide⟩,[bC k1],at1' (k:=1) (by rw [hkk];rfl),rfl,rfl,zqv⟩,?_⟩
  conv=>whnf
  iterate 3 (refine dS ?_;(conv=>whnf))
  (refine dZ ?_;(conv=>whnf))
  iterate 2 (refine dS ?_;(conv=>whnf))
  (refine dZ ?_;(conv=>whnf))
  (refine dS ?_;(conv=>whnf))
  (refine dZ ?_;(conv=>whnf))
  apply exA
  ·conv=>whnf
   ((conv in (_[_]?)=>tactic=>exact (z.look4 1 H1));(conv=>whnf))
   exact ⟨rfl,sL H1 _ _,zqv⟩
  conv=>whnf
  refine ⟨2,by decide,⟨rfl,rfl,rfl,rfl,zqv⟩,?_,by decide⟩
  subst hz hkk
  rfl
 | 2,_ =>
  conv=>whnf
  refine ⟨fun _=>?_,fun h=>absurd (show ((2:Nat):Int)<16 by decide) h⟩
  conv=>whnf
  generalize hz:wN kk 2=z
  refine dO2 D131_5 [H1++[z.O4 2],H1++[S4.O4 { z with a:=orB z.a k2 16 } 3]] (by kernel_rfl) rfl trivial ?_
  conv=>whnf
  (refine dS ?_;(conv=>whnf))
  (refine dZ ?_;(conv=>whnf))
  (refine dS ?_;(conv=>whnf))
  iterate 2 (refine dZ ?_;(conv=>whnf))
  apply exA
  ·conv=>whnf
   ((conv in (_[_]?)=>tactic=>exact (z.look4 2 H1));(conv=>whnf))
   exact ⟨rfl,rfl,zqv⟩
  conv=>whnf
  (refine dS ?_;(conv=>whnf))
  refine ⟨.elem [bC k2],⟨⟨by decide,by decide⟩,[bC k2],at1' (k:=2) (by rw [hkk];rfl),rfl,rfl,zqv⟩,?_⟩
  conv=>whnf
  iterate 3 (refine dS ?_;(conv=>whnf))
  (refine dZ ?_;(conv=>whnf))
  iterate 2 (refine dS ?_;(conv=>whnf))
  (refine dZ ?_;(conv=>whnf))
  (refine dS ?_;(conv=>whnf))
  (refine dZ ?_;(conv=>whnf))
  apply exA
  ·conv=>whnf
   ((conv in (_[_]?)=>tactic=>exact (z.look4 2 H1));(conv=>whnf))
   exact ⟨rfl,sL H1 _ _,zqv⟩
  conv=>whnf
  refine ⟨3,by decide,⟨rfl,rfl,rfl,rfl,zqv⟩,?_,by decide⟩
  subst hz hkk
  rfl
 | 3,_ =>
  conv=>whnf
  refine ⟨fun _=>?_,fun h=>absurd (show ((3:Nat):Int)<16 by decide) h⟩
  conv=>whnf
  generalize hz:wN kk 3=z
  refine dO2 D131_5 [H1++[z.O4 3],H1++[S4.O4 { z with a:=orB z.a k3 24 } 4]] (by kernel_rfl) rfl trivial ?_
  conv=>whnf
  (refine dS ?_;(conv=>whnf))
  (refine dZ ?_;(conv=>whnf))
  (refine dS ?_;(conv=>whnf))
  iterate 2 (refine dZ ?_;(conv=>whnf))
  apply exA
  ·conv=>whnf
   ((conv in (_[_]?)=>tactic=>exact (z.look4 3 H1));(conv=>whnf))
   exact ⟨rfl,rfl,zqv⟩
  conv=>whnf
  (refine dS ?_;(conv=>whnf))
  refine ⟨.elem [bC k3],⟨⟨by decide,by decide⟩,[bC k3],at1' (k:=3) (by rw [hkk];rfl),rfl,rfl,zqv⟩,?_⟩
  conv=>whnf
  iterate 3 (refine dS ?_;(conv=>whnf))
  (refine dZ ?_;(conv=>whnf))
  iterate 2 (refine dS ?_;(conv=>whnf))
  (refine dZ ?_;(conv=>whnf))
  (refine dS ?_;(conv=>whnf))
  (refine dZ ?_;(conv=>whnf))
  apply exA
  ·conv=>whnf
   ((conv in (_[_]?)=>tactic=>exact (z.look4 3 H1));(conv=>whnf))
   exact ⟨rfl,sL H1 _ _,zqv⟩
  conv=>whnf
  refine ⟨4,by decide,⟨rfl,rfl,rfl,rfl,zqv⟩,?_,by decide⟩
  subst hz hkk
  rfl
 | 4,_ =>
  conv=>whnf
  refine ⟨fun _=>?_,fun h=>absurd (show ((4:Nat):Int)<16 by decide) h⟩
  conv=>whnf
  generalize hz:wN kk 4=z
  refine dO2 D131_5 [H1++[z.O4 4],H1++[S4.O4 { z with b:=orB z.b k4 0 } 5]] (by kernel_rfl) rfl trivial ?_
  conv=>whnf
  (refine dS ?_;(conv=>whnf))
  (refine dZ ?_;(conv=>whnf))
  (refine dS ?_;(conv=>whnf))
  iterate 2 (refine dZ ?_;(conv=>whnf))
  apply exA
  ·conv=>whnf
   ((conv in (_[_]?)=>tactic=>exact (z.look4 4 H1));(conv=>whnf))
   exact ⟨rfl,rfl,zqv⟩
  conv=>whnf
  (refine dS ?_;(conv=>whnf))
  refine ⟨.elem [bC k4],⟨⟨by decide,by decide⟩,[bC k4],at1' (k:=4) (by rw [hkk];rfl),rfl,rfl,zqv⟩,?_⟩
  conv=>whnf
  iterate 3 (refine dS ?_;(conv=>whnf))
  (refine dZ ?_;(conv=>whnf))
  iterate 2 (refine dS ?_;(conv=>whnf))
  (refine dZ ?_;(conv=>whnf))
  (refine dS ?_;(conv=>whnf))
  (refine dZ ?_;(conv=>whnf))
  apply exA
  ·conv=>whnf
   ((conv in (_[_]?)=>tactic=>exact (z.look4 4 H1));(conv=>whnf))
   exact ⟨rfl,sL H1 _ _,zqv⟩
  conv=>whnf
  refine ⟨5,by decide,⟨rfl,rfl,rfl,rfl,zqv⟩,?_,by decide⟩
  subst hz hkk
  rfl
 | 5,_ =>
  conv=>whnf
  refine ⟨fun _=>?_,fun h=>absurd (show ((5:Nat):Int)<16 by decide) h⟩
  conv=>whnf
  generalize hz:wN kk 5=z
  refine dO2 D131_5 [H1++[z.O4 5],H1++[S4.O4 { z with b:=orB z.b k5 8 } 6]] (by kernel_rfl) rfl trivial ?_
  conv=>whnf
  (refine dS ?_;(conv=>whnf))
  (refine dZ ?_;(conv=>whnf))
  (refine dS ?_;(conv=>whnf))
  iterate 2 (refine dZ ?_;(conv=>whnf))
  apply exA
  ·conv=>whnf
   ((conv in (_[_]?)=>tactic=>exact (z.look4 5 H1));(conv=>whnf))
   exact ⟨rfl,rfl,zqv⟩
  conv=>whnf
  (refine dS ?_;(conv=>whnf))
  refine ⟨.elem [bC k5],⟨⟨by decide,by decide⟩,[bC k5],at1' (k:=5) (by rw [hkk];rfl),rfl,rfl,zqv⟩,?_⟩
  conv=>whnf
  iterate 3 (refine dS ?_;(conv=>whnf))
  (refine dZ ?_;(conv=>whnf))
  iterate 2 (refine dS ?_;(conv=>whnf))
  (refine dZ ?_;(conv=>whnf))
  (refine dS ?_;(conv=>whnf))
  (refine dZ ?_;(conv=>whnf))
  apply exA
  ·conv=>whnf
   ((conv in (_[_]?)=>tactic=>exact (z.look4 5 H1));(conv=>whnf))
   exact ⟨rfl,sL H1 _ _,zqv⟩
  conv=>whnf
  refine ⟨6,by decide,⟨rfl,rfl,rfl,rfl,zqv⟩,?_,by decide⟩
  subst hz hkk
  rfl
 | 6,_ =>
  conv=>whnf
  refine ⟨fun _=>?_,fun h=>absurd (show ((6:Nat):Int)<16 by decide) h⟩
  conv=>whnf
  generalize hz:wN kk 6=z
  refine dO2 D131_5 [H1++[z.O4 6],H1++[S4.O4 { z with b:=orB z.b k6 16 } 7]] (by kernel_rfl) rfl trivial ?_
  conv=>whnf
  (refine dS ?_;(conv=>whnf))
  (refine dZ ?_;(conv=>whnf))
  (refine dS ?_;(conv=>whnf))
  iterate 2 (refine dZ ?_;(conv=>whnf))
  apply exA
  ·conv=>whnf
   ((conv in (_[_]?)=>tactic=>exact (z.look4 6 H1));(conv=>whnf))
   exact ⟨rfl,rfl,zqv⟩
  conv=>whnf
  (refine dS ?_;(conv=>whnf))
  refine ⟨.elem [bC k6],⟨⟨by decide,by decide⟩,[bC k6],at1' (k:=6) (by rw [hkk];rfl),rfl,rfl,zqv⟩,?_⟩
  conv=>whnf
  iterate 3 (refine dS ?_;(conv=>whnf))
  (refine dZ ?_;(conv=>whnf))
  iterate 2 (refine dS ?_;(conv=>whnf))
  (refine dZ ?_;(conv=>whnf))
  (refine dS ?_;(conv=>whnf))
  (refine dZ ?_;(conv=>whnf))
  apply exA
  ·conv=>whnf
   ((conv in (_[_]?)=>tactic=>exact (z.look4 6 H1));(conv=>whnf))
   exact ⟨rfl,sL H1 _ _,zqv⟩
  conv=>whnf
  refine ⟨7,by decide,⟨rfl,rfl,rfl,rfl,zqv⟩,?_,by decide⟩
  subst hz hkk
  rfl
 | 7,_ =>
  conv=>whnf
  refine ⟨fun _=>?_,fun h=>absurd (show ((7:Nat):Int)<16 by decide) h⟩
  conv=>whnf
  generalize hz:wN kk 7=z
  refine dO2 D131_5 [H1++[z.O4 7],H1++[S4.O4 { z with b:=orB z.b k7 24 } 8]] (by kernel_rfl) rfl trivial ?_
  conv=>whnf
  (refine dS ?_;(conv=>whnf))
  (refine dZ ?_;(conv=>whnf))
  (refine dS ?_;(conv=>whnf))
  iterate 2 (refine dZ ?_;(conv=>whnf))
  apply exA
  ·conv=>whnf
   ((conv in (_[_]?)=>tactic=>exact (z.look4 7 H1));(conv=>whnf))
   exact ⟨rfl,rfl,zqv⟩
  conv=>whnf
  (refine dS ?_;(conv=>whnf))
  refine ⟨.elem [bC k7],⟨⟨by decide,by decide⟩,[bC k7],at1' (k:=7) (by rw [hkk];rfl),rfl,rfl,zqv⟩,?_⟩
  conv=>whnf
  iterate 3 (refine dS ?_;(conv=>whnf))
  (refine dZ ?_;(conv=>whnf))
  iterate 2 (refine dS ?_;(conv=>whnf))
  (refine dZ ?_;(conv=>whnf))
  (refine dS ?_;(conv=>whnf))
  (refine dZ ?_;(conv=>whnf))
  apply exA
  ·conv=>whnf
   ((conv in (_[_]?)=>tactic=>exact (z.look4 7 H1));(conv=>whnf))
   exact ⟨rfl,sL H1 _ _,zqv⟩
  conv=>whnf
  refine ⟨8,by decide,⟨rfl,rfl,rfl,rfl,zqv⟩,?_,by decide⟩
  subst hz hkk
  rfl
 | 8,_ =>
  conv=>whnf
  refine ⟨fun _=>?_,fun h=>absurd (show ((8:Nat):Int)<16 by decide) h⟩
  conv=>whnf
  generalize hz:wN kk 8=z
  refine dO2 D131_5 [H1++[z.O4 8],H1++[S4.O4 { z with c:=orB z.c k8 0 } 9]] (by kernel_rfl) rfl trivial ?_
  conv=>whnf
  (refine dS ?_;(conv=>whnf))
  (refine dZ ?_;(conv=>whnf))
  (refine dS ?_;(conv=>whnf))
  iterate 2 (refine dZ ?_;(conv=>whnf))
  apply exA
  ·conv=>whnf
   ((conv in (_[_]?)=>tactic=>exact (z.look4 8 H1));(conv=>whnf))
   exact ⟨rfl,rfl,zqv⟩
  conv=>whnf
  (refine dS ?_;(conv=>whnf))
  refine ⟨.elem [bC k8],⟨⟨by decide,by decide⟩,[bC k8],at1' (k:=8) (by rw [hkk];rfl),rfl,rfl,zqv⟩,?_⟩
  conv=>whnf
  iterate 3 (refine dS ?_;(conv=>whnf))
  (refine dZ ?_;(conv=>whnf))
  iterate 2 (refine dS ?_;(conv=>whnf))
  (refine dZ ?_;(conv=>whnf))
  (refine dS ?_;(conv=>whnf))
  (refine dZ ?_;(conv=>whnf))
  apply exA
  ·conv=>whnf
   ((conv in (_[_]?)=>tactic=>exact (z.look4 8 H1));(conv=>whnf))
   exact ⟨rfl,sL H1 _ _,zqv⟩
  conv=>whnf
  refine ⟨9,by decide,⟨rfl,rfl,rfl,rfl,zqv⟩,?_,by decide⟩
  subst hz hkk
  rfl
 | 9,_ =>
  conv=>whnf
  refine ⟨fun _=>?_,fun h=>absurd (show ((9:Nat):Int)<16 by decide) h⟩
  conv=>whnf
  generalize hz:wN kk 9=z
  refine dO2 D131_5 [H1++[z.O4 9],H1++[S4.O4 { z with c:=orB z.c k9 8 } 10]] (by kernel_rfl) rfl trivial ?_
  conv=>whnf
  (refine dS ?_;(conv=>whnf))
  (refine dZ ?_;(conv=>whnf))
  (refine dS ?_;(conv=>whnf))
  iterate 2 (refine dZ ?_;(conv=>whnf))
  apply exA
  ·conv=>whnf
   ((conv in (_[_]?)=>tactic=>exact (z.look4 9 H1));(conv=>whnf))
   exact ⟨rfl,rfl,zqv⟩
  conv=>whnf
  (refine dS ?_;(conv=>whnf))
  refine ⟨.elem [bC k9],⟨⟨by decide,by decide⟩,[bC k9],at1' (k:=9) (by rw [hkk];rfl),rfl,rfl,zqv⟩,?_⟩
  conv=>whnf
  iterate 3 (refine dS ?_;(conv=>whnf))
  (refine dZ ?_;(conv=>whnf))
  iterate 2 (refine dS ?_;(conv=>whnf))
  (refine dZ ?_;(conv=>whnf))
  (refine dS ?_;(conv=>whnf))
  (refine dZ ?_;(conv=>whnf))
  apply exA
  ·conv=>whnf
   ((conv in (_[_]?)=>tactic=>exact (z.look4 9 H1));(conv=>whnf))
   exact ⟨rfl,sL H1 _ _,zqv⟩
  conv=>whnf
  refine ⟨10,by decide,⟨rfl,rfl,rfl,rfl,zqv⟩,?_,by decide⟩
  subst hz hkk
  rfl
 | 10,_ =>
  conv=>whnf
  refine ⟨fun _=>?_,fun h=>absurd (show ((10:Nat):Int)<16 by decide) h⟩
  conv=>whnf
  generalize hz:wN kk 10=z
  refine dO2 D131_5 [H1++[z.O4 10],H1++[S4.O4 { z with c:=orB z.c ka 16 } 11]] (by kernel_rfl) rfl trivial ?_
  conv=>whnf
  (refine dS ?_;(conv=>whnf))
  (refine dZ ?_;(conv=>whnf))
  (refine dS ?_;(conv=>whnf))
  iterate 2 (refine dZ ?_;(conv=>whnf))
  apply exA
  ·conv=>whnf
   ((conv in (_[_]?)=>tactic=>exact (z.look4 10 H1));(conv=>whnf))
   exact ⟨rfl,rfl,zqv⟩
  conv=>whnf
  (refine dS ?_;(conv=>whnf))
  refine ⟨.elem [bC ka],⟨⟨by decide,by decide⟩,[bC ka],at1' (k:=10) (by rw [hkk];rfl),rfl,rfl,zqv⟩,?_⟩
  conv=>whnf
  iterate 3 (refine dS ?_;(conv=>whnf))
  (refine dZ ?_;(conv=>whnf))
  iterate 2 (refine dS ?_;(conv=>whnf))
  (refine dZ ?_;(conv=>whnf))
  (refine dS ?_;(conv=>whnf))
  (refine dZ ?_;(conv=>whnf))
  apply exA
  ·conv=>whnf
   ((conv in (_[_]?)=>tactic=>exact (z.look4 10 H1));(conv=>whnf))
   exact ⟨rfl,sL H1 _ _,zqv⟩
  conv=>whnf
  refine ⟨11,by decide,⟨rfl,rfl,rfl,rfl,zqv⟩,?_,by decide⟩
  subst hz hkk
  rfl
 | 11,_ =>
  conv=>whnf
  refine ⟨fun _=>?_,fun h=>absurd (show ((11:Nat):Int)<16 by decide) h⟩
  conv=>whnf
  generalize hz:wN kk 11=z
  refine dO2 D131_5 [H1++[z.O4 11],H1++[S4.O4 { z with c:=orB z.c kb 24 } 12]] (by kernel_rfl) rfl trivial ?_
  conv=>whnf
  (refine dS ?_;(conv=>whnf))
  (refine dZ ?_;(conv=>whnf))
  (refine dS ?_;(conv=>whnf))
  iterate 2 (refine dZ ?_;(conv=>whnf))
  apply exA
  ·conv=>whnf
   ((conv in (_[_]?)=>tactic=>exact (z.look4 11 H1));(conv=>whnf))
   exact ⟨rfl,rfl,zqv⟩
  conv=>whnf
  (refine dS ?_;(conv=>whnf))
  refine ⟨.elem [bC kb],⟨⟨by decide,by decide⟩,[bC kb],at1' (k:=11) (by rw [hkk];rfl),rfl,rfl,zqv⟩,?_⟩
  conv=>whnf
  iterate 3 (refine dS ?_;(conv=>whnf))
  (refine dZ ?_;(conv=>whnf))
  iterate 2 (refine dS ?_;(conv=>whnf))
  (refine dZ ?_;(conv=>whnf))
  (refine dS ?_;(conv=>whnf))
  (refine dZ ?_;(conv=>whnf))
  apply exA
  ·conv=>whnf
   ((conv in (_[_]?)=>tactic=>exact (z.look4 11 H1));(conv=>whnf))
   exact ⟨rfl,sL H1 _ _,zqv⟩
  conv=>whnf
  refine ⟨12,by decide,⟨rfl,rfl,rfl,rfl,zqv⟩,?_,by decide⟩
  subst hz hkk
  rfl
 | 12,_ =>
  conv=>whnf
  refine ⟨fun _=>?_,fun h=>absurd (show ((12:Nat):Int)<16 by decide) h⟩
  conv=>whnf
  generalize hz:wN kk 12=z
  refine dO2 D131_5 [H1++[z.O4 12],H1++[S4.O4 { z with d:=orB z.d kc 0 } 13]] (by kernel_rfl) rfl trivial ?_
  conv=>whnf
  (refine dS ?_;(conv=>whnf))
  (refine dZ ?_;(conv=>whnf))
  (refine dS ?_;(conv=>whnf))
  iterate 2 (refine dZ ?_;(conv=>whnf))
  apply exA
  ·conv=>whnf
   ((conv in (_[_]?)=>tactic=>exact (z.look4 12 H1));(conv=>whnf))
   exact ⟨rfl,rfl,zqv⟩
  conv=>whnf
  (refine dS ?_;(conv=>whnf))
  refine ⟨.elem [bC kc],⟨⟨by decide,by decide⟩,[bC kc],at1' (k:=12) (by rw [hkk];rfl),rfl,rfl,zqv⟩,?_⟩
  conv=>whnf
  iterate 3 (refine dS ?_;(conv=>whnf))
  (refine dZ ?_;(conv=>whnf))
  iterate 2 (refine dS ?_;(conv=>whnf))
  (refine dZ ?_;(conv=>whnf))
  (refine dS ?_;(conv=>whnf))
  (refine dZ ?_;(conv=>whnf))
  apply exA
  ·conv=>whnf
   ((conv in (_[_]?)=>tactic=>exact (z.look4 12 H1));(conv=>whnf))
   exact ⟨rfl,sL H1 _ _,zqv⟩
  conv=>whnf
  refine ⟨13,by decide,⟨rfl,rfl,rfl,rfl,zqv⟩,?_,by decide⟩
  subst hz hkk
  rfl
 | 13,_ =>
  conv=>whnf
  refine ⟨fun _=>?_,fun h=>absurd (show ((13:Nat):Int)<16 by decide) h⟩
  conv=>whnf
  generalize hz:wN kk 13=z
  refine dO2 D131_5 [H1++[z.O4 13],H1++[S4.O4 { z with d:=orB z.d kd 8 } 14]] (by kernel_rfl) rfl trivial ?_
  conv=>whnf
  (refine dS ?_;(conv=>whnf))
  (refine dZ ?_;(conv=>whnf))
  (refine dS ?_;(conv=>whnf))
  iterate 2 (refine dZ ?_;(conv=>whnf))
  apply exA
  ·conv=>whnf
   ((conv in (_[_]?)=>tactic=>exact (z.look4 13 H1));(conv=>whnf))
   exact ⟨rfl,rfl,zqv⟩
  conv=>whnf
  (refine dS ?_;(conv=>whnf))
  refine ⟨.elem [bC kd],⟨⟨by decide,by decide⟩,[bC kd],at1' (k:=13) (by rw [hkk];rfl),rfl,rfl,zqv⟩,?_⟩
  conv=>whnf
  iterate 3 (refine dS ?_;(conv=>whnf))
  (refine dZ ?_;(conv=>whnf))
  iterate 2 (refine dS ?_;(conv=>whnf))
  (refine dZ ?_;(conv=>whnf))
  (refine dS ?_;(conv=>whnf))
  (refine dZ ?_;(conv=>whnf))
  apply exA
  ·conv=>whnf
   ((conv in (_[_]?)=>tactic=>exact (z.look4 13 H1));(conv=>whnf))
   exact ⟨rfl,sL H1 _ _,zqv⟩
  conv=>whnf
  refine ⟨14,by decide,⟨rfl,rfl,rfl,rfl,zqv⟩,?_,by decide⟩
  subst hz hkk
  rfl
 | 14,_ =>
  conv=>whnf
  refine ⟨fun _=>?_,fun h=>absurd (show ((14:Nat):Int)<16 by decide) h⟩
  conv=>whnf
  generalize hz:wN kk 14=z
  refine dO2 D131_5 [H1++[z.O4 14],H1++[S4.O4 { z with d:=orB z.d ke 16 } 15]] (by kernel_rfl) rfl trivial ?_
  conv=>whnf
  (refine dS ?_;(conv=>whnf))
  (refine dZ ?_;(conv=>whnf))
  (refine dS ?_;(conv=>whnf))
  iterate 2 (refine dZ ?_;(conv=>whnf))
  apply exA
  ·conv=>whnf
   ((conv in (_[_]?)=>tactic=>exact (z.look4 14 H1));(conv=>whnf))
   exact ⟨rfl,rfl,zqv⟩
  conv=>whnf
  (refine dS ?_;(conv=>whnf))
  refine ⟨.elem [bC ke],⟨⟨by decide,by decide⟩,[bC ke],at1' (k:=14) (by rw [hkk];rfl),rfl,rfl,zqv⟩,?_⟩
  conv=>whnf
  iterate 3 (refine dS ?_;(conv=>whnf))
  (refine dZ ?_;(conv=>whnf))
  iterate 2 (refine dS ?_;(conv=>whnf))
  (refine dZ ?_;(conv=>whnf))
  (refine dS ?_;(conv=>whnf))
  (refine dZ ?_;(conv=>whnf))
  apply exA
  ·conv=>whnf
   ((conv in (_[_]?)=>tactic=>exact (z.look4 14 H1));(conv=>whnf))
   exact ⟨rfl,sL H1 _ _,zqv⟩
  conv=>whnf
  refine ⟨15,by decide,⟨rfl,rfl,rfl,rfl,zqv⟩,?_,by decide⟩
  subst hz hkk
  rfl
 | 15,_ =>
  conv=>whnf
  refine ⟨fun _=>?_,fun h=>absurd (show ((15:Nat):Int)<16 by decide) h⟩
  conv=>whnf
  generalize hz:wN kk 15=z
  refine dO2 D131_5 [H1++[z.O4 15],H1++[S4.O4 { z with d:=orB z.d kf 24 } 16]] (by kernel_rfl) rfl trivial ?_
  conv=>whnf
  (refine dS ?_;(conv=>whnf))
  (refine dZ ?_;(conv=>whnf))
  (refine dS ?_;(conv=>whnf))
  iterate 2 (refine dZ ?_;(conv=>whnf))
  apply exA
  ·conv=>whnf
   ((conv in (_[_]?)=>tactic=>exact (z.look4 15 H1));(conv=>whnf))
   exact ⟨rfl,rfl,zqv⟩
  conv=>whnf
  (refine dS ?_;(conv=>whnf))
  refine ⟨.elem [bC kf],⟨⟨by decide,by decide⟩,[bC kf],at1' (k:=15) (by rw [hkk];rfl),rfl,rfl,zqv⟩,?_⟩
  conv=>whnf
  iterate 3 (refine dS ?_;(conv=>whnf))
  (refine dZ ?_;(conv=>whnf))
  iterate 2 (refine dS ?_;(conv=>whnf))
  (refine dZ ?_;(conv=>whnf))
  (refine dS ?_;(conv=>whnf))
  (refine dZ ?_;(conv=>whnf))
  apply exA
  ·conv=>whnf
   ((conv in (_[_]?)=>tactic=>exact (z.look4 15 H1));(conv=>whnf))
   exact ⟨rfl,sL H1 _ _,zqv⟩
  conv=>whnf
  refine ⟨16,by decide,⟨rfl,rfl,rfl,rfl,zqv⟩,?_,by decide⟩
  subst hz hkk
  rfl
 | 16,_ =>
  conv=>whnf
  refine ⟨fun h=>absurd h (by decide),fun _=>?_⟩
  conv=>whnf
  have hs0:spN kk 0=wN kk 16:=spN_zero kk
  have hl2:(spL2 kk 0).map u32C=[u32C (wN kk 16).b,u32C (wN kk 16).c,u32C (wN kk 16).d]:=by rw [spL2_zero,List.map_cons,List.map_cons,List.map_cons,List.map_nil]
  have hl1':(spL kk z27 (0+1)).map u32C=u32C (wN kk 16).a::(z27.drop 1).map u32C:=by rw [spL_one,List.map_cons]
  generalize wN kk 16=w16 at hs0 hl2 hl1' ⊢
  obtain ⟨H2,hH2⟩:∃H2:PH,H2=H1++[w16.O4 16]:=⟨_,rfl⟩
  have hw2:∀x:PObj,(H2++[x])[H1.length]? = some ⟨327,[.int .u32 w16.a,.int .u32 w16.b,.int .u32 w16.c,.int .u32 w16.d],16⟩:=fun x=>by
   rw [zq2 (by rw [hH2];simp),hH2];exact gL H1 _
  rw [←hH2]
  refine ⟨by decide,?_⟩
  conv=>whnf
  ((conv in (_[_]?)=>tactic=>exact (hw2 _));(conv=>whnf))
  refine ⟨by decide,?_⟩
  conv=>whnf
  ((conv in (_[_]?)=>tactic=>exact (hw2 _));(conv=>whnf))
  refine ⟨by decide,?_⟩
  conv=>whnf
  ((conv in (_[_]?)=>tactic=>exact (hw2 _));(conv=>whnf))
  refine ⟨by decide,?_⟩
  conv=>whnf
  ((conv in (_[_]?)=>tactic=>exact (hw2 _));(conv=>whnf))
  refine ⟨by decide,?_⟩
  conv=>whnf
  ((conv in (_[_]?)=>tactic=>exact (gL H2 _));(conv=>whnf))
  refine lO Nat (fun i=>[(2,.ptr (some (H.length,0))),(5,.ptr (some (H2.length,0))),(6,.slice (i+3) ((spL2 kk i).map u32C) (some 243)),(7,.int .i64 i)]) (fun i=>H2++[PObj.mk 252 ((spL kk z27 (i+1)).map u32C) (i+1)]) (fun i=>i≤26) (fun i=>26 - i) ⟨0,Nat.zero_le _,⟨rfl,rfl,?_,rfl,zqv⟩,?_⟩ ?_
  ·exact zqm (fun z=>PV.slice 3 z (some 243)) hl2.symm
  ·rw [hl1'];exact sL H2 _ _
  intro i hi
  conv=>whnf
  refine ⟨fun h=>?_,fun h=>?_⟩
  ·have h:(i:Int)<26:=h
   have hlen1:(spL kk z27 (i+1)).length=27:=spL_len kk z27 (i+1) rfl (by omega)
   have g0:=gL H2 (PObj.mk 252 ((spL kk z27 (i+1)).map u32C) (i+1))
   obtain ⟨r0,hr0⟩:=drop_u32 (spL_at kk (i+1) i (by omega) (by omega))
   conv=>whnf
   refine dO2 D131_12 [H2++[PObj.mk 252 ((spL kk z27 (i+1)).map u32C) (i+1)]] (by kernel_rfl) rfl ⟨trivial,zqv⟩ ?_
   conv=>whnf
   apply exA
   ·conv=>whnf
    exact ⟨rfl,rfl,rfl,zqv⟩
   conv=>whnf
   (refine dS ?_;(conv=>whnf))
   apply exA
   ·conv=>whnf
    refine ⟨⟨by show (0:Int)≤(i:Int);omega,by show (i:Int)<((27:Nat):Int);omega⟩,rfl,rfl,zqv⟩
   conv=>whnf
   apply exA
   ·conv=>whnf
    ((conv in (_[_]?)=>tactic=>exact g0);(conv=>whnf))
    ((conv in (dropN _ _)=>tactic=>exact hr0);(conv=>whnf))
    exact ⟨rfl,rfl,zqv⟩
   conv=>whnf
   iterate 2 (refine dS ?_;(conv=>whnf))
   refine ⟨.elem [u32C (spN kk i).b],⟨⟨by show (0:Int)≤(i:Int);omega,by show (i:Int)<((i+3:Nat):Int);omega⟩,[u32C (spN kk i).b],at1' (k:=(i:Int).toNat*1) (by rw [Int.toNat_natCast,Nat.mul_one,List.getElem?_map,spL2_get kk i i (by omega)];rfl),rfl,rfl,zqv⟩,?_⟩
   conv=>whnf
   (refine dS ?_;(conv=>whnf))
   refine ⟨_,cP (c173 _) ⟨rfl,rfl,zqv⟩,?_⟩
   conv=>whnf
   iterate 5 (refine dS ?_;(conv=>whnf))
   apply exA
   ·conv=>whnf
    refine ⟨⟨by show (i+3+1)*4≤_;omega,rfl,rfl⟩,?_⟩
    conv=>whnf
    exact ⟨rfl,rfl,zqv⟩
   conv=>whnf
   (refine dS ?_;(conv=>whnf))
   have hw1:IntKind.i64.wrap ((i:Int)+1)=((i+1:Nat):Int):=by rw [w64 (by omega) (by omega)];omega
   have hw3:IntKind.i64.wrap ((i:Int)+3)=((i+3:Nat):Int):=by rw [w64 (by omega) (by omega)];omega
   have hnx:PV.int .u32 (ibits .xor .u32 (IntKind.u32.wrap ((spN kk i).a+rot32 (spN kk i).b (-8))) (IntKind.u32.wrap (i:Int)))=u32C (spN kk (i+1)).d:=by rw [spN_next];rfl
   refine dO2 D131_13 [H2++[PObj.mk 252 ((spL kk z27 (i+1)).map u32C) (i+1)],H2++[PObj.mk 252 ((spL kk z27 (i+1+1)).map u32C) (i+1+1)]] (by kernel_rfl) rfl trivial ?_
   conv=>whnf
   (refine dS ?_;(conv=>whnf))
   refine ⟨.int .i64 ((i+1:Nat):Int),⟨zqm (PV.int _) hw1,rfl,zqv⟩,?_⟩
   conv=>whnf
   (refine dS ?_;(conv=>whnf))
   apply exA
   ·conv=>whnf
    refine ⟨⟨by show (0:Int)≤(i:Int);omega,by show (i:Int)<((27:Nat):Int);omega⟩,rfl,rfl,zqv⟩
   conv=>whnf
   apply exA
   ·conv=>whnf
    ((conv in (_[_]?)=>tactic=>exact g0);(conv=>whnf))
    ((conv in (dropN _ _)=>tactic=>exact hr0);(conv=>whnf))
    exact ⟨rfl,rfl,zqv⟩
   conv=>whnf
   refine ⟨_,cP (c174 _) ⟨rfl,rfl,zqv⟩,?_⟩
   conv=>whnf
   iterate 2 (refine dS ?_;(conv=>whnf))
   refine ⟨.int .i64 ((i+3:Nat):Int),⟨zqm (PV.int _) hw3,rfl,zqv⟩,?_⟩
   conv=>whnf
   refine ⟨.elem [u32C (spN kk (i+1)).d],⟨⟨by show (0:Int)≤((i+3:Nat):Int);omega,by show ((i+3:Nat):Int)<((i+3+1:Nat):Int);omega⟩,[u32C (spN kk (i+1)).d],at1' (k:=((i+3:Nat):Int).toNat*1) (by
    have e:((i+3:Nat):Int).toNat*1=i+3:=by omega
    rw [e,zqi (by rw [zqq,spL2_len];omega),zqq,spL2_len,Nat.sub_self]
    exact zqm some hnx),rfl,rfl,zqv⟩,?_⟩
   conv=>whnf
   iterate 2 (refine dS ?_;(conv=>whnf))
   apply exA
   ·conv=>whnf
    refine ⟨⟨by show (0:Int)≤((i+1:Nat):Int);omega,by show ((i+1:Nat):Int)<((27:Nat):Int);omega⟩,rfl,rfl,zqv⟩
   conv=>whnf
   apply exA
   ·conv=>whnf
    ((conv in (_[_]?)=>tactic=>exact g0);(conv=>whnf))
    ((conv in (Nat.ble _ _)=>tactic=>exact (show Nat.ble (0+((i+1:Nat):Int).toNat*1+1) ((spL kk z27 (i+1)).map u32C).length=true by rw [Nat.ble_eq,zqq,hlen1];omega));(conv=>whnf))
    refine ⟨rfl,?_,zqv⟩
    refine (sL H2 _ _).trans (zqm (fun o=>H2++[o]) ?_)
    show PObj.mk 252 (setCells (0+((i+1:Nat):Int).toNat*1) [u32C (xor32 (rot32 (spN kk i).a 3) (spN kk (i+1)).d)] ((spL kk z27 (i+1)).map u32C)) (i+1+1)=_
    rw [←spN_a]
    have:=setCells_mid [] [] (spL kk z27 (i+1)) (i+1) (0+((i+1:Nat):Int).toNat*1) (spN kk (i+1)).a (by omega) (by simp)
    rw [List.nil_append,List.append_nil,List.nil_append,List.append_nil,spL_set kk z27 (i+1) rfl (by omega)] at this
    rw [this]
   conv=>whnf
   refine ⟨i+1,by omega,⟨rfl,rfl,?_,?_,zqv⟩,rfl,by omega⟩
   ·show PV.slice (i+3+1) ((spL2 kk i).map u32C++[PV.int .u32 (ibits .xor .u32 (IntKind.u32.wrap ((spN kk i).a+rot32 (spN kk i).b (-8))) (IntKind.u32.wrap (i:Int)))]) (some 243)=PV.slice (i+1+3) ((spL2 kk (i+1)).map u32C) (some 243)
    rw [hnx,spL2_succ,List.map_append,spN_d,List.map_cons,List.map_nil,show i+3+1=i+1+3 by omega,show i+1+2=i+3 by omega]
   ·exact zqm (PV.int _) hw1
  ·have h:¬(i:Int)<26:=h
   have e:i=26:=by omega
   subst e
   have hspl:spL kk z27 (26+1)=spW kk:=by
    unfold spL spW
    rw [List.drop_of_length_le (by show 27≤26+1;omega),List.append_nil]
   rw [hspl]
   conv=>whnf
   ((conv in (_[_]?)=>tactic=>exact (gL H2 _));(conv=>whnf))
   have hR:∀x:PObj,(H2++[x])[H.length]? = some ⟨252,z27.map u32C,0⟩:=fun x=>by
    rw [zq2 (by rw [hH2];simp;omega),hH2,zq2 (by omega)];exact hr1
   ((conv in (_[_]?)=>tactic=>exact (hR _));(conv=>whnf))
   have hW:setCells 0 (((dropN 0 ((spW kk).map u32C)).take 27).map dem) (z27.map u32C)=(spW kk).map u32C:=by
    rw [agg27 _ (spW_len kk),setCells_eq _ _ _ (by rw [zqq,zqq,spW_len];exact zqn _),List.take_zero,List.drop_of_length_le (by rw [zqq,zqq,spW_len];exact zqn _),List.nil_append,List.append_nil]
   have h2:((H2++[PObj.mk 252 ((spW kk).map u32C) (26+1)]).set H.length (PObj.mk 252 (setCells 0 (((dropN 0 ((spW kk).map u32C)).take 27).map dem) (z27.map u32C)) (0+1)))[H.length]? = some (PObj.mk 252 ((spW kk).map u32C) 1):=by
    rw [gS (hR _),hW]
   generalize hh:(setH _ _ _ _)[List.length H]? = X
   rw [show X=some (PObj.mk 252 ((spW kk).map u32C) 1) from hh.symm.trans h2]
   conv=>whnf
   refine ⟨zqm PV.agg (agg27 _ (spW_len kk)),?_⟩
   refine ext_of ?_ fun j hj=>?_
   ·show H.length≤((H2++[_]).set _ _).length
    rw [List.length_set,zqf,hH2,zqf];omega
   ·show ((H2++[_]).set H.length _)[j]? = _
    rw [zqj (by omega),zq2 (by rw [hH2,zqf];omega),hH2,zq2 (by omega),hH1,zq2 hj]
 | j+17,hj=>exact absurd hj (by omega)
theorem oldPs_u32 (l:List Int):oldPs (l.map u32C)=true:=by
 induction l with
 | nil=>rfl
 | cons x l ih=>simp [oldPs,oldP,u32C,ih]
theorem c131 (k:List UInt8) (hk:k.length=16):Pure prog 131 [.agg (k.map bC)] (.agg ((spW k).map u32C)) :=
 Pure.of_gc (by simp [oldR,oldP,oldPs_u32]) fun H=>c131x k hk H
set_option maxHeartbeats 2000000
set_option maxHeartbeats 1000000
/-! How the heap goes on while boxes seal and open. -/
/-! What is sealed, and opened. -/
set_option maxHeartbeats 2000000
/-! Sealing, reckoned quickly. -/
noncomputable def rF (x:Int) (s t:Nat):Int:=cBits .or .u32 (cShl .u32 x (.ofNat s)) (cShr .u32 x (.ofNat t))
theorem rF3 (x:Int):rot32 x 3=rF x 3 29:=by
 unfold rF rot32
 rw [cBits_eq,cShl_eq,cShr_eq,show rot32S 3=3 by decide];rfl
theorem rF8 (x:Int):rot32 x (-8)=rF x 24 8:=by
 unfold rF rot32
 rw [cBits_eq,cShl_eq,cShr_eq,show rot32S (-8)=24 by decide];rfl
noncomputable def turnF {α:Type} (w x y:Int) (K:Int→Int→α):α:=fI (cBits .xor .u32 (cW .u32 (rF x 24 8+y)) w) fun x'=>fI (cBits .xor .u32 (rF y 3 29) x') fun y'=>K x' y'
theorem turnF_eq {α:Type} (w x y:Int) (K:Int→Int→α):turnF w x y K=K (spR w (x,y)).1 (spR w (x,y)).2:=by
 unfold turnF spR xor32 add32
 rw [fI_eq,fI_eq,cBits_eq,cBits_eq,cW_eq,←rF8,←rF3]
noncomputable def blkF {α:Type}:List Int→Int→Int→(Int→Int→α)→α
 | [],x,y,K=>K x y
 | w::ws,x,y,K=>turnF w x y fun x y=>blkF ws x y K
theorem blkF_eq {α:Type}:∀(ws:List Int) (x y:Int) (K:Int→Int→α),blkF ws x y K=K (spB ws (x,y)).1 (spB ws (x,y)).2
 | [],x,y,K=>rfl
 | w::ws,x,y,K=>by
  unfold blkF
  rw [turnF_eq,blkF_eq ws]
  rfl
noncomputable def spF {α:Type} (a b c d:Int):Nat→Nat→(List Int→α)→α
 | _,0,K=>K []
 | i,m+1,K=>fI (cBits .xor .u32 (cW .u32 (a+rF b 24 8)) (cW .u32 (.ofNat i))) fun n=>fI (cBits .xor .u32 (rF a 3 29) n) fun a'=>spF a' c d n (Nat.succ i) m fun l=>K (a::l)
theorem spF_eq {α:Type} (k:List UInt8):∀(m i:Nat) (K:List Int→α),spF (spN k i).a (spN k i).b (spN k i).c (spN k i).d i m K=K ((List.range m).map fun j=>(spN k (i+j)).a)
 | 0,i,K=>rfl
 | m+1,i,K=>by
  unfold spF
  rw [fI_eq,fI_eq,cBits_eq,cBits_eq,cW_eq,cW_eq,←rF8,←rF3]
  have e:spN k (i+1)=⟨xor32 (rot32 (spN k i).a 3) (xor32 (add32 (spN k i).a (rot32 (spN k i).b (-8))) (IntKind.u32.wrap (i:Int))),(spN k i).c,(spN k i).d,xor32 (add32 (spN k i).a (rot32 (spN k i).b (-8))) (IntKind.u32.wrap (i:Int))⟩:=by rw [spN]
  have ih:=spF_eq k m (i+1) (fun l=>K ((spN k i).a::l))
  rw [e] at ih
  refine Eq.trans ih ?_
  congr 1
  rw [List.range_succ_eq_map,List.map_cons,List.map_map]
  congr 1
  refine List.map_congr_left fun j _=>?_
  show _=(spN k (i+(j+1))).a
  rw [show i+(j+1)=i+1+j by omega]
noncomputable def orF (x:Int) (c:UInt8) (s:Nat):Int:=cBits .or .u32 x (cShl .u32 (cW .u32 (.ofNat c.toNat)) (.ofNat s))
theorem orF_eq (x:Int) (c:UInt8) (s:Nat):orB x c (s:Int)=orF x c s:=by
 unfold orF orB
 rw [cBits_eq,cShl_eq,cW_eq];rfl
noncomputable def w4F (a b c d:UInt8):Int:=orF (orF (orF (orF 0 a 0) b 8) c 16) d 24
noncomputable def wordsF {α:Type} (k:List UInt8) (K:List Int→α):α:=match k with
 | [k0,k1,k2,k3,k4,k5,k6,k7,k8,k9,ka,kb,kc,kd,ke,kf]=>fI (w4F k0 k1 k2 k3) fun a=>fI (w4F k4 k5 k6 k7) fun b=>fI (w4F k8 k9 ka kb) fun c=>fI (w4F kc kd ke kf) fun d=>spF a b c d 0 27 K
 | k=>K (spW k)
theorem wordsF_eq {α:Type} (k:List UInt8) (K:List Int→α):wordsF k K=K (spW k):=by
 unfold wordsF
 split
 ·rename_i k0 k1 k2 k3 k4 k5 k6 k7 k8 k9 ka kb kc kd ke kf
  rw [fI_eq,fI_eq,fI_eq,fI_eq]
  generalize hk:[k0,k1,k2,k3,k4,k5,k6,k7,k8,k9,ka,kb,kc,kd,ke,kf]=k
  have h0:spN k 0=⟨w4F k0 k1 k2 k3,w4F k4 k5 k6 k7,w4F k8 k9 ka kb,w4F kc kd ke kf⟩:=by
   rw [spN]
   subst hk
   unfold w4F
   simp only [←orF_eq]
   rfl
  have:=spF_eq k 27 0 K
  rw [h0] at this
  refine this.trans ?_
  unfold spW
  congr 1 <;> (refine List.map_congr_left fun j _=>?_;rw [Nat.zero_add])
 ·rfl
noncomputable def byF {α:Type} (x:Int) (s:Nat) (K:UInt8→α):α:=match x with
 | .ofNat n=>fN (Nat.mod (Nat.div n (Nat.pow 2 s)) 256) fun m=>K (UInt8.ofNat m)
 | x=>K (byteI (Int.fdiv x (2 ^ s)))
theorem byteI_nat (n:Nat):byteI (.ofNat n)=UInt8.ofNat (n % 256):=by
 unfold byteI
 congr 1
theorem byF_eq {α:Type} (x:Int) (s:Nat) (K:UInt8→α):byF x s K=K (byteI (Int.fdiv x (2 ^ s))):=by
 cases x with
 | ofNat n =>
  unfold byF
  simp only []
  rw [fN_eq]
  have:Int.fdiv (Int.ofNat n) (2 ^ s)=Int.ofNat (n / 2 ^ s):=by
   have h:(2:Int) ^ s=((2 ^ s:Nat):Int):=by rw [Int.natCast_pow];rfl
   rw [h]
   exact (Int.ofNat_fdiv n (2 ^ s)).symm
  rw [this,byteI_nat]
  rfl
 | negSucc n=>rfl
theorem shr_fdiv (k:IntKind) (x:Int) (s:Nat) (h:s≤k.bits):ishr k x (s:Int)=Int.fdiv x (2 ^ s):=by
 unfold ishr
 rw [Int.toNat_natCast,Nat.min_eq_left h]
noncomputable def le4F {α:Type} (w:Int) (l:List UInt8) (K:List UInt8→α):α:=byF w 24 fun d=>byF w 16 fun c=>byF w 8 fun b=>byF w 0 fun a=>K (a::b::c::d::l)
theorem byteI_0 (w:Int):byteI (Int.fdiv w (2 ^ 0))=byteI w:=by
 rw [show ((2:Int) ^ 0)=1 from rfl,Int.fdiv_one]
theorem le4F_eq {α:Type} (w:Int) (l:List UInt8) (K:List UInt8→α):le4F w l K=K (le4 w++l):=by
 unfold le4F
 rw [byF_eq,byF_eq,byF_eq,byF_eq,byteI_0]
 have e (s:Nat) (h:s≤32):=shr_fdiv .u32 w s h
 have e8:=e 8 (by decide)
 have e16:=e 16 (by decide)
 have e24:=e 24 (by decide)
 rw [←e8,←e16,←e24]
 rfl
noncomputable def blksF {α:Type} (ws:List Int) (hi lo:Int):Nat→Nat→(List UInt8→α)→α
 | _,0,K=>K []
 | i,m+1,K=>fI (cW .u32 (lo+.ofNat i)) fun y=>blkF ws hi y fun x y=>blksF ws hi lo (Nat.succ i) m fun l=>le4F y l fun l=>le4F x l K
def blks (k:List UInt8) (nn:Int):Nat→Nat→List UInt8
 | _,0=>[]
 | i,m+1=>(le4 (blkP k nn i).1++le4 (blkP k nn i).2)++blks k nn (i+1) m
theorem blks_str (k:List UInt8) (nn:Int):∀(m i:Nat),strN k nn i++blks k nn i m=strN k nn (i+m)
 | 0,i=>by simp [blks]
 | m+1,i=>by
  unfold blks
  rw [←List.append_assoc,show strN k nn i++(le4 (blkP k nn i).1++le4 (blkP k nn i).2)=strN k nn (i+1) from rfl,blks_str k nn m (i+1),show i+1+m=i+(m+1) by omega]
theorem blksF_eq {α:Type} (k:List UInt8) (nn:Int):∀(m i:Nat) (K:List UInt8→α),blksF (spW k) (IntKind.u32.wrap (ishr .u64 nn 32)) (IntKind.u32.wrap nn) i m K=K (blks k nn i m)
 | 0,i,K=>rfl
 | m+1,i,K=>by
  unfold blksF blks
  rw [fI_eq,blkF_eq,blksF_eq k nn m,le4F_eq,le4F_eq,cW_eq]
  rw [List.append_assoc]
  rfl
noncomputable def streamF {α:Type} (k:List UInt8) (nn:Int) (n:Nat) (K:List UInt8→α):α:=wordsF k fun ws=>fI (cW .u32 (cShr .u64 nn 32)) fun hi=>fI (cW .u32 nn) fun lo=>blksF ws hi lo 0 (Nat.div (Nat.add n 7) 8) fun l=>fL (l.take n) K
theorem streamF_eq {α:Type} (k:List UInt8) (nn:Int) (n:Nat) (K:List UInt8→α):streamF k nn n K=K (streamV k nn n):=by
 unfold streamF
 rw [wordsF_eq,fI_eq,fI_eq,cW_eq,cW_eq,cShr_eq,blksF_eq,fL_eq]
 congr 1
 have:=blks_str k nn ((n+7) / 8) 0
 rw [Nat.zero_add] at this
 show (blks k nn 0 ((n+7) / 8)).take n=_
 unfold streamV
 rw [←this];rfl
noncomputable def rG (x:Int) (s t:Nat):Int:=cBits .or .u64 (cShl .u64 x (.ofNat s)) (cShr .u64 x (.ofNat t))
theorem rG13 (x:Int):rotC x 13=rG x 13 51:=by
 unfold rG rotC
 rw [cBits_eq,cShl_eq,cShr_eq,show rotS 13=13 by decide];rfl
theorem rG32 (x:Int):rotC x 32=rG x 32 32:=by
 unfold rG rotC
 rw [cBits_eq,cShl_eq,cShr_eq,show rotS 32=32 by decide];rfl
theorem rG16 (x:Int):rotC x 16=rG x 16 48:=by
 unfold rG rotC
 rw [cBits_eq,cShl_eq,cShr_eq,show rotS 16=16 by decide];rfl
theorem rG21 (x:Int):rotC x 21=rG x 21 43:=by
 unfold rG rotC
 rw [cBits_eq,cShl_eq,cShr_eq,show rotS 21=21 by decide];rfl
theorem rG17 (x:Int):rotC x 17=rG x 17 47:=by
 unfold rG rotC
 rw [cBits_eq,cShl_eq,cShr_eq,show rotS 17=17 by decide];rfl
noncomputable def xF (x y:Int):Int:=cBits .xor .u64 x y
theorem xF_eq (x y:Int):xorW x y=xF x y:=by unfold xF xorW;rw [cBits_eq]
noncomputable def aF (x y:Int):Int:=cW .u64 (x+y)
theorem aF_eq (x y:Int):addW x y=aF x y:=by unfold aF addW;rw [cW_eq]
noncomputable def rndF {α:Type} (a b c d:Int) (K:Int→Int→Int→Int→α):α:=fI (aF a b) fun a=>fI (xF (rG b 13 51) a) fun b=>fI (rG a 32 32) fun a=>fI (aF c d) fun c=>fI (xF (rG d 16 48) c) fun d =>
 fI (aF a d) fun a=>fI (xF (rG d 21 43) a) fun d=>fI (aF c b) fun c=>fI (xF (rG b 17 47) c) fun b=>fI (rG c 32 32) fun c=>K a b c d
theorem rndF_eq {α:Type} (s:S4) (K:Int→Int→Int→Int→α):rndF s.a s.b s.c s.d K=K s.rnd.a s.rnd.b s.rnd.c s.rnd.d:=by
 unfold rndF
 simp only [fI_eq,←rG13,←rG32,←rG16,←rG21,←rG17,←xF_eq,←aF_eq]
 rfl
noncomputable def takF {α:Type} (a b c d m:Int) (K:Int→Int→Int→Int→α):α:=fI (xF d m) fun d=>rndF a b c d fun a b c d=>rndF a b c d fun a b c d=>fI (xF a m) fun a=>K a b c d
theorem takF_eq {α:Type} (s:S4) (m:Int) (K:Int→Int→Int→Int→α):takF s.a s.b s.c s.d m K=K (s.takes m).a (s.takes m).b (s.takes m).c (s.takes m).d:=by
 unfold takF
 rw [fI_eq,←xF_eq]
 have h1:=rndF_eq { s with d:=xorW s.d m } (fun a b c d=>rndF a b c d fun a b c d=>fI (xF a m) fun a=>K a b c d)
 refine Eq.trans h1 ?_
 have h2:=rndF_eq (S4.rnd { s with d:=xorW s.d m }) (fun a b c d=>fI (xF a m) fun a=>K a b c d)
 refine Eq.trans h2 ?_
 rw [fI_eq,←xF_eq]
 rfl
noncomputable def finF {α:Type} (a b c d:Int) (K:Int→α):α:=fI (xF c 255) fun c=>rndF a b c d fun a b c d=>rndF a b c d fun a b c d=>rndF a b c d fun a b c d=>rndF a b c d fun a b c d=>fI (xF (xF (xF a b) c) d) K
theorem finF_eq {α:Type} (s:S4) (K:Int→α):finF s.a s.b s.c s.d K=K s.fin.out:=by
 unfold finF
 rw [fI_eq,←xF_eq]
 refine Eq.trans (rndF_eq { s with c:=xorW s.c 255 } _) ?_
 refine Eq.trans (rndF_eq (S4.rnd { s with c:=xorW s.c 255 }) _) ?_
 refine Eq.trans (rndF_eq (S4.rnd (S4.rnd { s with c:=xorW s.c 255 })) _) ?_
 refine Eq.trans (rndF_eq (S4.rnd (S4.rnd (S4.rnd { s with c:=xorW s.c 255 }))) _) ?_
 rw [fI_eq,←xF_eq,←xF_eq,←xF_eq]
 rfl
noncomputable def sipL {α:Type} (a b c d:Int) (p:List UInt8):Nat→(Int→Int→Int→Int→List UInt8→α)→α
 | 0,K=>K a b c d p
 | m+1,K=>fN (leN (p.take 8)) fun w=>takF a b c d (.ofNat w) fun a b c d=>fL (p.drop 8) fun p=>sipL a b c d p m K
theorem sipL_eq {α:Type} (s:S4) (p:List UInt8):∀(m i:Nat) (K:Int→Int→Int→Int→List UInt8→α),sipL (sipN s p i).a (sipN s p i).b (sipN s p i).c (sipN s p i).d (p.drop (8*i)) m K=K (sipN s p (i+m)).a (sipN s p (i+m)).b (sipN s p (i+m)).c (sipN s p (i+m)).d (p.drop (8*(i+m)))
 | 0,i,K=>rfl
 | m+1,i,K=>by
  unfold sipL
  rw [fN_eq]
  refine Eq.trans (takF_eq (sipN s p i) _ _) ?_
  rw [fL_eq]
  have h:=sipL_eq s p m (i+1) K
  rw [show i+1+m=i+(m+1) by omega] at h
  refine Eq.trans ?_ h
  rw [List.drop_drop,show 8*i+8=8*(i+1) by omega]
  rfl
noncomputable def sipF {α:Type} (k p:List UInt8) (K:Int→α):α:=fN (leN (k.take 8)) fun x=>fN (leN (k.drop 8)) fun y=>fI (xF 8317987319222330741 (.ofNat x)) fun a=>fI (xF 7237128888997146477 (.ofNat y)) fun b=>fI (xF 7816392313619706465 (.ofNat x)) fun c=>fI (xF 8387220255154660723 (.ofNat y)) fun d =>
 fN p.length fun n=>sipL a b c d p (Nat.div n 8) fun a b c d r=>takF a b c d (cBits .or .u64 (cShl .u64 (cW .u64 (cW .u8 (.ofNat n))) 56) (.ofNat (leN r))) fun a b c d=>finF a b c d K
theorem sipF_eq {α:Type} (k p:List UInt8) (K:Int→α):sipF k p K=K (sipV k p):=by
 unfold sipF
 rw [fN_eq,fN_eq,fI_eq,fI_eq,fI_eq,fI_eq,fN_eq,←xF_eq,←xF_eq,←xF_eq,←xF_eq]
 refine Eq.trans (sipL_eq (sipI k) p (p.length / 8) 0 _) ?_
 rw [Nat.zero_add,cBits_eq,cShl_eq,cW_eq,cW_eq]
 refine Eq.trans (takF_eq (sipN (sipI k) p (p.length / 8)) _ _) ?_
 refine Eq.trans (finF_eq _ _) ?_
 rfl
noncomputable def bigF {α:Type} (n:Int) (K:List UInt8→α):α:=byF n 56 fun a=>byF n 48 fun b=>byF n 40 fun c=>byF n 32 fun d=>byF n 24 fun e=>byF n 16 fun f=>byF n 8 fun g=>byF n 0 fun h=>K [a,b,c,d,e,f,g,h]
noncomputable def xorF {α:Type}:List UInt8→List UInt8→(List UInt8→α)→α
 | a::p,b::q,K=>fN (Nat.xor a.toNat b.toNat) fun m=>xorF p q fun l=>K (UInt8.ofNat m::l)
 | _,_,K=>K []
theorem xorF_eq {α:Type}:∀(p q:List UInt8) (K:List UInt8→α),xorF p q K=K (xorL p q)
 | [],[],K=>rfl
 | [],_::_,K=>rfl
 | _::_,[],K=>rfl
 | a::p,b::q,K=>by
  unfold xorF
  rw [fN_eq,xorF_eq p q]
  have:UInt8.ofNat (Nat.xor a.toNat b.toNat)=a ^^^ b:=by
   apply UInt8.toNat_inj.1
   rw [UInt8.toNat_xor,UInt8.toNat_ofNat']
   have h1:=a.toNat_lt
   have h2:=b.toNat_lt
   exact Nat.mod_eq_of_lt (Nat.xor_lt_two_pow (n:=8) h1 h2)
  rw [this]
  rfl
noncomputable def tagF {α:Type} (sp:List UInt8) (u:Int) (ahead:List UInt8) (K:List UInt8→α):α:=sipF sp (byteI u::ahead) fun n=>bigF n K
noncomputable def mixF {α:Type} (nn u:Int) (K:Int→α):α:=fI (cW .u64 (cShl .u64 nn 8+cW .u64 u)) K
theorem mixF_eq {α:Type} (nn u:Int) (K:Int→α):mixF nn u K=K (mixN nn u):=by
 unfold mixF
 rw [fI_eq,cW_eq,cW_eq,cShl_eq];rfl
noncomputable def sealF {α:Type} (key:List UInt8) (u n:Int) (p:List UInt8) (K:List UInt8→α):α:=fL (key.take 16) fun k1=>fL (key.drop 16) fun k2=>fI (cW .u64 n) fun nn=>mixF nn u fun mx=>fN p.length fun len=>streamF k1 mx len fun st=>bigF nn fun hd=>xorF p st fun x=>fL (hd++x) fun ah=>tagF k2 u ah fun tg=>fL (ah++tg) K
set_option maxHeartbeats 1000000
def Made (k:List UInt8) (o:PObj):Prop:=∃v,o=keyO k 1 0 0 (spW k) 1 v
theorem Made.st {k:List UInt8} {o:PObj} (h:Made k o):KeySt k o:=.inr h
theorem c120m (hw:WordsOk) (k:List UInt8) (hk:k.length=16) (kid:Nat) (nn:Int) (n:Nat) (hn:n≤1000000) (h0:0<n) (so:PObj) (hso:KeySt k so) (H:PH) (hid:H[kid]? = some so) :
  CK prog 120 [.ptr (some (kid,0)),.int .u64 nn,.int .i64 n] H fun r H'=>r=sl (streamV k nn n)∧∃o',Made k o'∧H'=H.set kid o':=by
 have hlt:kid<H.length:=(zq1.1 hid).1
 (refine fnS (imm:=imm120) ttS_ok func120 ?_;(conv=>whnf))
 refine ⟨fun h=>absurd h (by omega),fun _=>?_⟩
 conv=>whnf
 have hw8:IntKind.i64.wrap ((n:Int)+8)=(n:Int)+8:=w64 (by omega) (by omega)
 refine ⟨⟨by decide,by rw [hw8];omega,by rw [hw8];show ((n:Int)+8)*((1:Nat):Int)≤_;omega⟩,?_⟩
 conv=>whnf
 refine lO StS (fun x=>[(0,.ptr (some (kid,0))),(1,.int .u64 nn),(2,.int .i64 n),(7,ow (strN k nn x.i)),(8,.int .u32 x.i)]) (fun x=>H.set kid x.o) (fun x=>x.i≤(n+7) / 8∧KeySt k x.o∧(0<x.i→Made k x.o)) (fun x=>(n+7) / 8 - x.i) ⟨⟨0,so⟩,⟨Nat.zero_le _,hso,fun h=>absurd h (Nat.lt_irrefl 0)⟩,⟨rfl,rfl,rfl,rfl,rfl,zqv⟩,(set_self hid).symm⟩ ?_
 rintro ⟨i,o⟩ ⟨hi,ho,hm⟩
 replace hi:i≤(n+7) / 8:=hi
 replace ho:KeySt k o:=ho
 replace hm:0<i→Made k o:=hm
 have hsl:=strN_len k nn i
 conv=>whnf
 refine ⟨fun h=>?_,fun h=>?_⟩
 ·have h:((strN k nn i).length:Int)<n:=h
  rw [hsl] at h
  conv=>whnf
  refine ⟨by decide,?_⟩
  conv=>whnf
  have hst:(∃v,(H.set kid o)[kid]? = some (keyO k 0 0 0 (List.replicate 27 0) 0 v))∨(∃v,(H.set kid o)[kid]? = some (keyO k 1 0 0 (spW k) 1 v)):=by
   rw [List.getElem?_set_self hlt]
   rcases ho with ⟨v,rfl⟩ | ⟨v,rfl⟩
   ·exact .inl ⟨v,rfl⟩
   ·exact .inr ⟨v,rfl⟩
  refine cO (Q:=fun r H'=>r=.tup [.int .u32 (blkP k nn i).1,.int .u32 (blkP k nn i).2]∧∃v',H'=H.set kid (keyO k 1 0 0 (spW k) 1 v')) ((c171 hw k hk kid (H.set kid o) hst _ _).mono fun r H' hh=>?_) ?_
  ·obtain ⟨h1,v',h2⟩:=hh
   exact ⟨h1,v',by rw [h2,List.set_set]⟩
  rintro _ _ ⟨rfl,v',rfl⟩
  conv=>whnf
  generalize hx:(blkP k nn i).1=x
  generalize hy:(blkP k nn i).2=y
  refine lO Nat (fun j=>[(0,.ptr (some (kid,0))),(1,.int .u64 nn),(2,.int .i64 n),(7,ow (strN k nn i++(le4 x++le4 y).take (4*j))),(8,.int .u32 i),(42,.slice 2 [.int .u32 x,.int .u32 y] (some 243)),(43,.int .i64 2),(44,.int .i64 j)]) (fun _=>H.set kid (keyO k 1 0 0 (spW k) 1 v')) (fun j=>j≤2) (fun j=>2 - j) ⟨0,Nat.zero_le _,⟨rfl,rfl,rfl,?_,rfl,rfl,rfl,rfl,zqv⟩,rfl⟩ ?_
  ·show ow (strN k nn i)=ow (strN k nn i++[])
   rw [List.append_nil]
  intro j hj
  have happ:∀(a b:List UInt8),b.length=4→a.length≤2000000→(a.length+4)*1≤140737488355328∧(b.map bC).length=4*1∧(b.map bC).all oneP=true:=fun a b hb ha=>⟨by omega,by simp [hb],allOne b⟩
  match j,hj with
  | 0,_ =>
   conv=>whnf
   refine ⟨fun _=>?_,fun h=>absurd (show ((0:Nat):Int)<2 by decide) h⟩
   conv=>whnf
   refine ⟨⟨by decide,by decide⟩,[.int .u32 x],at1' (k:=0) rfl,?_⟩
   conv=>whnf
   refine ⟨by decide,?_⟩
   conv=>whnf
   refine ⟨by decide,?_⟩
   conv=>whnf
   refine ⟨by decide,?_⟩
   conv=>whnf
   refine ⟨⟨by show ((strN k nn i++(le4 x++le4 y).take (4*0)).length+4)*1≤_;rw [zqf,hsl];simp;omega,rfl,rfl⟩,?_⟩
   conv=>whnf
   refine ⟨1,by decide,⟨rfl,rfl,rfl,?_,rfl,rfl,rfl,rfl,zqv⟩,rfl,by decide⟩
   show PV.slice ((strN k nn i++(le4 x++le4 y).take (4*0)).length+4) ((strN k nn i++(le4 x++le4 y).take (4*0)).map bC++[PV.int .u8 (IntKind.u8.wrap x),.int .u8 (IntKind.u8.wrap (ishr .u32 x 8)),.int .u8 (IntKind.u8.wrap (ishr .u32 x 16)),.int .u8 (IntKind.u8.wrap (ishr .u32 x 24))]) (some 5)=ow (strN k nn i++(le4 x++le4 y).take (4*1))
   rw [le4_cells,ow_app' _ (le4 x) (n:=4) rfl,List.append_assoc]
   rfl
  | 1,_ =>
   conv=>whnf
   refine ⟨fun _=>?_,fun h=>absurd (show ((1:Nat):Int)<2 by decide) h⟩
   conv=>whnf
   refine ⟨⟨by decide,by decide⟩,[.int .u32 y],at1' (k:=1) rfl,?_⟩
   conv=>whnf
   refine ⟨by decide,?_⟩
   conv=>whnf
   refine ⟨by decide,?_⟩
   conv=>whnf
   refine ⟨by decide,?_⟩
   conv=>whnf
   refine ⟨⟨by show ((strN k nn i++(le4 x++le4 y).take (4*1)).length+4)*1≤_;rw [zqf,hsl];simp;omega,rfl,rfl⟩,?_⟩
   conv=>whnf
   refine ⟨2,by decide,⟨rfl,rfl,rfl,?_,rfl,rfl,rfl,rfl,zqv⟩,rfl,by decide⟩
   show PV.slice ((strN k nn i++(le4 x++le4 y).take (4*1)).length+4) ((strN k nn i++(le4 x++le4 y).take (4*1)).map bC++[PV.int .u8 (IntKind.u8.wrap y),.int .u8 (IntKind.u8.wrap (ishr .u32 y 8)),.int .u8 (IntKind.u8.wrap (ishr .u32 y 16)),.int .u8 (IntKind.u8.wrap (ishr .u32 y 24))]) (some 5)=ow (strN k nn i++(le4 x++le4 y).take (4*2))
   rw [le4_cells,ow_app' _ (le4 y) (n:=4) rfl,List.append_assoc]
   rfl
  | 2,_ =>
   conv=>whnf
   refine ⟨fun h=>absurd h (by decide),fun _=>?_⟩
   conv=>whnf
   refine ⟨⟨i+1,keyO k 1 0 0 (spW k) 1 v'⟩,⟨by show i+1≤(n+7) / 8;omega,.inr ⟨v',rfl⟩,fun _=>⟨v',rfl⟩⟩,⟨rfl,rfl,rfl,?_,?_,zqv⟩,rfl,by show (n+7) / 8 - (i+1)<(n+7) / 8 - i;omega⟩
   ·subst hx hy
    rfl
   ·show PV.int _ (IntKind.u32.wrap ((i:Int)+1))=PV.int _ ((i+1:Nat):Int)
    rw [←wrap32 (n:=i+1) (by omega)];rfl
 ·have h:¬((strN k nn i).length:Int)<n:=h
  rw [hsl] at h
  have e:i=(n+7) / 8:=by omega
  conv=>whnf
  refine ⟨⟨by decide,by omega,by show (n:Int)≤((strN k nn i).length:Int);omega⟩,?_⟩
  conv=>whnf
  refine ⟨?_,o,hm (by omega),rfl⟩
  refine (sl_cut2 (strN k nn i) 0 n ⟨by omega,by omega,by omega⟩).trans ?_
  rw [Int.toNat_natCast,e]
  rfl
end Go.Proofs.Tryz
/- CEval, part 11: what is known of calls. -/
namespace Ps
open Go
noncomputable section
abbrev EX:=List PV→CH→CC
structure ExOk (P:Program) (f:Nat) (e:EX):Prop where
 ok:∀args h r h',e args h=.ok r h'→∀H,RH H h→CK P f args H fun r' H'=>r'=r∧RH H' h'
 pure:∀args h r,e args h=.pure r→∀H,RH H h→CK P f args H fun r' H'=>r'=r∧H'=H
def extOf (t:Tr EX) (call:Nat→List PV→CH→CC) (f:Nat) (args:List PV) (h:CH):CC:=match t.get f with
 | some e=>e args h
 | none=>.err 0
def ExAll (P:Program):List (Nat×EX)→Prop
 | []=>True
 | (f,e)::r=>ExOk P f e∧ExAll P r
theorem ExAll_mem {P:Program}:∀{l:List (Nat×EX)},ExAll P l→∀{f:Nat} {e:EX},(f,e)∈l→ExOk P f e
 | [],_,_,_,h=>by cases h
 | (f,e)::r,ha,f',e',h=>by
  rcases List.mem_cons.1 h with h | h
  ·cases h;exact ha.1
  ·exact ExAll_mem ha.2 h
theorem extOf_ok {P:Program} {t:Tr EX} (h:ExAll P (t.toL fun j=>j)) (call:Nat→List PV→CH→CC) (hc:CallS P call):CallS P (extOf t call):=by
 refine ⟨fun f args hh r h' hr H rh=>?_,fun f args hh r hr H rh=>?_⟩
 ·unfold extOf at hr
  split at hr
  ·rename_i e he
   exact (ExAll_mem h (Tr.mem_toL t (fun j=>j) f e he)).ok _ _ _ _ hr H rh
  ·cases hr
 ·unfold extOf at hr
  split at hr
  ·rename_i e he
   exact (ExAll_mem h (Tr.mem_toL t (fun j=>j) f e he)).pure _ _ _ hr H rh
  ·cases hr
def pureE (g:List PV→CV):EX:=fun args h=>match g args with
 | .ok v=>.pure v
 | .err n=>.err n
theorem pureE_ok {P:Program} {f:Nat} {g:List PV→CV} (h:∀args v,g args=.ok v→Pure P f args v):ExOk P f (pureE g):=by
 refine ⟨fun args hh r h' hr=>?_,fun args hh r hr H rh=>?_⟩
 ·unfold pureE at hr
  split at hr <;> cases hr
 ·unfold pureE at hr
  split at hr
  ·rename_i v hv
   cases hr
   exact h _ _ hv H
  ·cases hr
def numAdd (k:IntKind):EX:=fun args h=>match args with
 | [.ptr (some (id,off)),.int k' m]=>match kindEq k k' with
  | true=>match h.get id with
   | some o=>match nth o.cs off with
    | some (.int k'' n)=>match kindEq k k'' with
     | true=>fI (cW k (n+m)) fun x=>fL (setCells off [.int k x] o.cs) fun cs=>fN (Nat.succ o.ver) fun w=>.ok (.int k x) (h.set id ⟨o.T,cs,w⟩)
     | false=>.err 951
    | _=>.err 952
   | none=>.err 953
  | false=>.err 951
 | _=>.err 954
theorem numAdd_ok {P:Program} {k:IntKind} {f:Nat} (hf:∀{H:PH} {id off:Nat} {o:PObj} {n:Int} (m:Int),H[id]? = some o→o.cs[off]? = some (.int k n) →
  CK P f [.ptr (some (id,off)),.int k m] H fun r H'=>r=.int k (k.wrap (n+m))∧H'=H.set id ⟨o.T,setCells off [.int k (k.wrap (n+m))] o.cs,o.ver+1⟩):ExOk P f (numAdd k):=by
 refine ⟨fun args hh r h' hr H rh=>?_,fun args hh r hr=>?_⟩
 ·unfold numAdd at hr
  split at hr
  ·rename_i id off k' m
   split at hr
   ·rename_i h1
    have h1:=kindEq_eq h1
    subst h1
    split at hr
    ·rename_i o ho
     split at hr
     ·rename_i k'' n hn
      split at hr
      ·rename_i h2
       have h2:=kindEq_eq h2
       subst h2
       rw [fI_eq,fL_eq,fN_eq,cW_eq] at hr
       cases hr
       rw [nth_eq] at hn
       have ho:=rh.look ho
       refine (hf m ho hn).mono fun r' H' hh=>⟨hh.1,?_⟩
       rw [hh.2]
       exact rh.set ho
      ·cases hr
     ·cases hr
    ·cases hr
   ·cases hr
  ·cases hr
 ·unfold numAdd at hr
  split at hr
  ·split at hr
   ·split at hr
    ·split at hr
     ·split at hr
      ·rw [fI_eq,fL_eq,fN_eq] at hr;cases hr
      ·cases hr
     ·cases hr
    ·cases hr
   ·cases hr
  ·cases hr
def numLoad (k:IntKind):EX:=fun args h=>match args with
 | [.ptr (some (id,off))]=>match h.get id with
  | some o=>match nth o.cs off with
   | some (.int k' n)=>match kindEq k k' with
    | true=>.pure (.int k n)
    | false=>.err 955
   | _=>.err 956
  | none=>.err 957
 | _=>.err 958
theorem numLoad_ok {P:Program} {k:IntKind} {f:Nat} (hf:∀{H:PH} {id off:Nat} {o:PObj} {n:Int},H[id]? = some o→o.cs[off]? = some (.int k n) →
  CK P f [.ptr (some (id,off))] H fun r H'=>r=.int k n∧H'=H):ExOk P f (numLoad k):=by
 refine ⟨fun args hh r h' hr=>?_,fun args hh r hr H rh=>?_⟩
 ·unfold numLoad at hr
  split at hr
  ·split at hr
   ·split at hr
    ·split at hr <;> cases hr
    ·cases hr
   ·cases hr
  ·cases hr
 ·unfold numLoad at hr
  split at hr
  ·split at hr
   ·rename_i o ho
    split at hr
    ·rename_i k' n hn
     split at hr
     ·rename_i h1
      have h1:=kindEq_eq h1
      subst h1
      cases hr
      rw [nth_eq] at hn
      exact hf (rh.look ho) hn
     ·cases hr
    ·cases hr
   ·cases hr
  ·cases hr
end
end Ps
namespace Go.Proofs.Tryz
open Go Ps
/-! What the Acceptor's seat knows ahead. -/
noncomputable def countG (args:List PV):CV:=match args with
 | [.str s,.int .u8 (.ofNat m)]=>match Nat.blt m 256 with
  | true=>vI .i64 (Lib.countByte s (UInt8.ofNat m))
  | false=>.err 960
 | _=>.err 960
theorem byteC_nat {m:Nat} (h:Nat.blt m 256=true):PV.int .u8 (.ofNat m)=bC (UInt8.ofNat m):=by
 rw [Nat.blt_eq] at h
 have:(UInt8.ofNat m).toNat=m:=by simp [UInt8.toNat_ofNat'];omega
 rw [bC,this];rfl
theorem ex263:ExOk prog 309 (pureE countG):=pureE_ok fun args v hv=>by
 unfold countG at hv
 split at hv
 ·split at hv
  ·rename_i h1
   rw [vI_eq] at hv;cases hv
   rw [byteC_nat h1];exact c309 _ _
  ·cases hv
 ·cases hv
noncomputable def indexG (args:List PV):CV:=match args with
 | [.str s,.int .u8 (.ofNat m)]=>match Nat.blt m 256 with
  | true=>vI .i64 (Lib.indexByte s (UInt8.ofNat m))
  | false=>.err 961
 | _=>.err 961
theorem ex280:ExOk prog 321 (pureE indexG):=pureE_ok fun args v hv=>by
 unfold indexG at hv
 split at hv
 ·split at hv
  ·rename_i h1
   rw [vI_eq] at hv;cases hv
   rw [byteC_nat h1];exact c321 _ _
  ·cases hv
 ·cases hv
noncomputable def slF (b:List UInt8):CV:=byL b fun cs=>fN b.length fun n=>.ok (.slice n cs none)
theorem slF_eq (b:List UInt8):slF b=.ok (sl b):=by unfold slF;rw [byL_eq,fN_eq];rfl
noncomputable def sealG (args:List PV):CV:=match args with
 | [.agg kc,.int .i64 (.ofNat u),.int .i64 (.ofNat n),.slice m cs none]=>toBy (.err 962) kc fun k=>toBy (.err 963) cs fun p=>match Nat.beq k.length 32 with
  | true=>match Nat.ble u 255 with
   | true=>match Nat.ble n 1099511627776 with
    | true=>match Nat.ble p.length 784 with
     | true=>match Nat.beq m p.length with
      | true=>sealF k (.ofNat u) (.ofNat n) p fun b=>byL b fun cs=>fN b.length fun l=>.ok (.tup [.slice l cs (some T5),.int .i64 0])
      | false=>.err 964
     | false=>.err 964
    | false=>.err 964
   | false=>.err 964
  | false=>.err 964
 | _=>.err 965
where T5:Nat:=match ow [] with | .slice _ _ (some t)=>t | _=>0
noncomputable def cloneG (args:List PV):CV:=match args with
 | [.slice m cs none]=>toBy (.err 970) cs fun b=>match Nat.ble b.length 140737488355328 with
  | true=>match Nat.beq m b.length with
   | true=>.ok (.slice m cs (some sealG.T5))
   | false=>.err 971
  | false=>.err 971
 | _=>.err 972
theorem ex217:ExOk prog 105 (pureE cloneG):=pureE_ok fun args v hv=>by
 unfold cloneG at hv
 split at hv
 ·rename_i m cs
  obtain ⟨b,e1,hv1⟩:=toBy_ok hv (by simp)
  clear hv
  subst e1
  have hv:=hv1
  split at hv
  ·rename_i h1
   split at hv
   ·rename_i h2
    have h2:=zqg h2
    subst h2
    cases hv
    exact clone140 b (zqh h1)
   ·cases hv
  ·cases hv
 ·cases hv
theorem ex85:ExOk prog 159 (numAdd .i64):=numAdd_ok fun m ho hc=>callOk_add func159 (by kernel_rfl) (by kernel_rfl) (by kernel_rfl) .i64 (by kernel_rfl) m ho hc
theorem ex90:ExOk prog 213 (numLoad .i64):=numLoad_ok fun ho hc=>callOk_load func213 (by kernel_rfl) (by kernel_rfl) (by kernel_rfl) .i64 (by kernel_rfl) ho hc
def ttKeyT:Nat:=(keyO [] 0 0 0 [] 0 0).T
noncomputable def streamE:EX:=fun args h=>match args with
 | [.ptr (some (kid,0)),.int .u64 (.ofNat nn),.int .i64 (.ofNat n)]=>match h.get kid with
  | some o=>toBy (.err 981) (o.cs.take 16) fun k=>match Nat.beq k.length 16 with
   | true=>match Nat.ble n 1000000 with
    | true=>match Nat.ble 1 n with
     | true=>match Nat.beq o.T ttKeyT with
      | true=>wordsF k fun ws=>match pvsEq o.cs (keyO k 0 0 0 (List.replicate 27 0) 0 0).cs||pvsEq o.cs (keyO k 1 0 0 ws 1 0).cs with
       | true=>streamF k (.ofNat nn) n fun st=>byL st fun cs=>fL (keyO k 1 0 0 ws 1 0).cs fun kc=>fN (Nat.succ o.ver) fun w=>.ok (.slice n cs none) (h.set kid ⟨ttKeyT,kc,w⟩)
       | false=>.err 982
      | false=>.err 983
     | false=>.err 984
    | false=>.err 984
   | false=>.err 985
  | none=>.err 986
 | _=>.err 987
theorem keyO_ver (k:List UInt8) (d m s:Int) (l:List Int) (md:Int) (v:Nat):keyO k d m s l md v=⟨ttKeyT,(keyO k d m s l md 0).cs,v⟩:=rfl
theorem ex218:ExOk prog 120 streamE:=by
 refine ⟨fun args hh r h' hr H rh=>?_,fun args hh r hr=>?_⟩
 ·unfold streamE at hr
  split at hr
  ·rename_i kid nn n
   split at hr
   ·rename_i o ho
    have ho:=rh.look ho
    obtain ⟨k,e1,hr1⟩:=toBy_ok hr (by simp)
    clear hr
    have hr:=hr1
    split at hr
    ·rename_i h1
     have h1:=zqg h1
     split at hr
     ·rename_i h2
      split at hr
      ·rename_i h3
       split at hr
       ·rename_i h4
        have h4:=zqg h4
        rw [wordsF_eq] at hr
        split at hr
        ·rename_i h5
         rw [streamF_eq,byL_eq,fL_eq,fN_eq] at hr
         cases hr
         have hst:KeySt k o:=by
          rw [Bool.or_eq_true] at h5
          obtain ⟨T,cs,v⟩:=o
          simp only at h4
          subst h4
          rcases h5 with h5 | h5
          ·have:=pvsEq_eq _ _ h5
           simp only at this
           exact .inl ⟨v,by rw [keyO_ver,this]⟩
          ·have:=pvsEq_eq _ _ h5
           simp only at this
           exact .inr ⟨v,by rw [keyO_ver,this]⟩
         have hlt:kid<H.length:=(zq1.1 ho).1
         have hc:=c120m wordsOk k h1 kid (.ofNat nn) n (zqh h2) (zqh h3) o hst H ho
         refine (CK.ver (kid:=kid) hc (R:=fun r' H'=>r'=.slice n ((streamV k (.ofNat nn) n).map bC) none∧RH H' (hh.set kid ⟨ttKeyT,(keyO k 1 0 0 (spW k) 1 0).cs,Nat.succ o.ver⟩)) fun r' H' hq=>?_)
         obtain ⟨rfl,o',⟨v,rfl⟩,rfl⟩:=hq
         refine ⟨_,o.ver+1,List.getElem?_set_self hlt,fun o2 h2=>by rw [ho] at h2;cases h2;exact Nat.lt_succ_self _,?_,?_⟩
         ·unfold sl
          rw [streamV_len]
         ·rw [List.set_set]
          exact rh.set ho
        ·cases hr
       ·cases hr
      ·cases hr
     ·cases hr
    ·cases hr
   ·cases hr
  ·cases hr
 ·unfold streamE at hr
  split at hr
  ·split at hr
   ·obtain ⟨k,e1,hr1⟩:=toBy_ok hr (by simp)
    clear hr
    have hr:=hr1
    split at hr
    ·split at hr
     ·split at hr
      ·split at hr
       ·rw [wordsF_eq] at hr
        split at hr
        ·rw [streamF_eq,byL_eq,fL_eq,fN_eq] at hr
         cases hr
        ·cases hr
       ·cases hr
      ·cases hr
     ·cases hr
    ·cases hr
   ·cases hr
  ·cases hr
noncomputable def rowsF {α:Type} (z:α):List PV→(List (List UInt8)→α)→α
 | [],K=>K []
 | .slice n cs none::r,K=>toBy z cs fun b=>match Nat.beq n b.length with
  | true=>rowsF z r fun l=>K (b::l)
  | false=>z
 | _,_=>z
theorem rowsF_ok {α:Type} {z:α}:∀{cs:List PV} {K:List (List UInt8)→α} {r:α},rowsF z cs K=r→r≠z→∃l,cs=l.map sl∧K l=r
 | [],K,r,h,hz=>⟨[],rfl,h⟩
 | c::rest,K,r,h,hz=>by
  unfold rowsF at h
  split at h
  ·rename_i heq;cases heq
  ·rename_i n cs r' K' heq
   cases heq
   obtain ⟨b,e1,h1⟩:=toBy_ok h hz
   split at h1
   ·rename_i hn
    obtain ⟨l,e2,h2⟩:=rowsF_ok h1 hz
    refine ⟨b::l,?_,h2⟩
    rw [e2,e1,zqg hn];rfl
   ·exact absurd h1.symm hz
  ·exact absurd h.symm hz
noncomputable def sumG (args:List PV):CV:=match args with
 | [.agg kc,.slice m rs none]=>toBy (.err 991) kc fun k=>rowsF (.err 992) rs fun l=>match Nat.beq k.length 16 with
  | true=>match Nat.beq m l.length with
   | true=>match Nat.ble l.length 1099511627776 with
    | true=>match Nat.ble l.flatten.length 1099511627776 with
     | true=>sipF k l.flatten fun x=>.ok (.int .u64 x)
     | false=>.err 993
    | false=>.err 993
   | false=>.err 993
  | false=>.err 993
 | _=>.err 994
theorem ex216:ExOk prog 160 (pureE sumG):=pureE_ok fun args v hv=>by
 unfold sumG at hv
 split at hv
 ·rename_i kc m rs
  obtain ⟨k,e1,hv1⟩:=toBy_ok hv (by simp)
  clear hv
  obtain ⟨l,e2,hv⟩:=rowsF_ok hv1 (by simp)
  clear hv1
  subst e1 e2
  split at hv
  ·rename_i h1
   split at hv
   ·rename_i h2
    split at hv
    ·rename_i h3
     split at hv
     ·rename_i h4
      rw [sipF_eq] at hv
      cases hv
      have h2:=zqg h2
      subst h2
      exact fun H=>c160 k (zqg h1) l (zqh h3) (zqh h4) (Reps.sl H l)
     ·cases hv
    ·cases hv
   ·cases hv
  ·cases hv
 ·cases hv
noncomputable def exA1:Tr EX:=((((((Tr.nil.set (pureE countG) 309).set (pureE indexG) 321).set (pureE cloneG) 105).set (numAdd .i64) 159).set (numLoad .i64) 213).set streamE 120).set (pureE sumG) 160
def ttCl:TT:=[(9,⟨.str,1,16,[.str []]⟩),(58,⟨.slice 9,1,24,[.slice 0 [] (some 9)]⟩),(59,⟨.slice 142,1,24,[.slice 0 [] (some 142)]⟩),(60,⟨.slice 146,1,24,[.slice 0 [] (some 146)]⟩),(142,⟨.arr 2 9,2,32,[.str [],.str []]⟩),(146,⟨.strct [(9,0),(9,1),(58,2)],3,56,[.str [],.str [],.slice 0 [] (some 9)]⟩)]
theorem ttCl_ok:ttOk prog ttCl=true:=by kernel_rfl
def imm45:List Nat:=[]
def imm118:List Nat:=[]
def imm119:List Nat:=[]
theorem cl118 (n:Nat) (cs:List PV) (e sz by_:Nat) (he:e=9) (hz:sz=1) (hy:by_=16) (hl:cs.length=n*sz) (h1:cs.all oneP=true) (hb:(0+n)*by_≤140737488355328):Pure prog 45 [.slice n cs none] (.slice n cs (some e)):=by
 subst he hz hy
 intro H
 (refine fnS (imm:=imm45) ttCl_ok func45 ?_;(conv=>whnf))
 refine ⟨fun h=>?_,fun h=>⟨?_,?_⟩⟩
 ·conv=>whnf
  refine ⟨⟨hb,hl,h1⟩,?_⟩
  conv=>whnf
  exact ⟨by rw [Nat.zero_add];rfl,rfl⟩
 ·conv=>whnf
  subst h
  have e:cs=[]:=List.length_eq_zero_iff.1 (by simpa using hl)
  subst e
  exact ⟨rfl,rfl⟩
 ·conv=>whnf
  refine ⟨⟨hb,hl,h1⟩,?_⟩
  conv=>whnf
  exact ⟨by rw [Nat.zero_add];rfl,rfl⟩
theorem cl119 (n:Nat) (cs:List PV) (e sz by_:Nat) (he:e=142) (hz:sz=2) (hy:by_=32) (hl:cs.length=n*sz) (h1:cs.all oneP=true) (hb:(0+n)*by_≤140737488355328):Pure prog 118 [.slice n cs none] (.slice n cs (some e)):=by
 subst he hz hy
 intro H
 (refine fnS (imm:=imm118) ttCl_ok func118 ?_;(conv=>whnf))
 refine ⟨fun h=>?_,fun h=>⟨?_,?_⟩⟩
 ·conv=>whnf
  refine ⟨⟨hb,hl,h1⟩,?_⟩
  conv=>whnf
  exact ⟨by rw [Nat.zero_add];rfl,rfl⟩
 ·conv=>whnf
  subst h
  have e:cs=[]:=List.length_eq_zero_iff.1 (by simpa using hl)
  subst e
  exact ⟨rfl,rfl⟩
 ·conv=>whnf
  refine ⟨⟨hb,hl,h1⟩,?_⟩
  conv=>whnf
  exact ⟨by rw [Nat.zero_add];rfl,rfl⟩
theorem cl120 (n:Nat) (cs:List PV) (e sz by_:Nat) (he:e=146) (hz:sz=3) (hy:by_=56) (hl:cs.length=n*sz) (h1:cs.all oneP=true) (hb:(0+n)*by_≤140737488355328):Pure prog 119 [.slice n cs none] (.slice n cs (some e)):=by
 subst he hz hy
 intro H
 (refine fnS (imm:=imm119) ttCl_ok func119 ?_;(conv=>whnf))
 refine ⟨fun h=>?_,fun h=>⟨?_,?_⟩⟩
 ·conv=>whnf
  refine ⟨⟨hb,hl,h1⟩,?_⟩
  conv=>whnf
  exact ⟨by rw [Nat.zero_add];rfl,rfl⟩
 ·conv=>whnf
  subst h
  have e:cs=[]:=List.length_eq_zero_iff.1 (by simpa using hl)
  subst e
  exact ⟨rfl,rfl⟩
 ·conv=>whnf
  refine ⟨⟨hb,hl,h1⟩,?_⟩
  conv=>whnf
  exact ⟨by rw [Nat.zero_add];rfl,rfl⟩
noncomputable def clE (e sz by_:Nat) (args:List PV):CV:=match args with
 | [.slice n cs none]=>match Nat.beq cs.length (Nat.mul n sz) with
  | true=>match cs.all oneP with
   | true=>match Nat.ble (Nat.mul (Nat.add 0 n) by_) 140737488355328 with
    | true=>.ok (.slice n cs (some e))
    | false=>.err 995
   | false=>.err 995
  | false=>.err 995
 | _=>.err 996
theorem clE_ok {f e sz by_:Nat} (h:∀n cs,cs.length=n*sz→cs.all oneP=true→(0+n)*by_≤140737488355328→Pure prog f [.slice n cs none] (.slice n cs (some e))):ExOk prog f (pureE (clE e sz by_)):=pureE_ok fun args v hv=>by
 unfold clE at hv
 split at hv
 ·split at hv
  ·rename_i h1
   split at hv
   ·rename_i h2
    split at hv
    ·rename_i h3
     cases hv
     exact h _ _ (zqg h1) h2 (zqh h3)
    ·cases hv
   ·cases hv
  ·cases hv
 ·cases hv
theorem ex118:ExOk prog 45 (pureE (clE 9 1 16)):=clE_ok fun n cs a b c=>cl118 n cs _ _ _ rfl rfl rfl a b c
theorem ex119:ExOk prog 118 (pureE (clE 142 2 32)):=clE_ok fun n cs a b c=>cl119 n cs _ _ _ rfl rfl rfl a b c
theorem ex120:ExOk prog 119 (pureE (clE 146 3 56)):=clE_ok fun n cs a b c=>cl120 n cs _ _ _ rfl rfl rfl a b c
noncomputable def exA2:Tr EX:=((exA1.set (pureE (clE 9 1 16)) 45).set (pureE (clE 142 2 32)) 118).set (pureE (clE 146 3 56)) 119
noncomputable def catG (args:List PV):CV:=match args with
 | [.slice m rs none]=>rowsF (.err 997) rs fun l=>match Nat.beq m l.length with
  | true=>match Nat.ble l.length 1099511627776 with
   | true=>match Nat.ble l.flatten.length 1099511627776 with
    | true=>slF l.flatten
    | false=>.err 998
   | false=>.err 998
  | false=>.err 998
 | _=>.err 999
theorem ex236:ExOk prog 156 (pureE catG):=pureE_ok fun args v hv=>by
 unfold catG at hv
 split at hv
 ·rename_i m rs
  obtain ⟨l,e2,hv1⟩:=rowsF_ok hv (by simp)
  clear hv
  have hv:=hv1
  subst e2
  split at hv
  ·rename_i h2
   split at hv
   ·rename_i h3
    split at hv
    ·rename_i h4
     rw [slF_eq] at hv
     cases hv
     have h2:=zqg h2
     subst h2
     exact fun H=>c156 l (zqh h3) (zqh h4) (Reps.sl H l)
    ·cases hv
   ·cases hv
  ·cases hv
 ·cases hv
noncomputable def exA3:Tr EX:=exA2.set (pureE catG) 156
def ttBoxT:Nat:=(boxS 0 [] 0 0 0 0).T
noncomputable def mixE:EX:=fun args h=>match args with
 | [.ptr (some (bid,0)),.int .i64 (.ofNat u),.int .u64 (.ofNat nn),.slice m cs none]=>toBy (.err 1001) cs fun p=>match Nat.beq m p.length with
  | true=>match Nat.ble p.length 1000000 with
   | true=>match Nat.ble 1 p.length with
    | true=>match h.get bid with
     | some ob=>match Nat.beq ob.T ttBoxT with
      | true=>match ob.cs with
       | .ptr (some (sid,0))::rest=>toBy (.err 1002) (rest.take 16) fun sp=>match Nat.beq sp.length 16 with
        | true=>match rest.drop 16 with
         | [.int .i64 _,.int .i64 _,.int .i64 _]=>match h.get sid with
          | some o=>toBy (.err 1003) (o.cs.take 16) fun k=>match Nat.beq k.length 16 with
           | true=>match Nat.beq o.T ttKeyT with
            | true=>wordsF k fun ws=>match pvsEq o.cs (keyO k 0 0 0 (List.replicate 27 0) 0 0).cs||pvsEq o.cs (keyO k 1 0 0 ws 1 0).cs with
             | true=>mixF (.ofNat nn) (.ofNat u) fun mx=>streamF k mx p.length fun st=>xorF p st fun x=>byL x fun cs=>fN x.length fun n=>fL (keyO k 1 0 0 ws 1 0).cs fun kc=>fN (Nat.succ o.ver) fun w=>.ok (.slice n cs none) (h.set sid ⟨ttKeyT,kc,w⟩)
             | false=>.err 1004
            | false=>.err 1005
           | false=>.err 1006
          | none=>.err 1007
         | _=>.err 1008
        | false=>.err 1009
       | _=>.err 1010
      | false=>.err 1011
     | none=>.err 1012
    | false=>.err 1013
   | false=>.err 1013
  | false=>.err 1014
 | _=>.err 1015
theorem keySt_of {k:List UInt8} {o:PObj} (h4:o.T=ttKeyT) (h5:(pvsEq o.cs (keyO k 0 0 0 (List.replicate 27 0) 0 0).cs||pvsEq o.cs (keyO k 1 0 0 (spW k) 1 0).cs)=true):KeySt k o:=by
 rw [Bool.or_eq_true] at h5
 obtain ⟨T,cs,v⟩:=o
 simp only at h4
 subst h4
 rcases h5 with h5 | h5
 ·have:=pvsEq_eq _ _ h5
  simp only at this
  exact .inl ⟨v,by rw [keyO_ver,this]⟩
 ·have:=pvsEq_eq _ _ h5
  simp only at this
  exact .inr ⟨v,by rw [keyO_ver,this]⟩
theorem mixE_inv {args:List PV} {h:CH} {c:CC} (hr:mixE args h=c) (hn:∀n,c≠.err n):∃bid u nn p ob sid sp s o r so k,args=[.ptr (some (bid,0)),.int .i64 (.ofNat u),.int .u64 (.ofNat nn),sl p]∧p.length≤1000000∧1≤p.length∧h.get bid=some ob∧ob=boxS sid sp s o r ob.ver∧sp.length=16 ∧
  h.get sid=some so∧k.length=16∧KeySt k so∧c=.ok (sl (xorL p (streamV k (mixN (.ofNat nn) (.ofNat u)) p.length))) (h.set sid ⟨ttKeyT,(keyO k 1 0 0 (spW k) 1 0).cs,Nat.succ so.ver⟩):=by
 unfold mixE at hr
 split at hr
 ·rename_i bid u nn m cs
  obtain ⟨p,e1,hr1⟩:=toBy_ok hr (fun e=>hn _ e)
  clear hr
  subst e1
  split at hr1
  ·rename_i h1
   have h1:=zqg h1
   subst h1
   split at hr1
   ·rename_i h2
    split at hr1
    ·rename_i h3
     split at hr1
     ·rename_i ob hob
      split at hr1
      ·rename_i h4
       split at hr1
       ·rename_i sid rest hrest
        obtain ⟨sp,e2,hr2⟩:=toBy_ok hr1 (fun e=>hn _ e)
        clear hr1
        split at hr2
        ·rename_i h5
         split at hr2
         ·rename_i s o r hd
          split at hr2
          ·rename_i so hso
           obtain ⟨k,e3,hr3⟩:=toBy_ok hr2 (fun e=>hn _ e)
           clear hr2
           split at hr3
           ·rename_i h6
            split at hr3
            ·rename_i h7
             rw [wordsF_eq] at hr3
             split at hr3
             ·rename_i h8
              rw [mixF_eq,streamF_eq,xorF_eq,byL_eq,fN_eq,fL_eq,fN_eq] at hr3
              refine ⟨bid,u,nn,p,ob,sid,sp,s,o,r,so,k,rfl,zqh h2,zqh h3,hob,?_,zqg h5,hso,zqg h6,keySt_of (zqg h7) h8,hr3.symm⟩
              have h4:=zqg h4
              obtain ⟨T,cs,v⟩:=ob
              simp only at h4 hrest
              subst h4
              rw [hrest]
              have:rest=sp.map bC++[.int .i64 s,.int .i64 o,.int .i64 r]:=by rw [←e2,←hd,List.take_append_drop]
              rw [this]
              rfl
             ·exact absurd hr3.symm (hn _)
            ·exact absurd hr3.symm (hn _)
           ·exact absurd hr3.symm (hn _)
          ·exact absurd hr2.symm (hn _)
         ·exact absurd hr2.symm (hn _)
        ·exact absurd hr2.symm (hn _)
       ·exact absurd hr1.symm (hn _)
      ·exact absurd hr1.symm (hn _)
     ·exact absurd hr1.symm (hn _)
    ·exact absurd hr1.symm (hn _)
   ·exact absurd hr1.symm (hn _)
  ·exact absurd hr1.symm (hn _)
 ·exact absurd hr.symm (hn _)
theorem ex171:ExOk prog 101 mixE:=by
 refine ⟨fun args hh r h' hr H rh=>?_,fun args hh r hr=>?_⟩
 ·obtain ⟨bid,u,nn,p,ob,sid,sp,s,o,rr,so,k,rfl,hp2,hp1,hob,hbox,hsp,hso,hk,hst,hc⟩:=mixE_inv hr (by simp)
  cases hc
  have hob:=rh.look hob
  rw [hbox] at hob
  have hso:=rh.look hso
  have hlt:sid<H.length:=(zq1.1 hso).1
  have hcall:=c101 (Made k) (fun o' h=>h.st.flat) so sid (.ofNat nn) (.ofNat u) p (streamV k (mixN (.ofNat nn) (.ofNat u)) p.length) (streamV_len _ _ _) hp2
   (fun H1 h1=>c120m wordsOk k hk sid _ p.length hp2 hp1 so hst H1 h1) sp hsp s o rr ob.ver bid H hob hso
  refine CK.ver (kid:=sid) hcall (R:=fun r' H'=>r'=_∧RH H' (hh.set sid ⟨ttKeyT,(keyO k 1 0 0 (spW k) 1 0).cs,Nat.succ so.ver⟩)) fun r' H' hq=>?_
  obtain ⟨rfl,o',⟨v,rfl⟩,rfl⟩:=hq
  refine ⟨_,so.ver+1,List.getElem?_set_self hlt,fun o2 h2=>by rw [hso] at h2;cases h2;exact Nat.lt_succ_self _,rfl,?_⟩
  rw [List.set_set]
  exact rh.set hso
 ·obtain ⟨_,_,_,_,_,_,_,_,_,_,_,_,_,_,_,_,_,_,_,_,_,hc⟩:=mixE_inv hr (by simp)
  cases hc
noncomputable def exA4:Tr EX:=exA3.set mixE 101
open Go Ps Go.Shelf Go.RowKit
def ρ67:Ren:=⟨fun n=>if n=15 then 153 else 202,fun n=>if n=23 then 304 else if n=21 then 21 else n,fun n=>n⟩
def ttG:TT:=[(3,⟨.int .i64,1,8,[.int .i64 0]⟩),(9,⟨.str,1,16,[.str []]⟩),(304,⟨.fn,1,8,[.nilF]⟩)]
theorem ttG_ok:ttOk prog ttG=true:=by kernel_rfl
def imm90:List Nat:=[]
theorem lays153:LaysGw.n15 prog ρ67 where
 mixed:=by kernel_rfl
 f15:=by kernel_rfl
 f20:=by kernel_rfl
 t0:=by kernel_rfl
 a0:=fun w=>by rfl
 z0:=fun w=>by rfl
 v0:=fun w=>by rfl
 i0:=by kernel_rfl
 t3:=by kernel_rfl
 a3:=fun w=>by rfl
 z3:=fun w=>by rfl
 v3:=fun w=>by rfl
 i3:=by kernel_rfl
 t4:=by kernel_rfl
 a4:=fun w=>by rfl
 z4:=fun w=>by rfl
 v4:=fun w=>by rfl
 i4:=by kernel_rfl
 t9:=by kernel_rfl
 a9:=fun w=>by rfl
 z9:=fun w=>by rfl
 v9:=fun w=>by rfl
 i9:=by kernel_rfl
 t21:=by kernel_rfl
 a21:=fun w=>by rfl
 z21:=fun w=>by rfl
 v21:=fun w=>by rfl
 i21:=by kernel_rfl
 t23:=by kernel_rfl
 a23:=fun w=>by rfl
 z23:=fun w=>by rfl
 v23:=fun w=>by rfl
 i23:=by kernel_rfl
def badR (x:Nat):Bool:=decide (x<32)||decide (126<x)
def okT8 (b:UInt8):Bool:=decide (32≤b.toNat)&&decide (b.toNat≤126)
theorem dec_low (s:ByteArray) (i:Nat) (h:(s.get! i).toNat<128):Utf8.decode s i=((s.get! i).toNat,1):=by
 unfold Utf8.decode
 simp only [Nat.add_zero]
 rw [zqp h]
theorem dec_high (s:ByteArray) (i:Nat) (h:¬(s.get! i).toNat<128):128≤(Utf8.decode s i).1:=by
 unfold Utf8.decode
 simp only [Nat.add_zero]
 rw [zqo h]
 have e:Utf8.runeError=65533:=rfl
 split
 ·split
  ·assumption
  ·rw [e];decide
 ·split
  ·split
   ·rename_i h2
    have:(decide (2048≤_)&&_)=true:=h2
    rw [zqb] at this
    have:=of_decide_eq_true this.1
    omega
   ·rw [e];decide
  ·split
   ·split
    ·rename_i h2
     have:(decide (65536≤_)&&_)=true:=h2
     rw [zqb] at this
     have:=of_decide_eq_true this.1
     omega
    ·rw [e];decide
   ·rw [e];decide
theorem dec_bad (s:ByteArray) (i:Nat):badR (Utf8.decode s i).1=!okT8 (s.get! i):=by
 by_cases h:(s.get! i).toNat<128
 ·rw [dec_low s i h]
  unfold badR okT8
  by_cases h1:(s.get! i).toNat<32 <;> by_cases h2:126<(s.get! i).toNat <;> simp [h1,h2] <;> omega
 ·have:=dec_high s i h
  unfold badR okT8
  have h1:¬(s.get! i).toNat≤126:=by omega
  have h2:126<(Utf8.decode s i).1:=by omega
  simp [h1,h2]
theorem idx_from (s:ByteArray):∀(f pos:Nat),s.size≤pos+f→(Lib.idxFuncFrom badR true s f pos<0↔∀i,pos≤i→i<s.size→okT8 (s.get! i)=true)
 | 0,pos,h=>by
  rw [Lib.idxFuncFrom_end _ _ _ _ _ (by omega)]
  exact ⟨fun _ i h1 h2=>by omega,fun _=>by decide⟩
 | f+1,pos,h=>by
  unfold Lib.idxFuncFrom
  split
  ·rename_i hp
   rw [dec_bad]
   cases hb:okT8 (s.get! pos)
   ·simp only [Bool.not_false,if_true]
    exact ⟨fun h=>by omega,fun h=>by rw [h pos (zqn _) hp] at hb;cases hb⟩
   ·simp only [Bool.not_true,Bool.false_eq_true,if_false]
    have hlt:(s.get! pos).toNat<128:=by
     unfold okT8 at hb
     rw [zqb] at hb
     have:=of_decide_eq_true hb.2
     omega
    rw [dec_low s pos hlt,idx_from s f (pos+1) (by omega)]
    refine ⟨fun h i h1 h2=>?_,fun h i h1 h2=>h i (by omega) h2⟩
    by_cases e:i=pos
    ·rw [e];exact hb
    ·exact h i (by omega) h2
  ·rename_i hp
   exact ⟨fun _ i h1 h2=>by omega,fun _=>by decide⟩
theorem idx_text (s:List UInt8):(Lib.idxFunc badR true ⟨⟨s⟩⟩<0)↔s.all okT8=true:=by
 unfold Lib.idxFunc
 rw [idx_from _ _ _ (by omega),List.all_eq_true]
 have hg:∀i (h:i<s.length),(⟨⟨s⟩⟩:ByteArray).get! i=s[i]:=fun i h=>by
  show (Array.mk s)[i]! = s[i]
  simp [h]
 refine ⟨fun h x hx=>?_,fun h i _ hi=>?_⟩
 ·obtain ⟨i,hi,rfl⟩:=List.getElem_of_mem hx
  rw [←hg i hi]
  exact h i (Nat.zero_le _) hi
 ·have hi:i<s.length:=hi
  rw [hg i hi]
  exact h _ (List.getElem_mem hi)
theorem pred154 (W:World) (x:Nat) (hx:x≤1114111):FnGives prog 154 #[] #[.int .i32 (x:Int)] (.bool (badR x)) W:=by
 unfold FnGives
 go_enter Tryz.func154,Tryz.ntmps154
 go_wp2
 ·rename_i h
  go_ret
  refine ⟨zqm Ending.returned (show Value.bool (decide ((x:Int)<32)||decide (126<(x:Int)))=Value.bool (badR x) from zqm Value.bool ?_),0,rfl⟩
  unfold badR
  rw [decide_eq_decide.2 (show (x:Int)<32↔x<32 by omega),decide_eq_decide.2 (show 126<(x:Int)↔126<x by omega)]
 ·rename_i h
  go_ret
  refine ⟨zqm Ending.returned (show Value.bool true=Value.bool (badR x) from zqm Value.bool ?_),0,rfl⟩
  unfold badR
  have h2:x<32:=by omega
  rw [zqe h2,zq9]
theorem c153 (s:List UInt8):Pure prog 153 [.str s,.func 154 [] []] (.int .i64 (Lib.idxFunc badR true ⟨⟨s⟩⟩)):=fun H =>
 CK.of_below (fun g w=>.int _ _) fun g w vs hs hv=>by
  have h0:VC prog g w (Ps.valOf vs 0) (.str s):=hv 0
  have h1:VC prog g w (Ps.valOf vs 1) (.func 154 [] []):=hv 1
  have hvs:vs=#[.string ⟨⟨s⟩⟩,.func (.func 154) #[] #[]]:=by
   have e0:=h0.str
   obtain ⟨a,b,e1,z1,z2,_⟩:=(plain_of h1 (by simp) (by simp)).inv_func
   have z1:a=#[]:=Array.eq_empty_of_size_eq_zero z1
   have z2:b=#[]:=Array.eq_empty_of_size_eq_zero z2
   subst z1;subst z2
   match vs,hs with
   | ⟨[x,y]⟩,_ =>
    simp [Ps.valOf] at e0 e1
    rw [e0,e1];rfl
  subst hvs
  exact ⟨run_callFunc_body func153 (by kernel_rfl) (by kernel_rfl),Any.strings_IndexFunc_runes lays153 154 #[] (fun args w=>run_callFunc_body func154 (by kernel_rfl) (by kernel_rfl)) badR ⟨⟨s⟩⟩ w fun W x hx _=>pred154 W x hx⟩
def isTextB (s:List UInt8):Bool:=decide (s.length≤300)&&s.all okT8
theorem c90 (s:List UInt8):Pure prog 90 [.str s] (.bool (isTextB s)):=by
 intro H
 (refine fnS (imm:=imm90) ttG_ok func90 ?_;(conv=>whnf))
 refine ⟨fun h=>?_,fun h=>?_⟩
 ·conv=>whnf
  refine cP (c153 s) ?_
  conv=>whnf
  have e:decide (s.length≤300)=true:=zqe (by have h:(s.length:Int)≤300:=h;omega)
  unfold isTextB
  rw [e,zq5]
  refine ⟨fun h2=>?_,fun h2=>?_⟩
  ·conv=>whnf
   rw [(idx_text s).1 h2]
   exact ⟨rfl,rfl⟩
  ·conv=>whnf
   cases hb:s.all okT8
   ·exact ⟨rfl,rfl⟩
   ·exact absurd ((idx_text s).2 hb) h2
 ·conv=>whnf
  have e:decide (s.length≤300)=false:=zqd (by have h:¬(s.length:Int)≤300:=h;omega)
  unfold isTextB
  rw [e]
  exact ⟨rfl,rfl⟩
open Go Ps
noncomputable def textF (s:List UInt8):Bool:=List.rec (motive:=fun _=>Bool) true (fun b _ ih=>Bool.rec (motive:=fun _=>Bool) false (Bool.rec (motive:=fun _=>Bool) false ih (Nat.ble b.toNat 126)) (Nat.ble 32 b.toNat)) s
theorem textF_eq (s:List UInt8):textF s=s.all okT8:=by
 induction s with
 | nil=>rfl
 | cons b s ih =>
  rw [List.all_cons,←ih]
  show (Bool.rec (motive:=fun _=>Bool) false (Bool.rec (motive:=fun _=>Bool) false (textF s) (Nat.ble b.toNat 126)) (Nat.ble 32 b.toNat):Bool)=_
  unfold okT8
  cases h1:Nat.ble 32 b.toNat
  ·have:¬32≤b.toNat:=fun h=>by rw [Nat.ble_eq_true_of_le h] at h1;cases h1
   rw [zqd this];rfl
  ·rw [zqe (zqh h1)]
   cases h2:Nat.ble b.toNat 126
   ·have:¬b.toNat≤126:=fun h=>by rw [Nat.ble_eq_true_of_le h] at h2;cases h2
    rw [zqd this];rfl
   ·rw [zqe (zqh h2)];rfl
noncomputable def textG (args:List PV):CV:=match args with
 | [.str s]=>match Nat.ble s.length 300 with
  | true=>.ok (.bool (textF s))
  | false=>.ok (.bool false)
 | _=>.err 981
theorem ex219:ExOk prog 90 (pureE textG):=pureE_ok fun args v hv=>by
 unfold textG at hv
 split at hv
 ·rename_i s
  have h:=c90 s
  unfold isTextB at h
  split at hv
  ·rename_i h1
   cases hv
   rw [zqe (zqh h1),zq5,←textF_eq] at h
   exact h
  ·rename_i h1
   cases hv
   have:¬s.length≤300:=fun h=>by rw [Nat.ble_eq_true_of_le h] at h1;cases h1
   rw [zqd this,zq4] at h
   exact h
 ·cases hv
noncomputable def exA5:Tr EX:=exA4.set (pureE textG) 90
theorem u8w (n:Nat):IntKind.u8.wrap (n:Int)=((UInt8.ofNat n).toNat:Int):=by
 rw [UInt8.toNat_ofNat']
 simp [IntKind.wrap,IntKind.signed,IntKind.bits]
theorem shr8 (n:Nat):ishr .i64 (n:Int) 8=((n / 256:Nat):Int):=by
 show Int.fdiv (n:Int) (2 ^ (min (Int.toNat 8) 64))=_
 rw [show (2:Int) ^ (min (Int.toNat 8) 64)=256 from rfl,Int.fdiv_eq_ediv_of_nonneg _ (by decide)]
 omega
def lenB (n:Nat):List UInt8:=if n<128 then [UInt8.ofNat n] else if n≤255 then [129,UInt8.ofNat n] else [130,UInt8.ofNat (n / 256),UInt8.ofNat n]
theorem lenB_len (n:Nat):(lenB n).length≤3:=by unfold lenB;split <;> (try split) <;> simp
theorem c157 (n:Nat) (hn:n≤1099511627776) (H:PH):CK prog 157 [.int .i64 n] H fun r H'=>r=.slice (lenB n).length ((lenB n).map bC) (some 5)∧H'=H:=by
 (refine fnS (imm:=imm157) ttB_ok func157 ?_;(conv=>whnf))
 refine ⟨fun h=>?_,fun h=>?_⟩
 ·conv=>whnf
  have h:(n:Int)<128:=h
  have e:lenB n=[UInt8.ofNat n]:=by unfold lenB;rw [zqp (by omega)]
  rw [e]
  refine ⟨?_,rfl⟩
  show PV.slice 1 [PV.int .u8 (IntKind.u8.wrap (n:Int))] (some 5)=PV.slice 1 [PV.int .u8 ((UInt8.ofNat n).toNat:Int)] (some 5)
  rw [u8w]
 ·conv=>whnf
  have h:¬(n:Int)<128:=h
  refine ⟨fun h2=>?_,fun h2=>?_⟩
  ·conv=>whnf
   have h2:(n:Int)≤255:=h2
   have e:lenB n=[129,UInt8.ofNat n]:=by unfold lenB;rw [zqo (by omega),zqp (by omega)]
   rw [e]
   refine ⟨?_,rfl⟩
   show PV.slice 2 [PV.int .u8 129,PV.int .u8 (IntKind.u8.wrap (n:Int))] (some 5)=PV.slice 2 [PV.int .u8 129,PV.int .u8 ((UInt8.ofNat n).toNat:Int)] (some 5)
   rw [u8w]
  ·conv=>whnf
   have h2:¬(n:Int)≤255:=h2
   have e:lenB n=[130,UInt8.ofNat (n / 256),UInt8.ofNat n]:=by unfold lenB;rw [zqo (by omega),zqo (by omega)]
   rw [e]
   refine ⟨by decide,?_⟩
   conv=>whnf
   refine ⟨?_,rfl⟩
   show PV.slice 3 [PV.int .u8 130,PV.int .u8 (IntKind.u8.wrap (ishr .i64 (n:Int) 8)),PV.int .u8 (IntKind.u8.wrap (n:Int))] (some 5)=PV.slice 3 [PV.int .u8 130,PV.int .u8 ((UInt8.ofNat (n / 256)).toNat:Int),PV.int .u8 ((UInt8.ofNat n).toNat:Int)] (some 5)
   rw [shr8,u8w,u8w]
def wrapB (tag:UInt8) (b:List UInt8):List UInt8:=tag::(lenB b.length++b)
theorem c92 (tag:UInt8) (ls:List (List UInt8)) (hn:ls.length≤1099511627776) (ht:ls.flatten.length≤1099511627000) {H:PH} {cs:List PV} (hr:Reps H cs ls) :
  CK prog 92 [bC tag,.slice ls.length cs none] H fun r H'=>r=sl (wrapB tag ls.flatten)∧H'=H:=by
 (refine fnS (imm:=imm92) ttB_ok func92 ?_;(conv=>whnf))
 refine cO (c156 ls hn (by omega) hr) ?_
 rintro r H' ⟨rfl,rfl⟩
 conv=>whnf
 refine cO (c157 ls.flatten.length (by omega) H') ?_
 rintro r H'' ⟨rfl,rfl⟩
 conv=>whnf
 have hl:=lenB_len ls.flatten.length
 refine cO (c156 [[tag],lenB ls.flatten.length,ls.flatten] (by show 3≤_;omega) (by simp only [zqk,zql,zqf,List.length_cons,List.length_nil];omega) (Reps.sl H'' [[tag],lenB ls.flatten.length,ls.flatten])) ?_
 rintro r H3 ⟨rfl,rfl⟩
 conv=>whnf
 refine ⟨?_,rfl⟩
 show sl [[tag],lenB ls.flatten.length,ls.flatten].flatten=_
 congr 1
 simp [wrapB]
def le:Nat→Nat→List UInt8
 | 0,_=>[]
 | f+1,n=>if n=0 then [] else UInt8.ofNat n::le f (n / 256)
theorem le_zero (f:Nat):le f 0=[]:=by cases f <;> simp [le]
theorem le_len:∀(f n:Nat),(le f n).length≤f
 | 0,_=>by simp [le]
 | f+1,n=>by
  unfold le
  split
  ·simp
  ·have:=le_len f (n / 256)
   simp;omega
def clampI (n:Int):Nat:=(min (max n 0) 4611686018427387904).toNat
def padB (b:List UInt8):List UInt8:=if b=[]∨128≤(b.getLast?.getD 0).toNat then b++[0] else b
def intB (n:Nat):List UInt8:=(padB (le 9 n)).reverse
structure InS where
 m:Nat
 H:PH
 v:PV
 d:List UInt8
def bOk (H0:PH) (d:List UInt8) (H:PH) (v:PV):Prop :=
 (d=[]∧v=.nilS)∨(d≠[]∧∃id cap T ver rest,v=.sref id 0 d.length cap∧H0.length≤id∧H[id]? = some ⟨T,d.map bC++rest,ver⟩∧d.length+rest.length=cap)
theorem oldPs_bytes:∀(b:List UInt8),oldPs (b.map bC)=true
 | []=>rfl
 | _::b=>oldPs_bytes b
theorem set_app (cs:List UInt8) (rest:List PV) (x:UInt8) (h:0<rest.length):setCells (cs.length*1) [bC x] (cs.map bC++rest)=(cs++[x]).map bC++rest.drop 1:=by
 rw [setCells_eq _ _ _ (by simp;omega),Nat.mul_one]
 rw [List.take_append_of_le_length (by simp),List.take_of_length_le (by simp),List.drop_append,List.drop_of_length_le (by simp)]
 simp
theorem bOk_add {H0 H:PH} {d:List UInt8} {v:PV} (hx:Ext H0 H) (h:bOk H0 d H v) (x:UInt8) (hd:d.length≤100) {E:Env} {K:PV→PH→Prop}
  (hk:∀v' H',Ext H0 H'→bOk H0 (d++[x]) H' v'→(∃id cap,v'=.sref id 0 (d.length+1) cap)→K v' H') :
  (d=[]→∀cap',1≤cap'→K (.sref H.length 0 1 cap') (H++[⟨5,[bC x]++zerosOf [PV.int .u8 0] (cap' - 1),0⟩])) ∧
  (∀id cap T ver rest,v=.sref id 0 d.length cap→H0.length≤id→H[id]? = some ⟨T,d.map bC++rest,ver⟩→d.length+rest.length=cap →
   (d.length+1≤cap→K (.sref id 0 (d.length+1) cap) (H.set id ⟨T,setCells (d.length*1) [bC x] (d.map bC++rest),ver+1⟩)) ∧
   (cap<d.length+1→∀cap',d.length+1≤cap'→K (.sref H.length 0 (d.length+1) cap') (H++[⟨5,((d.map bC++rest).take (d.length*1)).map dem++[bC x]++zerosOf [PV.int .u8 0] (cap' - (d.length+1)),0⟩]))):=by
 have hz:∀n,(zerosOf [PV.int .u8 0] n).length=n:=fun n=>by rw [(zerosOf_get (z:=[PV.int .u8 0]) (sz:=1) rfl (by omega) n).1];omega
 refine ⟨fun h0 cap' hc=>?_,fun id cap T ver rest hv hid ho hcap=>⟨fun hroom=>?_,fun hgrow cap' hc=>?_⟩⟩
 ·subst h0
  exact hk _ _ (hx.push _) (.inr ⟨by simp,H.length,cap',5,0,zerosOf [PV.int .u8 0] (cap' - 1),rfl,hx.len,gL _ _,by rw [hz];simp;omega⟩) ⟨_,_,rfl⟩
 ·have hr:0<rest.length:=by omega
  rw [set_app _ _ _ hr]
  exact hk _ _ (hx.set hid _) (.inr ⟨by simp,id,cap,T,ver+1,rest.drop 1,by rw [zqf];rfl,hid,gS ho,by rw [zqf,List.length_drop];show d.length+1+(rest.length - 1)=cap;omega⟩) ⟨_,_,rfl⟩
 ·have e:((d.map bC++rest).take (d.length*1)).map dem++[bC x]=(d++[x]).map bC:=by
   rw [Nat.mul_one,take_pre (by rw [zqq]),List.map_map,List.map_append];rfl
  rw [e]
  exact hk _ _ (hx.push _) (.inr ⟨by simp,H.length,cap',5,0,_,by rw [zqf];rfl,hx.len,gL _ _,by rw [hz,zqf];show d.length+1+(cap' - (d.length+1))=cap';omega⟩) ⟨_,_,rfl⟩
theorem rep_one {H:PH} {id T v n cap:Nat} {x:List UInt8} {rest:List PV} (hid:H[id]? = some ⟨T,x.map bC++rest,v⟩) (hn:n=x.length):Reps H [.sref id 0 n cap] [x]:=by
 refine ⟨rfl,fun i c b hc hb=>?_⟩
 match i with
 | 0 =>
  simp at hc hb
  subst hc;subst hb;subst hn
  refine .inr ⟨id,0,cap,_,rfl,hid,?_⟩
  show (((x.map bC++rest).drop 0).take (x.length*1)).map dem=_
  rw [List.drop_zero,Nat.mul_one,take_pre (by rw [zqq]),List.map_map];rfl
 | i+1=>simp at hc
theorem c96x (n:Int) (H0:PH):CK prog 96 [.int .i64 n] H0 fun r H'=>r=sl (wrapB 2 (intB (clampI n)))∧∃ext,H'=H0++ext:=by
 (refine fnS (imm:=imm96) ttB_ok func96 ?_;(conv=>whnf))
 have hN:min (max n 0) 4611686018427387904=(clampI n:Int):=by unfold clampI;omega
 have hN2:clampI n≤4611686018427387904:=by unfold clampI;omega
 refine lO InS (fun x=>[(0,.int .i64 x.m),(3,x.v)]) (fun x=>x.H)
  (fun x=>∃f,x.d++le f x.m=le 9 (clampI n)∧x.m<256 ^ f∧x.m≤4611686018427387904∧Ext H0 x.H∧bOk H0 x.d x.H x.v) (fun x=>x.m)
  ⟨⟨clampI n,H0,.nilS,[]⟩,⟨9,rfl,by show clampI n<256 ^ 9;omega,hN2,Ext.refl _,.inl ⟨rfl,rfl⟩⟩,⟨zqm (PV.int .i64) hN,rfl,zqv⟩,rfl⟩ ?_
 rintro ⟨m,H,v,d⟩ ⟨f,g1,g2,g3,g4,g5⟩
 have g1:d++le f m=le 9 (clampI n):=g1
 have g2:m<256 ^ f:=g2
 have g3:m≤4611686018427387904:=g3
 have g4:Ext H0 H:=g4
 have g5:bOk H0 d H v:=g5
 have hd9:d.length≤9:=by
  have:=le_len 9 (clampI n)
  rw [←g1,zqf] at this
  omega
 conv=>whnf
 refine ⟨fun h=>?_,fun h=>?_⟩
 ·conv=>whnf
  have h:(m:Int) > 0:=h
  have hf:∃f',f=f'+1:=by
   cases f with
   | zero=>simp at g2;omega
   | succ f=>exact ⟨f,rfl⟩
  obtain ⟨f,rfl⟩:=hf
  have hle:le (f+1) m=UInt8.ofNat m::le f (m / 256):=by
   conv=>lhs;unfold le
   rw [zqo (by omega)]
  have hlast:∀(E:Env) (H':PH) (v':PV),subE [(0,.int .i64 (ishr .i64 (m:Int) 8)),(3,v')] E→Ext H0 H'→bOk H0 (d++[UInt8.ofNat m]) H' v' →
    ∃s':InS,(∃f,s'.d++le f s'.m=le 9 (clampI n)∧s'.m<256 ^ f∧s'.m≤4611686018427387904∧Ext H0 s'.H∧bOk H0 s'.d s'.H s'.v)∧subE [(0,.int .i64 s'.m),(3,s'.v)] E∧H'=s'.H∧s'.m<m:=by
   intro E H' v' hE hx hb
   rw [shr8] at hE
   refine ⟨⟨m / 256,H',v',d++[UInt8.ofNat m]⟩,⟨f,?_,?_,by show m / 256≤_;omega,hx,hb⟩,hE,rfl,by show m / 256<m;omega⟩
   ·show d++[UInt8.ofNat m]++le f (m / 256)=_
    rw [←g1,hle];simp
   ·show m / 256<256 ^ f
    rw [Nat.div_lt_iff_lt_mul (by omega),←Nat.pow_succ];exact g2
  obtain ⟨A,B⟩:=bOk_add (E:=[]) (K:=fun v' H'=>Ext H0 H'∧bOk H0 (d++[UInt8.ofNat m]) H' v') g4 g5 (UInt8.ofNat m) (by omega) fun v' H' a b _=>⟨a,b⟩
  have hbw:PV.int .u8 (IntKind.u8.wrap (m:Int))=bC (UInt8.ofNat m):=zqm (PV.int .u8) (u8w m)
  rcases g5 with ⟨rfl,rfl⟩ | ⟨y1,id,cap,T,ver,rest,rfl,y2,y3,y4⟩
  ·conv=>whnf
   rw [hbw]
   refine ⟨⟨by show 1*1≤_;omega,rfl,rfl⟩,fun h=>absurd h (by omega),fun _ cap' hc=>?_⟩
   conv=>whnf
   refine ⟨by decide,?_⟩
   conv=>whnf
   exact hlast _ _ _ ⟨rfl,rfl,zqv⟩ (A rfl cap' hc).1 (A rfl cap' hc).2
  ·conv=>whnf
   rw [hbw]
   ((conv in (_[_]?)=>tactic=>exact y3);(conv=>whnf))
   obtain ⟨B1,B2⟩:=B id cap T ver rest rfl y2 y3 y4
   refine ⟨⟨rfl,by show (d.length+1)*1≤_;omega,rfl,rfl,by show d.length*1≤(d.map bC++rest).length;simp⟩,fun hroom=>⟨by show (d.length+1)*1≤(d.map bC++rest).length;rw [zqf,zqq];omega,?_⟩,fun hgrow cap' hc=>?_⟩
   ·conv=>whnf
    refine ⟨by decide,?_⟩
    conv=>whnf
    exact hlast _ _ _ ⟨rfl,rfl,zqv⟩ (B1 hroom).1 (B1 hroom).2
   ·conv=>whnf
    refine ⟨by decide,?_⟩
    conv=>whnf
    exact hlast _ _ _ ⟨rfl,rfl,zqv⟩ (B2 hgrow cap' hc).1 (B2 hgrow cap' hc).2
 ·conv=>whnf
  have h:¬(m:Int) > 0:=h
  have hm:m=0:=by omega
  subst hm
  rw [le_zero,List.append_nil] at g1
  have k4:Ext H0 H:=g4
  have k5:bOk H0 d H v:=g5
  have k1:d=le 9 (clampI n):=g1
  clear g1 g2 g3 g4 g5 h
  obtain ⟨A,B⟩:=bOk_add (H0:=H0) (H:=H) (d:=d) (v:=v) (E:=[]) (K:=fun v' H'=>Ext H0 H'∧bOk H0 (d++[0]) H' v') k4 k5 0 (by omega) fun v' H' a b _=>⟨a,b⟩
  rcases k5 with ⟨rfl,rfl⟩ | ⟨y1,id,cap,T,ver,rest,rfl,y2,y3,y4⟩
  ·have hpad:padB (le 9 (clampI n))=[0]:=by rw [←k1];rfl
   conv=>whnf
   refine ⟨fun _=>?_,fun h=>absurd rfl h⟩
   conv=>whnf
   refine ⟨⟨by show 1*1≤_;omega,rfl,rfl⟩,fun h=>absurd h (by omega),fun _ cap' hc=>?_⟩
   conv=>whnf
   refine cO (c158 H.length 1 cap' [0] (zerosOf [PV.int .u8 0] (cap' - 1)) 5 0 (H++[PObj.mk 5 ([bC 0]++zerosOf [PV.int .u8 0] (cap' - 1)) 0]) (gL _ _) (by simp) (by first | omega | (simp;omega) | simp)) ?_
   rintro r H' ⟨rfl,v',rfl⟩
   conv=>whnf
   refine cO (c92 2 [([0]).reverse] (cs:=[.sref H.length 0 (1) cap']) (by show 1≤_;omega) (by first | omega | (simp;omega) | simp) (rep_one (gS (gL _ _)) (by simp))) ?_
   rintro r H'' ⟨rfl,rfl⟩
   conv=>whnf
   refine ⟨?_,(k4.push _).set k4.len _⟩
   show sl (wrapB 2 [([0]).reverse].flatten)=sl (wrapB 2 (intB (clampI n)))
   rw [zqk,zql,List.append_nil]
   unfold intB
   rw [hpad]
  ·have hdl:0<d.length:=List.length_pos_iff.2 y1
   have hlst:d[d.length - 1]? = some (d.getLast?.getD 0):=by
    rw [List.getLast?_eq_getElem?,zqc (by omega)];rfl
   have hpad:padB (le 9 (clampI n))=if 128≤(d.getLast?.getD 0).toNat then d++[0] else d:=by
    rw [←k1];unfold padB
    simp only [y1,false_or]
   have hidx:(0+(((d.length:Int) - 1)).toNat*1)=0+((d.length - 1:Nat):Int).toNat*1:=by omega
   obtain ⟨B1,B2⟩:=B id cap T ver rest rfl y2 y3 y4
   conv=>whnf
   refine ⟨fun h=>absurd (show (d.length:Int)=0 from h) (by omega),fun _=>?_⟩
   conv=>whnf
   have hw1:IntKind.i64.wrap ((d.length:Int) - 1)=(d.length:Int) - 1:=by rw [w64 (by omega) (by omega)]
   refine ⟨⟨by show 0≤IntKind.i64.wrap ((d.length:Int) - 1);rw [hw1];omega,by show IntKind.i64.wrap ((d.length:Int) - 1)<d.length;rw [hw1];omega⟩,?_⟩
   conv=>whnf
   ((conv in (_[_]?)=>tactic=>exact y3);(conv=>whnf))
   rw [hw1]
   ((conv in (dropN _ _)=>tactic=>exact (show dropN (0+((d.length:Int) - 1).toNat*1) (d.map bC++rest)=bC (d.getLast?.getD 0)::((d.drop (d.length - 1+1)).map bC++rest) by rw [hidx];exact dropN_app d rest hlst));(conv=>whnf))
   refine ⟨fun h128=>?_,fun h128=>?_⟩
   ·have h128:(128:Int)≤((d.getLast?.getD 0).toNat:Int):=h128
    rw [zqp (by omega)] at hpad
    conv=>whnf
    ((conv in (_[_]?)=>tactic=>exact y3);(conv=>whnf))
    refine ⟨⟨rfl,by show (d.length+1)*1≤_;omega,rfl,rfl,by show d.length*1≤(d.map bC++rest).length;simp⟩,fun hroom=>⟨by show (d.length+1)*1≤(d.map bC++rest).length;rw [zqf,zqq];omega,?_⟩,fun hgrow cap' hc=>?_⟩
    ·conv=>whnf
     have hs:=set_app d rest 0 (by omega)
     have hid2:(H.set id (PObj.mk T (setCells (d.length*1) [bC 0] (d.map bC++rest)) (ver+1)))[id]? = some ⟨T,(d++[0]).map bC++rest.drop 1,ver+1⟩:=by rw [hs];exact gS y3
     refine cO (c158 id (d.length+1) cap (d++[0]) (rest.drop 1) T (ver+1) (H.set id (PObj.mk T (setCells (d.length*1) [bC 0] (d.map bC++rest)) (ver+1))) hid2 (by simp) (by first | omega | (simp;omega) | simp)) ?_
     rintro r H' ⟨rfl,v',rfl⟩
     conv=>whnf
     refine cO (c92 2 [((d++[0])).reverse] (cs:=[.sref id 0 ((d.length+1)) cap]) (by show 1≤_;omega) (by first | omega | (simp;omega) | simp) (rep_one (gS hid2) (by simp))) ?_
     rintro r H'' ⟨rfl,rfl⟩
     conv=>whnf
     refine ⟨?_,(k4.set y2 _).set y2 _⟩
     show sl (wrapB 2 [((d++[0])).reverse].flatten)=sl (wrapB 2 (intB (clampI n)))
     rw [zqk,zql,List.append_nil]
     unfold intB
     rw [hpad]
    ·conv=>whnf
     have hz:((d.map bC++rest).take (d.length*1)).map dem++[bC 0]=(d++[0]).map bC:=by
      rw [Nat.mul_one,take_pre (by rw [zqq]),List.map_map,List.map_append];rfl
     have hid2:(H++[PObj.mk 5 (((d.map bC++rest).take (d.length*1)).map dem++[bC 0]++zerosOf [PV.int .u8 0] (cap' - (d.length+1))) 0])[H.length]? = some ⟨5,(d++[0]).map bC++zerosOf [PV.int .u8 0] (cap' - (d.length+1)),0⟩:=by rw [hz];exact gL _ _
     refine cO (c158 H.length (d.length+1) cap' (d++[0]) (zerosOf [PV.int .u8 0] (cap' - (d.length+1))) 5 0 (H++[PObj.mk 5 (((d.map bC++rest).take (d.length*1)).map dem++[bC 0]++zerosOf [PV.int .u8 0] (cap' - (d.length+1))) 0]) hid2 (by simp) (by first | omega | (simp;omega) | simp)) ?_
     rintro r H' ⟨rfl,v',rfl⟩
     conv=>whnf
     refine cO (c92 2 [((d++[0])).reverse] (cs:=[.sref H.length 0 ((d.length+1)) cap']) (by show 1≤_;omega) (by first | omega | (simp;omega) | simp) (rep_one (gS hid2) (by simp))) ?_
     rintro r H'' ⟨rfl,rfl⟩
     conv=>whnf
     refine ⟨?_,(k4.push _).set k4.len _⟩
     show sl (wrapB 2 [((d++[0])).reverse].flatten)=sl (wrapB 2 (intB (clampI n)))
     rw [zqk,zql,List.append_nil]
     unfold intB
     rw [hpad]
   ·have h128:¬(128:Int)≤((d.getLast?.getD 0).toNat:Int):=h128
    rw [zqo (by omega)] at hpad
    conv=>whnf
    refine cO (c158 id d.length cap d rest T ver H y3 (by simp) (by first | omega | (simp;omega) | simp)) ?_
    rintro r H' ⟨rfl,v',rfl⟩
    conv=>whnf
    refine cO (c92 2 [(d).reverse] (cs:=[.sref id 0 (d.length) cap]) (by show 1≤_;omega) (by first | omega | (simp;omega) | simp) (rep_one (gS y3) (by simp))) ?_
    rintro r H'' ⟨rfl,rfl⟩
    conv=>whnf
    refine ⟨?_,k4.set y2 _⟩
    show sl (wrapB 2 [(d).reverse].flatten)=sl (wrapB 2 (intB (clampI n)))
    rw [zqk,zql,List.append_nil]
    unfold intB
    rw [hpad]
theorem c96 (n:Int):Pure prog 96 [.int .i64 n] (sl (wrapB 2 (intB (clampI n)))):=Pure.of_gc (oldPs_bytes _) (c96x n)
noncomputable def intG (args:List PV):CV:=match args with
 | [.int .i64 n]=>slF (wrapB 2 (intB (clampI n)))
 | _=>.err 982
theorem ex212:ExOk prog 96 (pureE intG):=pureE_ok fun args v hv=>by
 unfold intG at hv
 split at hv
 ·rw [slF_eq] at hv
  cases hv
  exact c96 _
 ·cases hv
noncomputable def exA6:Tr EX:=exA5.set (pureE intG) 96
def imm45r:List Nat:=[5]
theorem c45r (id off n:Nat) (o:PObj) (H:PH) (ho:H[id]? = some o) (hn:0<n) (hl:(((o.cs.drop off).take (n*1)).map dem).length=n) (h1:(((o.cs.drop off).take (n*1)).map dem).all oneP=true) (hb:(0+n)*16≤140737488355328) :
  CK prog 45 [.rref id off n] H fun r H'=>∃cap,n≤cap∧r=.sref (H.length+1) 0 n cap∧H'=H++[(⟨9,[],0⟩:PObj),⟨9,((o.cs.drop off).take (n*1)).map dem++zerosOf [.str []] (cap - n),0⟩]:=by
 (refine fnS (imm:=imm45r) ttCl_ok func45 ?_;(conv=>whnf))
 conv=>whnf
 have hlt:id<H.length:=(zq1.1 ho).1
 rw [zq2 hlt,ho,gL]
 refine ⟨⟨rfl,hb,?_,h1,?_⟩,fun h=>?_,fun _ cap' hc=>?_⟩
 ·rw [hl];exact (Nat.mul_one n).symm
 ·rw [Nat.zero_mul];exact Nat.zero_le _
 ·exact absurd h (by omega)
 ·conv=>whnf
  refine ⟨cap',by omega,?_,?_⟩
  ·rw [zqf,Nat.zero_add];rfl
  ·rw [List.append_assoc,Nat.zero_add];rfl
theorem c45q (id off n:Nat) (o:PObj) (H:PH) (ho:H[id]? = some o) (hn:0<n) (hl:(((o.cs.drop off).take (n*1)).map dem).length=n) (h1:(((o.cs.drop off).take (n*1)).map dem).all oneP=true) (hf:(((o.cs.drop off).take (n*1)).map dem).all flatP=true) (hb:(0+n)*16≤140737488355328) :
  CK prog 45 [.rref id off n] H fun r H'=>r=.slice n (((o.cs.drop off).take (n*1)).map dem) (some 9)∧H'=H:=by
 refine CK.own (nn:=n) (cs:=((o.cs.drop off).take (n*1)).map dem) (R:=fun H'=>H'=H) (c45r id off n o H ho hn hl h1 hb) (e0:=9) (sz:=1) (by kernel_rfl) (by decide) (by rw [hl,Nat.mul_one]) hf fun r H' hh=>?_
 obtain ⟨cap,hc,rfl,rfl⟩:=hh
 refine ⟨H,_,H.length+1,cap,⟨9,((o.cs.drop off).take (n*1)).map dem++zerosOf [.str []] (cap - n),0⟩,rfl,Kept.refl H,rfl,rfl,by omega,?_,rfl,?_,?_⟩
 ·rw [zqi (by omega),show H.length+1 - H.length=1 by omega];rfl
 ·show (_++_:List PV).length=_
  rw [zqf,hl]
  have:(zerosOf [PV.str []] (cap - n)).length=cap - n:=by rw [zerosOf_one,List.length_replicate]
  omega
 ·show (_++_:List PV).take _=_
  rw [List.take_left' rfl]
theorem c45s (id off n c:Nat) (o:PObj) (H:PH) (ho:H[id]? = some o) (hn:0<n) (hl:(((o.cs.drop off).take (n*1)).map dem).length=n) (h1:(((o.cs.drop off).take (n*1)).map dem).all oneP=true) (hb:(0+n)*16≤140737488355328) :
  CK prog 45 [.sref id off n c] H fun r H'=>∃cap,n≤cap∧r=.sref (H.length+1) 0 n cap∧H'=H++[(⟨9,[],0⟩:PObj),⟨9,((o.cs.drop off).take (n*1)).map dem++zerosOf [.str []] (cap - n),0⟩]:=by
 (refine fnS (imm:=imm45r) ttCl_ok func45 ?_;(conv=>whnf))
 conv=>whnf
 have hlt:id<H.length:=(zq1.1 ho).1
 rw [zq2 hlt,ho,gL]
 refine ⟨⟨rfl,hb,?_,h1,?_⟩,fun h=>?_,fun _ cap' hc=>?_⟩
 ·rw [hl];exact (Nat.mul_one n).symm
 ·rw [Nat.zero_mul];exact Nat.zero_le _
 ·exact absurd h (by omega)
 ·conv=>whnf
  refine ⟨cap',by omega,?_,?_⟩
  ·rw [zqf,Nat.zero_add];rfl
  ·rw [List.append_assoc,Nat.zero_add];rfl
theorem c45t (id off n c:Nat) (o:PObj) (H:PH) (ho:H[id]? = some o) (hn:0<n) (hl:(((o.cs.drop off).take (n*1)).map dem).length=n) (h1:(((o.cs.drop off).take (n*1)).map dem).all oneP=true) (hf:(((o.cs.drop off).take (n*1)).map dem).all flatP=true) (hb:(0+n)*16≤140737488355328) :
  CK prog 45 [.sref id off n c] H fun r H'=>r=.slice n (((o.cs.drop off).take (n*1)).map dem) (some 9)∧H'=H:=by
 refine CK.own (nn:=n) (cs:=((o.cs.drop off).take (n*1)).map dem) (R:=fun H'=>H'=H) (c45s id off n c o H ho hn hl h1 hb) (e0:=9) (sz:=1) (by kernel_rfl) (by decide) (by rw [hl,Nat.mul_one]) hf fun r H' hh=>?_
 obtain ⟨cap,hc,rfl,rfl⟩:=hh
 refine ⟨H,_,H.length+1,cap,⟨9,((o.cs.drop off).take (n*1)).map dem++zerosOf [.str []] (cap - n),0⟩,rfl,Kept.refl H,rfl,rfl,by omega,?_,rfl,?_,?_⟩
 ·rw [zqi (by omega),show H.length+1 - H.length=1 by omega];rfl
 ·show (_++_:List PV).length=_
  rw [zqf,hl]
  have:(zerosOf [PV.str []] (cap - n)).length=cap - n:=by rw [zerosOf_one,List.length_replicate]
  omega
 ·show (_++_:List PV).take _=_
  rw [List.take_left' rfl]
noncomputable def clR (args:List PV) (h:CH):CC:=match args with
 | [.slice n cs none]=>match clE 9 1 16 args with
  | .ok v=>.pure v
  | .err k=>.err k
 | [.rref id off n]=>match h.get id with
  | some o=>fL (((o.cs.drop off).take (Nat.mul n 1)).map dem) fun cs=>match Nat.beq cs.length n with
   | true=>match cs.all oneP with
    | true=>match cs.all flatP with
     | true=>match Nat.blt 0 n with
      | true=>match Nat.ble (Nat.mul (Nat.add 0 n) 16) 140737488355328 with
       | true=>.pure (.slice n cs (some 9))
       | false=>.err 970
      | false=>.err 971
     | false=>.err 972
    | false=>.err 973
   | false=>.err 974
  | none=>.err 975
 | [.sref id off n c]=>match h.get id with
  | some o=>fL (((o.cs.drop off).take (Nat.mul n 1)).map dem) fun cs=>match Nat.beq cs.length n with
   | true=>match cs.all oneP with
    | true=>match cs.all flatP with
     | true=>match Nat.blt 0 n with
      | true=>match Nat.ble (Nat.mul (Nat.add 0 n) 16) 140737488355328 with
       | true=>.pure (.slice n cs (some 9))
       | false=>.err 970
      | false=>.err 971
     | false=>.err 972
    | false=>.err 973
   | false=>.err 974
  | none=>.err 975
 | _=>.err 976
theorem exR118:ExOk prog 45 clR:=by
 refine ⟨fun args hh r h' hr H rh=>?_,fun args hh r hr H rh=>?_⟩
 ·exfalso
  unfold clR at hr
  split at hr
  ·split at hr <;> cases hr
  ·split at hr
   ·rw [fL_eq] at hr
    repeat' (split at hr)
    all_goals cases hr
   ·cases hr
  ·split at hr
   ·rw [fL_eq] at hr
    repeat' (split at hr)
    all_goals cases hr
   ·cases hr
  ·cases hr
 ·unfold clR at hr
  split at hr
  ·have:=ex118.pure
   rename_i n cs
   refine ex118.pure _ hh r ?_ H rh
   unfold pureE
   split at hr
   ·rename_i v hv
    cases hr
    first | rw [hv] | rfl
   ·cases hr
  ·rename_i id off n
   split at hr
   ·rename_i o ho
    rw [fL_eq] at hr
    split at hr
    ·rename_i e1
     split at hr
     ·rename_i e2
      split at hr
      ·rename_i e3
       split at hr
       ·rename_i e4
        split at hr
        ·rename_i e5
         cases hr
         exact c45q id off n o H (rh.look ho) (by rw [Nat.blt_eq] at e4;exact e4) (zqg e1) e2 e3 (zqh e5)
        ·cases hr
       ·cases hr
      ·cases hr
     ·cases hr
    ·cases hr
   ·cases hr
  ·rename_i id off n c
   split at hr
   ·rename_i o ho
    rw [fL_eq] at hr
    split at hr
    ·rename_i e1
     split at hr
     ·rename_i e2
      split at hr
      ·rename_i e3
       split at hr
       ·rename_i e4
        split at hr
        ·rename_i e5
         cases hr
         exact c45t id off n c o H (rh.look ho) (by rw [Nat.blt_eq] at e4;exact e4) (zqg e1) e2 e3 (zqh e5)
        ·cases hr
       ·cases hr
      ·cases hr
     ·cases hr
    ·cases hr
   ·cases hr
  ·cases hr
noncomputable def exA7:Tr EX:=exA6.set clR 45
noncomputable section
def prG (args:List PV):CV:=match args with
 | [.agg [.str r,.str n]]=>match Nat.ble r.length 100000 with
  | true=>match Nat.ble n.length 100000 with
   | true=>vB (isPrincB r n)
   | false=>.err 940
  | false=>.err 940
 | _=>.err 941
theorem pr_ok {f:Nat} (h:∀r n,r.length≤1099511627775→n.length≤1099511627775→Pure prog f [.agg [.str r,.str n]] (.bool (isPrincB r n))):ExOk prog f (pureE prG):=pureE_ok fun args v hv=>by
 unfold prG at hv
 split at hv
 ·rename_i r n
  split at hv
  ·rename_i h1
   split at hv
   ·rename_i h2
    rw [vB_eq] at hv;cases hv
    have h1:=zqh h1
    have h2:=zqh h2
    exact h r n (by omega) (by omega)
   ·cases hv
  ·cases hv
 ·cases hv
def reG (g:List UInt8→Bool) (args:List PV):CV:=match args with
 | [.str r]=>match Nat.ble r.length 100000 with
  | true=>vB (g r)
  | false=>.err 942
 | _=>.err 943
theorem re_ok {f:Nat} {g:List UInt8→Bool} (h:∀r,r.length≤1099511627775→Pure prog f [.str r] (.bool (g r))):ExOk prog f (pureE (reG g)):=pureE_ok fun args v hv=>by
 unfold reG at hv
 split at hv
 ·rename_i r
  split at hv
  ·rename_i h1
   rw [vB_eq] at hv;cases hv
   have h1:=zqh h1
   exact h r (by omega)
  ·cases hv
 ·cases hv
def kiG (args:List PV):CV:=match args with
 | [.str r]=>match Nat.ble r.length 100000 with
  | true=>vI .i64 (labelsB r).1
  | false=>.err 944
 | _=>.err 945
theorem ki_ok {f:Nat} (h:∀r,r.length≤1099511627775→Pure prog f [.str r] (.int .i64 (labelsB r).1)):ExOk prog f (pureE kiG):=pureE_ok fun args v hv=>by
 unfold kiG at hv
 split at hv
 ·rename_i r
  split at hv
  ·rename_i h1
   rw [vI_eq] at hv;cases hv
   have h1:=zqh h1
   exact h r (by omega)
  ·cases hv
 ·cases hv
def taG (args:List PV):CV:=match args with
 | [.str r]=>match Nat.ble r.length 100000 with
  | true=>fL (targetB r).1 fun s=>fB (targetB r).2 fun b=>.ok (.tup [.str s,.bool b])
  | false=>.err 946
 | _=>.err 947
theorem ta_ok {f:Nat} (h:∀r,r.length≤1099511627775→Pure prog f [.str r] (.tup [.str (targetB r).1,.bool (targetB r).2])):ExOk prog f (pureE taG):=pureE_ok fun args v hv=>by
 unfold taG at hv
 split at hv
 ·rename_i r
  split at hv
  ·rename_i h1
   rw [fL_eq,fB_eq] at hv;cases hv
   have h1:=zqh h1
   exact h r (by omega)
  ·cases hv
 ·cases hv
theorem ex35:ExOk prog 35 (pureE prG):=pr_ok fun r n h1 h2=>c35 r n h1 h2
theorem ex128:ExOk prog 128 (pureE prG):=pr_ok fun r n h1 h2=>c128 r n h1 h2
def isRg (r:List UInt8):Bool:=decide ((labelsB r).1≠0)
theorem ex86:ExOk prog 86 (pureE (reG isRg)):=re_ok fun r h=>c86 r h
theorem ex106:ExOk prog 106 (pureE (reG isRealmB)):=re_ok fun r h=>c106 r h
theorem ex149:ExOk prog 149 (pureE kiG):=ki_ok fun r h=>c149 r h
theorem ex165:ExOk prog 165 (pureE kiG):=ki_ok fun r h=>c165 r h
theorem ex85t:ExOk prog 85 (pureE taG):=ta_ok fun r h=>c85 r h
theorem ex127:ExOk prog 127 (pureE taG):=ta_ok fun r h=>c127 r h
def exA8:Tr EX:=(((((((exA7.set (pureE prG) 35).set (pureE prG) 128).set (pureE (reG isRg)) 86).set (pureE (reG isRealmB)) 106).set (pureE kiG) 149).set (pureE kiG) 165).set (pureE taG) 85).set (pureE taG) 127
end
noncomputable section
def z16:List UInt8:=List.replicate 16 0
def wdG (args:List PV):CV:=match args with
 | [.agg kc]=>toBy (.err 950) kc fun k=>match Nat.beq k.length 16 with
  | true=>wordsF k fun ws=>fL (ws.map u32C) fun cs=>.ok (.agg cs)
  | false=>.err 951
 | _=>.err 952
theorem ex131:ExOk prog 131 (pureE wdG):=pureE_ok fun args v hv=>by
 unfold wdG at hv
 split at hv
 ·rename_i kc
  obtain ⟨k,e1,hv1⟩:=toBy_ok hv (by simp)
  clear hv
  have hv:=hv1
  subst e1
  split at hv
  ·rename_i h1
   rw [wordsF_eq,fL_eq] at hv;cases hv
   exact c131 k (zqg h1)
  ·cases hv
 ·cases hv
def rsG (args:List PV):CV:=match args with
 | [.agg wc,.int .u64 (.ofNat nn),.int .i64 (.ofNat n)]=>match Nat.ble n 1000000 with
  | true=>wordsF z16 fun ws=>match pvsEq wc (ws.map u32C) with
   | true=>streamF z16 (.ofNat nn) n fun st=>slF st
   | false=>.err 953
  | false=>.err 954
 | _=>.err 955
theorem ex130:ExOk prog 130 (pureE rsG):=pureE_ok fun args v hv=>by
 unfold rsG at hv
 split at hv
 ·rename_i wc nn n
  split at hv
  ·rename_i h1
   rw [wordsF_eq] at hv
   split at hv
   ·rename_i h2
    rw [streamF_eq,slF_eq] at hv;cases hv
    have e:=pvsEq_eq _ _ h2
    subst e
    exact c130 z16 (.ofNat nn) n (zqh h1)
   ·cases hv
  ·cases hv
 ·cases hv
def exA9:Tr EX:=(exA8.set (pureE wdG) 131).set (pureE rsG) 130
end
set_option maxHeartbeats 2000000
def ttPp:TT:=[(3,⟨.int .i64,1,8,[.int .i64 0]⟩),(9,⟨.str,1,16,[.str []]⟩),(51,⟨.strct [(9,0),(9,1)],2,32,[.str [],.str []]⟩),(65,⟨.slice 51,1,24,[.slice 0 [] (some 51)]⟩),(238,⟨.slice 65,1,24,[.slice 0 [] (some 65)]⟩)]
theorem ttPp_ok:ttOk prog ttPp=true:=by kernel_rfl
def imm52P:List Nat:=[33]
def imm117P:List Nat:=[22]
theorem c117P (n:Nat) (h0:0<n) (hn:n≤1000) (H:PH):CK prog 117 [.nilS,.int .i64 n] H fun r H'=>∃cap o,n≤cap∧r=.sref H.length 0 0 cap∧H'=H++[o]∧o.T=51∧o.cs.length=cap*2:=by
 (refine fnS (imm:=imm117P) ttPp_ok func117 ?_;(conv=>whnf))
 refine ⟨fun h=>absurd (show (n:Int)<0 from h) (by omega),fun _=>?_⟩
 conv=>whnf
 have hw:IntKind.i64.wrap ((n:Int) - IntKind.i64.wrap (0 - 0))=n:=by
  rw [show IntKind.i64.wrap ((0:Int) - 0)=0 from rfl,w64 (by omega) (by omega)];omega
 refine ⟨fun h=>?_,fun h=>?_⟩
 ·conv=>whnf
  have h:IntKind.i64.wrap ((n:Int) - IntKind.i64.wrap (0 - 0)) > 0:=h
  rw [hw] at h
  refine ⟨⟨by omega,by omega,by omega⟩,?_⟩
  conv=>whnf
  rw [hw]
  refine ⟨⟨h,by show (n:Int)*(32:Nat)≤_;omega⟩,fun cap hc=>?_⟩
  conv=>whnf
  have hc:n≤cap:=hc
  refine ⟨⟨by omega,by omega,by show (0:Int)≤n;omega⟩,fun h2=>?_,fun h2=>absurd (show (0:Int)<((n:Int).toNat:Int) by omega) h2⟩
  conv=>whnf
  refine ⟨cap,_,hc,rfl,rfl,rfl,?_⟩
  show (zerosOf [PV.str [],PV.str []] n++zerosOf [PV.str [],PV.str []] (cap - n)).length=cap*2
  rw [zqf,(zerosOf_get (z:=[PV.str [],PV.str []]) (sz:=2) rfl (by omega) n).1,(zerosOf_get (z:=[PV.str [],PV.str []]) (sz:=2) rfl (by omega) (cap - n)).1]
  omega
 ·have h:¬IntKind.i64.wrap ((n:Int) - IntKind.i64.wrap (0 - 0)) > 0:=h
  rw [hw] at h
  omega
theorem len8 {l:List PV} (h:8≤l.length):∃x0 x1 x2 x3 x4 x5 x6 x7 r,l=x0::x1::x2::x3::x4::x5::x6::x7::r:=by
 match l,h with
 | x0::x1::x2::x3::x4::x5::x6::x7::r,_=>exact ⟨x0,x1,x2,x3,x4,x5,x6,x7,r,rfl⟩
theorem c52P (a b c d a' b' c' d':List UInt8) (H:PH):CK prog 52 [.slice 2 [.slice 2 [.str a,.str b,.str c,.str d] none,.slice 2 [.str a',.str b',.str c',.str d'] none] none] H fun r H' =>
  ∃cap o,r=.sref H.length 0 4 cap∧H'=H++[o]∧o.T=51∧(o.cs.take 8)=[.str a,.str b,.str c,.str d,.str a',.str b',.str c',.str d']∧4≤cap∧o.cs.length=cap*2:=by
 (refine fnS (imm:=imm52P) ttPp_ok func52 ?_;(conv=>whnf))
 refine lO Nat (fun k=>[(0,.slice 2 [.slice 2 [.str a,.str b,.str c,.str d] none,.slice 2 [.str a',.str b',.str c',.str d'] none] none),(9,.slice 2 [.slice 2 [.str a,.str b,.str c,.str d] none,.slice 2 [.str a',.str b',.str c',.str d'] none] none),(10,.int .i64 2),(11,.int .i64 k),(3,.int .i64 (2*k:Nat))]) (fun _=>H) (fun k=>k≤2) (fun k=>2 - k) ⟨0,by omega,⟨rfl,rfl,rfl,rfl,rfl,zqv⟩,rfl⟩ ?_
 rintro k hk
 have hk:k=0∨k=1∨k=2:=by omega
 rcases hk with rfl | rfl | rfl
 ·conv=>whnf
  refine ⟨fun _=>?_,fun h=>absurd (show ((0:Nat):Int)<2 by decide) h⟩
  conv=>whnf
  refine ⟨⟨by decide,by decide⟩,[.slice 2 [.str a,.str b,.str c,.str d] none,.slice 2 [.str a',.str b',.str c',.str d'] none],fun j x hj=>by simpa using hj,?_⟩
  conv=>whnf
  refine ⟨fun h=>absurd h (by decide),fun _=>?_⟩
  conv=>whnf
  exact ⟨1,by decide,⟨rfl,rfl,rfl,rfl,rfl,zqv⟩,rfl,by decide⟩
 ·conv=>whnf
  refine ⟨fun _=>?_,fun h=>absurd (show ((1:Nat):Int)<2 by decide) h⟩
  conv=>whnf
  refine ⟨⟨by decide,by decide⟩,[.slice 2 [.str a',.str b',.str c',.str d'] none],fun j x hj=>?_,?_⟩
  ·cases j with
   | zero=>simpa using hj
   | succ j=>simp at hj
  conv=>whnf
  refine ⟨fun h=>absurd h (by decide),fun _=>?_⟩
  conv=>whnf
  exact ⟨2,by decide,⟨rfl,rfl,rfl,rfl,rfl,zqv⟩,rfl,by decide⟩
 ·conv=>whnf
  refine ⟨fun h=>absurd h (by decide),fun _=>?_⟩
  conv=>whnf
  refine cO (c117P 4 (by decide) (by decide) H) ?_
  rintro _ _ ⟨cap,o0,hcap,rfl,rfl,hT0,hl0⟩
  conv=>whnf
  refine lO (Nat×PObj) (fun x=>[(25,.slice 2 [.slice 2 [.str a,.str b,.str c,.str d] none,.slice 2 [.str a',.str b',.str c',.str d'] none] none),(26,.int .i64 2),(27,.int .i64 x.1),(6,.sref H.length 0 (2*x.1) cap)]) (fun x=>H++[x.2])
   (fun x=>x.1≤2∧x.2.T=51∧x.2.cs.length=cap*2∧x.2.cs.take (4*x.1)=[.str a,.str b,.str c,.str d,.str a',.str b',.str c',.str d'].take (4*x.1)) (fun x=>2 - x.1) ⟨(0,o0),⟨Nat.zero_le _,hT0,hl0,rfl⟩,⟨rfl,rfl,rfl,rfl,zqv⟩,rfl⟩ ?_
  rintro ⟨k,o⟩ ⟨hk,hT,hl,ht⟩
  have hk3:k=0∨k=1∨k=2:=by simp only at hk;omega
  clear hk
  simp only at hT hl ht
  obtain ⟨oT,ocs,ov⟩:=o
  simp only at hT hl ht
  subst hT
  have hg:∀x:PObj,(H++[x])[H.length]? = some x:=fun x=>gL H x
  obtain ⟨x0,x1,x2,x3,x4,x5,x6,x7,r,e⟩:=len8 (l:=ocs) (by omega)
  subst e
  rcases hk3 with rfl | rfl | rfl
  ·conv=>whnf
   refine ⟨fun _=>?_,fun h=>absurd (show ((0:Nat):Int)<2 by decide) h⟩
   conv=>whnf
   refine ⟨⟨by show (0:Int)≤(0:Nat);decide,by show ((0:Nat):Int)<(2:Nat);decide⟩,[.slice 2 [.str a,.str b,.str c,.str d] none,.slice 2 [.str a',.str b',.str c',.str d'] none],fun j x hj=>by simpa using hj,?_⟩
   conv=>whnf
   ((conv in (_[_]?)=>tactic=>exact (hg ⟨51,x0::x1::x2::x3::x4::x5::x6::x7::r,ov⟩));(conv=>whnf))
   refine ⟨⟨rfl,by show (0+2)*32≤140737488355328;decide,rfl,rfl,Nat.zero_le _⟩,fun _=>⟨by show (0+2)*2≤(x0::x1::x2::x3::x4::x5::x6::x7::r).length;simp,?_⟩,fun h=>absurd (show cap<0+2 from h) (by omega)⟩
   conv=>whnf
   refine ⟨(1,⟨51,.str a::.str b::.str c::.str d::x4::x5::x6::x7::r,ov+1⟩),⟨by show 1≤2;decide,rfl,hl,rfl⟩,⟨rfl,rfl,rfl,rfl,zqv⟩,?_,by show 2 - 1<2 - 0;decide⟩
   show (H++[_]).set H.length _=_
   rw [sL]
   rfl
  ·conv=>whnf
   refine ⟨fun _=>?_,fun h=>absurd (show ((1:Nat):Int)<2 by decide) h⟩
   conv=>whnf
   refine ⟨⟨by show (0:Int)≤(1:Nat);decide,by show ((1:Nat):Int)<(2:Nat);decide⟩,[.slice 2 [.str a',.str b',.str c',.str d'] none],fun j x hj=>?_,?_⟩
   ·cases j with
    | zero=>simpa using hj
    | succ j=>simp at hj
   conv=>whnf
   ((conv in (_[_]?)=>tactic=>exact (hg ⟨51,x0::x1::x2::x3::x4::x5::x6::x7::r,ov⟩));(conv=>whnf))
   refine ⟨⟨rfl,by show (2+2)*32≤140737488355328;decide,rfl,rfl,by show 2*2≤(x0::x1::x2::x3::x4::x5::x6::x7::r).length;simp⟩,fun _=>⟨by show (2+2)*2≤(x0::x1::x2::x3::x4::x5::x6::x7::r).length;simp,?_⟩,fun h=>absurd (show cap<2+2 from h) (by omega)⟩
   conv=>whnf
   refine ⟨(2,⟨51,x0::x1::x2::x3::.str a'::.str b'::.str c'::.str d'::r,ov+1⟩),⟨by show 2≤2;decide,rfl,hl,?_⟩,⟨rfl,rfl,rfl,rfl,zqv⟩,?_,by show 2 - 2<2 - 1;decide⟩
   ·have h4:[x0,x1,x2,x3]=[.str a,.str b,.str c,.str d]:=ht
    cases h4
    rfl
   ·show (H++[_]).set H.length _=_
    rw [sL]
    show H++[PObj.mk 51 (setCells 4 [.str a',.str b',.str c',.str d'] (x0::x1::x2::x3::x4::x5::x6::x7::r)) (ov+1)]=H++[PObj.mk 51 _ (ov+1)]
    simp only [setCells]
  ·conv=>whnf
   refine ⟨fun h=>absurd (show ((2:Nat):Int)<2 from h) (by decide),fun _=>?_⟩
   conv=>whnf
   exact ⟨cap,_,rfl,rfl,rfl,ht,hcap,hl⟩
theorem c52Q (a b c d a' b' c' d':List UInt8):Pure prog 52 [.slice 2 [.slice 2 [.str a,.str b,.str c,.str d] none,.slice 2 [.str a',.str b',.str c',.str d'] none] none] (.slice 4 [.str a,.str b,.str c,.str d,.str a',.str b',.str c',.str d'] none):=by
 intro H
 refine CK.frz (c52P a b c d a' b' c' d' H) fun r H' h=>?_
 obtain ⟨cap,o,h1,h2,h3,h4,h5,h6⟩:=h
 subst h1 h2
 refine ⟨[o],H.length,cap,o,rfl,rfl,zqn _,gL H o,?_,h4,rfl⟩
 show 8≤o.cs.length
 omega
noncomputable section
def conG (args:List PV):CV:=match args with
 | [.slice 2 [.slice 2 [.str a,.str b,.str c,.str d] none,.slice 2 [.str a',.str b',.str c',.str d'] none] none]=>.ok (.slice 4 [.str a,.str b,.str c,.str d,.str a',.str b',.str c',.str d'] none)
 | _=>.err 939
theorem ex52:ExOk prog 52 (pureE conG):=pureE_ok fun args v hv=>by
 unfold conG at hv
 split at hv
 ·cases hv
  exact c52Q _ _ _ _ _ _ _ _
 ·cases hv
def exA10:Tr EX:=exA9.set (pureE conG) 52
end
end Go.Proofs.Tryz
