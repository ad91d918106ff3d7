import Derived.Test.YtdnggpdgijobfaaGreatDoorA3
import Derived.Tactics
import Derived.Tactics2
import Derived.Defers
import Derived.Laws.Pointers
import Derived.Laws.LoneSync
import Derived.RegionTactic
import Derived.RegionCalls
import Derived.Test.YtdnggpdgijobfaaGreatDoorA2
set_option linter.all false
set_option maxRecDepth 100000
set_option maxHeartbeats 2000000
namespace Go.Proofs.Tryz
open Go Ps
def ttO:TT:=[(1,⟨.fn,1,8,[.nilF]⟩),(3,⟨.int .i64,1,8,[.int .i64 0]⟩),(4,⟨.bool,1,1,[.bool false]⟩),(5,⟨.int .u8,1,1,[.int .u8 0]⟩),(21,⟨.int .i32,1,4,[.int .i32 0]⟩),(26,⟨.slice 5,1,24,[.slice 0 [] (some 5)]⟩),(238,⟨.ptr,1,8,[.ptr none]⟩),(221,⟨.arr 16 5,16,16,List.replicate 16 (.int .u8 0)⟩),(142,⟨.int .u64,1,8,[.int .u64 0]⟩),(155,⟨.int .u64,1,8,[.int .u64 0]⟩),(226,⟨.int .u32,1,4,[.int .u32 0]⟩),(227,⟨.arr 27 226,27,108,List.replicate 27 (.int .u32 0)⟩),(293,⟨.strB [(129,0),(226,0)],1,4,[.int .u32 0]⟩),(295,⟨.strct [(21,0),(226,1)],2,8,[.int .i32 0,.int .u32 0]⟩),(297,⟨.strB [(291,0),(295,0)],2,8,[.int .i32 0,.int .u32 0]⟩),(299,⟨.strB [(291,0),(293,0),(297,1)],3,12,[.int .u32 0,.int .i32 0,.int .u32 0]⟩),(301,⟨.strct [(221,0),(299,16),(227,19),(293,46)],47,140,List.replicate 16 (.int .u8 0)++[.int .u32 0,.int .i32 0]++List.replicate 29 (.int .u32 0)⟩),(282,⟨.slice 226,1,24,[.slice 0 [] (some 226)]⟩),(281,⟨.arr 4 226,4,16,[.int .u32 0,.int .u32 0,.int .u32 0,.int .u32 0]⟩),(395,⟨.ptr,1,8,[.ptr none]⟩),(399,⟨.ptr,1,8,[.ptr none]⟩)]
theorem ttO_ok:ttOk prog ttO=true:=by kernel_rfl
def imm298:List Nat:=[]
def imm308:List Nat:=[]
def imm310:List Nat:=[]
def imm297:List Nat:=[]
def imm282:List Nat:=[]
def imm257:List Nat:=[]
def imm283:List Nat:=[]
def imm317:List Nat:=[]
def rot32S (k:Int):Int:=ibits .and .u64 (IntKind.u64.wrap k) 31
def rot32 (x k:Int):Int:=ibits .or .u32 (ishl .u32 x (rot32S k)) (ishr .u32 x (IntKind.u64.wrap (32 - rot32S k)))
def add32 (x y:Int):Int:=IntKind.u32.wrap (x+y)
def xor32 (x y:Int):Int:=ibits .xor .u32 x y
theorem c283 (x k:Int):Pure prog 283 [.int .u32 x,.int .i64 k] (.int .u32 (rot32 x k)):=by
 intro H
 (refine fnS (imm:=imm283) ttO_ok func283 ?_;(conv=>whnf))
 refine ⟨u64_nonneg _,?_⟩
 conv=>whnf
 refine ⟨u64_nonneg _,?_⟩
 conv=>whnf
 exact ⟨rfl,rfl⟩
def S4.O4 (s:S4) (v:Nat):PObj:=⟨281,[.int .u32 s.a,.int .u32 s.b,.int .u32 s.c,.int .u32 s.d],v⟩
def orB (x:Int) (c:UInt8) (s:Int):Int:=ibits .or .u32 x (ishl .u32 (IntKind.u32.wrap (c.toNat:Int)) s)
def wN (k:List UInt8):Nat→S4
 | 0=>⟨0,0,0,0⟩
 | i+1=>match i / 4 with
  | 0=>{ wN k i with a:=orB (wN k i).a (k.getD i 0) (8*((i % 4:Nat):Int)) }
  | 1=>{ wN k i with b:=orB (wN k i).b (k.getD i 0) (8*((i % 4:Nat):Int)) }
  | 2=>{ wN k i with c:=orB (wN k i).c (k.getD i 0) (8*((i % 4:Nat):Int)) }
  | _=>{ wN k i with d:=orB (wN k i).d (k.getD i 0) (8*((i % 4:Nat):Int)) }
def spN (k:List UInt8):Nat→S4
 | 0=>wN k 16
 | i+1=>⟨xor32 (rot32 (spN k i).a 3) (xor32 (add32 (spN k i).a (rot32 (spN k i).b (-8))) (IntKind.u32.wrap (i:Int))),(spN k i).c,(spN k i).d,xor32 (add32 (spN k i).a (rot32 (spN k i).b (-8))) (IntKind.u32.wrap (i:Int))⟩
def u32C (x:Int):PV:=.int .u32 x
def keyO (k:List UInt8) (d m s:Int) (l:List Int) (md:Int) (v:Nat):PObj:=⟨301,(k.map byteC++[.int .u32 d,.int .i32 m,.int .u32 s])++l.map u32C++[.int .u32 md],v⟩
theorem setCells_mid (p q:List PV) (l:List Int) (i n:Nat) (x:Int) (hi:i<l.length) (e:n=p.length+i):setCells n [u32C x] (p++l.map u32C++q)=p++(l.set i x).map u32C++q:=by
 subst e
 rw [setCells_eq _ _ _ (by simp;omega)]
 have h1:(p++l.map u32C++q).take (p.length+i)=p++(l.take i).map u32C:=by
  rw [List.append_assoc,List.take_length_add_append,List.take_append_of_le_length (by rw [List.length_map];omega),List.map_take]
 have h2:(p++l.map u32C++q).drop (p.length+i+[u32C x].length)=(l.drop (i+1)).map u32C++q:=by
  rw [List.append_assoc,Nat.add_assoc,List.drop_length_add_append,List.drop_append_of_le_length (by rw [List.length_map];simp;omega),List.map_drop];rfl
 rw [h1,h2,List.set_eq_take_append_cons_drop,if_pos hi,List.map_append,List.map_cons]
 simp
def D298_4:Draw:={ imp:=[12],win:=[] }
theorem S4.look4 (s:S4) (v:Nat) (H:PH):(H++[s.O4 v])[H.length]? = some ⟨281,[.int .u32 s.a,.int .u32 s.b,.int .u32 s.c,.int .u32 s.d],v⟩:=get_last H _
structure MkS where
 i:Nat
 kv:Nat
 lid:Nat
 off:Nat
 cap:Nat
 ob:PObj
 K:PH
def spL (k:List UInt8) (l:List Int) (i:Nat):List Int:=(List.range i).map (fun j=>(spN k j).a)++l.drop i
theorem spL_len (k:List UInt8) (l:List Int) (i:Nat) (hl:l.length=27) (hi:i≤27):(spL k l i).length=27:=by
 unfold spL
 rw [List.length_append,List.length_map,List.length_range,List.length_drop];omega
theorem spL_set (k:List UInt8) (l:List Int) (i:Nat) (hl:l.length=27) (hi:i<27):(spL k l i).set i (spN k i).a=spL k l (i+1):=by
 unfold spL
 rw [List.set_append_right _ _ (by simp),List.length_map,List.length_range,Nat.sub_self,List.drop_eq_getElem_cons (by omega),List.set_cons_zero,List.range_succ,List.map_append,List.append_assoc]
 rfl
structure MkOk (k:List UInt8) (d m s md:Int) (l:List Int) (kid:Nat) (H:PH) (x:MkS):Prop where
 i:x.i≤27
 key:x.K[kid]? = some (keyO k d m s (spL k l x.i) md x.kv)
 ne:x.lid≠kid
 new:H.length≤x.lid
 lst:x.K[x.lid]? = some x.ob
 three:(x.ob.cs.drop x.off).take 3=[u32C (spN k x.i).b,u32C (spN k x.i).c,u32C (spN k x.i).d]
 room:x.off+x.cap≤x.ob.cs.length
 cap:3≤x.cap
 len:H.length≤x.K.length
 fr:∀j,j<H.length→j≠kid→x.K[j]? = H[j]?
def spW (k:List UInt8):List Int:=(List.range 27).map fun j=>(spN k j).a
theorem setCells_len (k:Nat) (xs cs:List PV) (h:k+xs.length≤cs.length):(setCells k xs cs).length=cs.length:=by
 rw [setCells_eq _ _ _ h]
 simp only [List.length_append,List.length_take,List.length_drop];omega
theorem slide (cs:List PV) (off:Nat) (b c d:PV) (r:List PV) (h:cs.drop off=b::c::d::r) (hr:off+4≤cs.length) (n:PV):((setCells (off+1+2) [n] cs).drop (off+1)).take 3=[c,d,n]:=by
 have hcs:cs=cs.take off++b::c::d::r:=by rw [←h,List.take_append_drop]
 have hp:(cs.take off).length=off:=by rw [List.length_take];omega
 generalize cs.take off=p at hcs hp
 subst hcs
 subst hp
 match r,hr with
 | [],hr=>simp at hr
 | e::r',_ =>
  rw [setCells_eq _ _ _ (by simp;omega)]
  have h1:(p++b::c::d::e::r').take (p.length+1+2)=p++[b,c,d]:=by
   rw [Nat.add_assoc,List.take_length_add_append];rfl
  rw [h1,List.append_assoc,List.append_assoc,List.drop_length_add_append]
  rfl
theorem c316 {H:PH} {id off:Nat} {o:PObj} {n:Int} (m:Int) (ho:H[id]? = some o) (hc:o.cs[off]? = some (.int .u32 n)) :
  CallOk prog 316 [.ptr (some (id,off)),.int .u32 m] H fun r H'=>r=.tup []∧H'=H.set id ⟨o.T,setCells off [.int .u32 m] o.cs,o.ver+1⟩ :=
 callOk_store func316 (by kernel_rfl) (by kernel_rfl) (by kernel_rfl) .u32 (by kernel_rfl) m ho hc
theorem c317:Pure prog 317 [.bool true] (.int .u32 1):=by
 intro H
 (refine fnS (imm:=imm317) ttO_ok func317 ?_;(conv=>whnf))
 exact ⟨rfl,rfl⟩
def D310:Draw:={ imp:=[5],win:=[] }
theorem c310 {H:PH} {id off:Nat} {o:PObj} {n:Int} (ho:H[id]? = some o) (hc:o.cs[off]? = some (.int .u32 n)) :
  CallOk prog 310 [.ptr (some (id,off)),.bool true] H fun r H'=>r=.tup []∧H'=H.set id ⟨o.T,setCells off [.int .u32 1] o.cs,o.ver+1⟩:=by
 (refine fnS (imm:=imm310) ttO_ok func310 ?_;(conv=>whnf))
 refine drawK_of2 D310 [H,H.set id ⟨o.T,setCells off [.int .u32 1] o.cs,o.ver+1⟩] (by kernel_rfl) rfl trivial ?_
 conv=>whnf
 iterate 4 (refine dS ?_;(conv=>whnf))
 refine ⟨_,callK_pure c317 ⟨rfl,rfl,trivial⟩,?_⟩
 conv=>whnf
 refine ⟨_,callK_of (c316 1 ho hc) (by rintro _ _ ⟨rfl,rfl⟩;exact ⟨rfl,rfl,trivial⟩),?_⟩
 conv=>whnf
 exact ⟨rfl,rfl⟩
theorem c298x (k:List UInt8) (hk:k.length=16) (d m s md:Int) (l:List Int) (hl:l.length=27) (v kid:Nat) (H:PH) (hid:H[kid]? = some (keyO k d m s l md v)) :
  CallOk prog 298 [.ptr (some (kid,0))] H fun r H'=>r=.tup []∧∃(K:PH) (kv:Nat),K[kid]? = some (keyO k d m s (spW k) md kv)∧H.length≤K.length∧(∀j,j<H.length→j≠kid→K[j]? = H[j]?)∧H'=K.set kid (keyO k d m s (spW k) 1 (kv+1)):=by
 obtain ⟨k0,k1,k2,k3,k4,k5,k6,k7,k8,k9,ka,kb,kc,kd,ke,kf,rfl⟩:=len16 hk
 have hlt:kid<H.length:=(List.getElem?_eq_some_iff.1 hid).1
 (refine fnS (imm:=imm298) ttO_ok func298 ?_;(conv=>whnf))
 have hid1:(H++[(⟨281,[.int .u32 0,.int .u32 0,.int .u32 0,.int .u32 0],0⟩:PObj)])[kid]? = some (keyO [k0,k1,k2,k3,k4,k5,k6,k7,k8,k9,ka,kb,kc,kd,ke,kf] d m s l md v):=by rw [List.getElem?_append_left hlt];exact hid
 ((conv in (_[_]?)=>tactic=>exact hid1);(conv=>whnf))
 obtain ⟨kk,hkk⟩:∃kk:List UInt8,kk=[k0,k1,k2,k3,k4,k5,k6,k7,k8,k9,ka,kb,kc,kd,ke,kf]:=⟨_,rfl⟩
 refine loopK_of Nat (fun x=>[(0,.ptr (some (kid,0))),(2,.ptr (some (H.length,0))),(12,.agg ([k0,k1,k2,k3,k4,k5,k6,k7,k8,k9,ka,kb,kc,kd,ke,kf].map byteC)),(13,.int .i64 x)]) (fun x=>H++[(wN kk x).O4 x]) (fun x=>x≤16) (fun x=>16 - x) ⟨0,Nat.zero_le _,⟨rfl,rfl,rfl,rfl,trivial⟩,rfl⟩ ?_
 intro i hi
 match i,hi with
 | 0,_ =>
  conv=>whnf
  refine ⟨fun _=>?_,fun h=>absurd (show ((0:Nat):Int)<16 by decide) h⟩
  conv=>whnf
  refine ⟨⟨by decide,by decide⟩,?_⟩
  conv=>whnf
  generalize hz:wN kk 0=z
  refine drawK_of2 D298_4 [H++[z.O4 0],H++[S4.O4 { z with a:=orB z.a k0 0 } 1]] (by kernel_rfl) rfl trivial ?_
  conv=>whnf
  (refine dS ?_;(conv=>whnf))
  apply Exists.intro
  apply And.intro
  ·conv=>whnf
   exact oD
  conv=>whnf
  apply Exists.intro
  apply And.intro
  ·conv=>whnf
   exact oD
  conv=>whnf
  apply Exists.intro
  apply And.intro
  ·conv=>whnf
   ((conv in (_[_]?)=>tactic=>exact (z.look4 0 H));(conv=>whnf))
   exact ⟨rfl,rfl,trivial⟩
  conv=>whnf
  iterate 3 (refine dS ?_;(conv=>whnf))
  apply Exists.intro
  apply And.intro
  ·conv=>whnf
   exact oD
  conv=>whnf
  (refine dS ?_;(conv=>whnf))
  apply Exists.intro
  apply And.intro
  ·conv=>whnf
   exact oD
  conv=>whnf
  (refine dS ?_;(conv=>whnf))
  apply Exists.intro
  apply And.intro
  ·conv=>whnf
   exact oD
  conv=>whnf
  apply Exists.intro
  apply And.intro
  ·conv=>whnf
   ((conv in (_[_]?)=>tactic=>exact (z.look4 0 H));(conv=>whnf))
   exact ⟨rfl,set_last H _ _,trivial⟩
  conv=>whnf
  refine ⟨1,by decide,⟨rfl,rfl,rfl,rfl,trivial⟩,?_,by decide⟩
  subst hz hkk
  rfl
 | 1,_ =>
  conv=>whnf
  refine ⟨fun _=>?_,fun h=>absurd (show ((1:Nat):Int)<16 by decide) h⟩
  conv=>whnf
  refine ⟨⟨by decide,by decide⟩,?_⟩
  conv=>whnf
  generalize hz:wN kk 1=z
  refine drawK_of2 D298_4 [H++[z.O4 1],H++[S4.O4 { z with a:=orB z.a k1 8 } 2]] (by kernel_rfl) rfl trivial ?_
  conv=>whnf
  (refine dS ?_;(conv=>whnf))
  apply Exists.intro
  apply And.intro
  ·conv=>whnf
   exact oD
  conv=>whnf
  apply Exists.intro
  apply And.intro
  ·conv=>whnf
   exact oD
  conv=>whnf
  apply Exists.intro
  apply And.intro
  ·conv=>whnf
   ((conv in (_[_]?)=>tactic=>exact (z.look4 1 H));(conv=>whnf))
   exact ⟨rfl,rfl,trivial⟩
  conv=>whnf
  iterate 3 (refine dS ?_;(conv=>whnf))
  apply Exists.intro
  apply And.intro
  ·conv=>whnf
   exact oD
  conv=>whnf
  (refine dS ?_;(conv=>whnf))
  apply Exists.intro
  apply And.intro
  ·conv=>whnf
   exact oD
  conv=>whnf
  (refine dS ?_;(conv=>whnf))
  apply Exists.intro
  apply And.intro
  ·conv=>whnf
   exact oD
  conv=>whnf
  apply Exists.intro
  apply And.intro
  ·conv=>whnf
   ((conv in (_[_]?)=>tactic=>exact (z.look4 1 H));(conv=>whnf))
   exact ⟨rfl,set_last H _ _,trivial⟩
  conv=>whnf
  refine ⟨2,by decide,⟨rfl,rfl,rfl,rfl,trivial⟩,?_,by decide⟩
  subst hz hkk
  rfl
 | 2,_ =>
  conv=>whnf
  refine ⟨fun _=>?_,fun h=>absurd (show ((2:Nat):Int)<16 by decide) h⟩
  conv=>whnf
  refine ⟨⟨by decide,by decide⟩,?_⟩
  conv=>whnf
  generalize hz:wN kk 2=z
  refine drawK_of2 D298_4 [H++[z.O4 2],H++[S4.O4 { z with a:=orB z.a k2 16 } 3]] (by kernel_rfl) rfl trivial ?_
  conv=>whnf
  (refine dS ?_;(conv=>whnf))
  apply Exists.intro
  apply And.intro
  ·conv=>whnf
   exact oD
  conv=>whnf
  apply Exists.intro
  apply And.intro
  ·conv=>whnf
   exact oD
  conv=>whnf
  apply Exists.intro
  apply And.intro
  ·conv=>whnf
   ((conv in (_[_]?)=>tactic=>exact (z.look4 2 H));(conv=>whnf))
   exact ⟨rfl,rfl,trivial⟩
  conv=>whnf
  iterate 3 (refine dS ?_;(conv=>whnf))
  apply Exists.intro
  apply And.intro
  ·conv=>whnf
   exact oD
  conv=>whnf
  (refine dS ?_;(conv=>whnf))
  apply Exists.intro
  apply And.intro
  ·conv=>whnf
   exact oD
  conv=>whnf
  (refine dS ?_;(conv=>whnf))
  apply Exists.intro
  apply And.intro
  ·conv=>whnf
   exact oD
  conv=>whnf
  apply Exists.intro
  apply And.intro
  ·conv=>whnf
   ((conv in (_[_]?)=>tactic=>exact (z.look4 2 H));(conv=>whnf))
   exact ⟨rfl,set_last H _ _,trivial⟩
  conv=>whnf
  refine ⟨3,by decide,⟨rfl,rfl,rfl,rfl,trivial⟩,?_,by decide⟩
  subst hz hkk
  rfl
 | 3,_ =>
  conv=>whnf
  refine ⟨fun _=>?_,fun h=>absurd (show ((3:Nat):Int)<16 by decide) h⟩
  conv=>whnf
  refine ⟨⟨by decide,by decide⟩,?_⟩
  conv=>whnf
  generalize hz:wN kk 3=z
  refine drawK_of2 D298_4 [H++[z.O4 3],H++[S4.O4 { z with a:=orB z.a k3 24 } 4]] (by kernel_rfl) rfl trivial ?_
  conv=>whnf
  (refine dS ?_;(conv=>whnf))
  apply Exists.intro
  apply And.intro
  ·conv=>whnf
   exact oD
  conv=>whnf
  apply Exists.intro
  apply And.intro
  ·conv=>whnf
   exact oD
  conv=>whnf
  apply Exists.intro
  apply And.intro
  ·conv=>whnf
   ((conv in (_[_]?)=>tactic=>exact (z.look4 3 H));(conv=>whnf))
   exact ⟨rfl,rfl,trivial⟩
  conv=>whnf
  iterate 3 (refine dS ?_;(conv=>whnf))
  apply Exists.intro
  apply And.intro
  ·conv=>whnf
   exact oD
  conv=>whnf
  (refine dS ?_;(conv=>whnf))
  apply Exists.intro
  apply And.intro
  ·conv=>whnf
   exact oD
  conv=>whnf
  (refine dS ?_;(conv=>whnf))
  apply Exists.intro
  apply And.intro
  ·conv=>whnf
   exact oD
  conv=>whnf
  apply Exists.intro
  apply And.intro
  ·conv=>whnf
   ((conv in (_[_]?)=>tactic=>exact (z.look4 3 H));(conv=>whnf))
   exact ⟨rfl,set_last H _ _,trivial⟩
  conv=>whnf
  refine ⟨4,by decide,⟨rfl,rfl,rfl,rfl,trivial⟩,?_,by decide⟩
  subst hz hkk
  rfl
 | 4,_ =>
  conv=>whnf
  refine ⟨fun _=>?_,fun h=>absurd (show ((4:Nat):Int)<16 by decide) h⟩
  conv=>whnf
  refine ⟨⟨by decide,by decide⟩,?_⟩
  conv=>whnf
  generalize hz:wN kk 4=z
  refine drawK_of2 D298_4 [H++[z.O4 4],H++[S4.O4 { z with b:=orB z.b k4 0 } 5]] (by kernel_rfl) rfl trivial ?_
  conv=>whnf
  (refine dS ?_;(conv=>whnf))
  apply Exists.intro
  apply And.intro
  ·conv=>whnf
   exact oD
  conv=>whnf
  apply Exists.intro
  apply And.intro
  ·conv=>whnf
   exact oD
  conv=>whnf
  apply Exists.intro
  apply And.intro
  ·conv=>whnf
   ((conv in (_[_]?)=>tactic=>exact (z.look4 4 H));(conv=>whnf))
   exact ⟨rfl,rfl,trivial⟩
  conv=>whnf
  iterate 3 (refine dS ?_;(conv=>whnf))
  apply Exists.intro
  apply And.intro
  ·conv=>whnf
   exact oD
  conv=>whnf
  (refine dS ?_;(conv=>whnf))
  apply Exists.intro
  apply And.intro
  ·conv=>whnf
   exact oD
  conv=>whnf
  (refine dS ?_;(conv=>whnf))
  apply Exists.intro
  apply And.intro
  ·conv=>whnf
   exact oD
  conv=>whnf
  apply Exists.intro
  apply And.intro
  ·conv=>whnf
   ((conv in (_[_]?)=>tactic=>exact (z.look4 4 H));(conv=>whnf))
   exact ⟨rfl,set_last H _ _,trivial⟩
  conv=>whnf
  refine ⟨5,by decide,⟨rfl,rfl,rfl,rfl,trivial⟩,?_,by decide⟩
  subst hz hkk
  rfl
 | 5,_ =>
  conv=>whnf
  refine ⟨fun _=>?_,fun h=>absurd (show ((5:Nat):Int)<16 by decide) h⟩
  conv=>whnf
  refine ⟨⟨by decide,by decide⟩,?_⟩
  conv=>whnf
  generalize hz:wN kk 5=z
  refine drawK_of2 D298_4 [H++[z.O4 5],H++[S4.O4 { z with b:=orB z.b k5 8 } 6]] (by kernel_rfl) rfl trivial ?_
  conv=>whnf
  (refine dS ?_;(conv=>whnf))
  apply Exists.intro
  apply And.intro
  ·conv=>whnf
   exact oD
  conv=>whnf
  apply Exists.intro
  apply And.intro
  ·conv=>whnf
   exact oD
  conv=>whnf
  apply Exists.intro
  apply And.intro
  ·conv=>whnf
   ((conv in (_[_]?)=>tactic=>exact (z.look4 5 H));(conv=>whnf))
   exact ⟨rfl,rfl,trivial⟩
  conv=>whnf
  iterate 3 (refine dS ?_;(conv=>whnf))
  apply Exists.intro
  apply And.intro
  ·conv=>whnf
   exact oD
  conv=>whnf
  (refine dS ?_;(conv=>whnf))
  apply Exists.intro
  apply And.intro
  ·conv=>whnf
   exact oD
  conv=>whnf
  (refine dS ?_;(conv=>whnf))
  apply Exists.intro
  apply And.intro
  ·conv=>whnf
   exact oD
  conv=>whnf
  apply Exists.intro
  apply And.intro
  ·conv=>whnf
   ((conv in (_[_]?)=>tactic=>exact (z.look4 5 H));(conv=>whnf))
   exact ⟨rfl,set_last H _ _,trivial⟩
  conv=>whnf
  refine ⟨6,by decide,⟨rfl,rfl,rfl,rfl,trivial⟩,?_,by decide⟩
  subst hz hkk
  rfl
 | 6,_ =>
  conv=>whnf
  refine ⟨fun _=>?_,fun h=>absurd (show ((6:Nat):Int)<16 by decide) h⟩
  conv=>whnf
  refine ⟨⟨by decide,by decide⟩,?_⟩
  conv=>whnf
  generalize hz:wN kk 6=z
  refine drawK_of2 D298_4 [H++[z.O4 6],H++[S4.O4 { z with b:=orB z.b k6 16 } 7]] (by kernel_rfl) rfl trivial ?_
  conv=>whnf
  (refine dS ?_;(conv=>whnf))
  apply Exists.intro
  apply And.intro
  ·conv=>whnf
   exact oD
  conv=>whnf
  apply Exists.intro
  apply And.intro
  ·conv=>whnf
   exact oD
  conv=>whnf
  apply Exists.intro
  apply And.intro
  ·conv=>whnf
   ((conv in (_[_]?)=>tactic=>exact (z.look4 6 H));(conv=>whnf))
   exact ⟨rfl,rfl,trivial⟩
  conv=>whnf
  iterate 3 (refine dS ?_;(conv=>whnf))
  apply Exists.intro
  apply And.intro
  ·conv=>whnf
   exact oD
  conv=>whnf
  (refine dS ?_;(conv=>whnf))
  apply Exists.intro
  apply And.intro
  ·conv=>whnf
   exact oD
  conv=>whnf
  (refine dS ?_;(conv=>whnf))
  apply Exists.intro
  apply And.intro
  ·conv=>whnf
   exact oD
  conv=>whnf
  apply Exists.intro
  apply And.intro
  ·conv=>whnf
   ((conv in (_[_]?)=>tactic=>exact (z.look4 6 H));(conv=>whnf))
   exact ⟨rfl,set_last H _ _,trivial⟩
  conv=>whnf
  refine ⟨7,by decide,⟨rfl,rfl,rfl,rfl,trivial⟩,?_,by decide⟩
  subst hz hkk
  rfl
 | 7,_ =>
  conv=>whnf
  refine ⟨fun _=>?_,fun h=>absurd (show ((7:Nat):Int)<16 by decide) h⟩
  conv=>whnf
  refine ⟨⟨by decide,by decide⟩,?_⟩
  conv=>whnf
  generalize hz:wN kk 7=z
  refine drawK_of2 D298_4 [H++[z.O4 7],H++[S4.O4 { z with b:=orB z.b k7 24 } 8]] (by kernel_rfl) rfl trivial ?_
  conv=>whnf
  (refine dS ?_;(conv=>whnf))
  apply Exists.intro
  apply And.intro
  ·conv=>whnf
   exact oD
  conv=>whnf
  apply Exists.intro
  apply And.intro
  ·conv=>whnf
   exact oD
  conv=>whnf
  apply Exists.intro
  apply And.intro
  ·conv=>whnf
   ((conv in (_[_]?)=>tactic=>exact (z.look4 7 H));(conv=>whnf))
   exact ⟨rfl,rfl,trivial⟩
  conv=>whnf
  iterate 3 (refine dS ?_;(conv=>whnf))
  apply Exists.intro
  apply And.intro
  ·conv=>whnf
   exact oD
  conv=>whnf
  (refine dS ?_;(conv=>whnf))
  apply Exists.intro
  apply And.intro
  ·conv=>whnf
   exact oD
  conv=>whnf
  (refine dS ?_;(conv=>whnf))
  apply Exists.intro
  apply And.intro
  ·conv=>whnf
   exact oD
  conv=>whnf
  apply Exists.intro
  apply And.intro
  ·conv=>whnf
   ((conv in (_[_]?)=>tactic=>exact (z.look4 7 H));(conv=>whnf))
   exact ⟨rfl,set_last H _ _,trivial⟩
  conv=>whnf
  refine ⟨8,by decide,⟨rfl,rfl,rfl,rfl,trivial⟩,?_,by decide⟩
  subst hz hkk
  rfl
 | 8,_ =>
  conv=>whnf
  refine ⟨fun _=>?_,fun h=>absurd (show ((8:Nat):Int)<16 by decide) h⟩
  conv=>whnf
  refine ⟨⟨by decide,by decide⟩,?_⟩
  conv=>whnf
  generalize hz:wN kk 8=z
  refine drawK_of2 D298_4 [H++[z.O4 8],H++[S4.O4 { z with c:=orB z.c k8 0 } 9]] (by kernel_rfl) rfl trivial ?_
  conv=>whnf
  (refine dS ?_;(conv=>whnf))
  apply Exists.intro
  apply And.intro
  ·conv=>whnf
   exact oD
  conv=>whnf
  apply Exists.intro
  apply And.intro
  ·conv=>whnf
   exact oD
  conv=>whnf
  apply Exists.intro
  apply And.intro
  ·conv=>whnf
   ((conv in (_[_]?)=>tactic=>exact (z.look4 8 H));(conv=>whnf))
   exact ⟨rfl,rfl,trivial⟩
  conv=>whnf
  iterate 3 (refine dS ?_;(conv=>whnf))
  apply Exists.intro
  apply And.intro
  ·conv=>whnf
   exact oD
  conv=>whnf
  (refine dS ?_;(conv=>whnf))
  apply Exists.intro
  apply And.intro
  ·conv=>whnf
   exact oD
  conv=>whnf
  (refine dS ?_;(conv=>whnf))
  apply Exists.intro
  apply And.intro
  ·conv=>whnf
   exact oD
  conv=>whnf
  apply Exists.intro
  apply And.intro
  ·conv=>whnf
   ((conv in (_[_]?)=>tactic=>exact (z.look4 8 H));(conv=>whnf))
   exact ⟨rfl,set_last H _ _,trivial⟩
  conv=>whnf
  refine ⟨9,by decide,⟨rfl,rfl,rfl,rfl,trivial⟩,?_,by decide⟩
  subst hz hkk
  rfl
 | 9,_ =>
  conv=>whnf
  refine ⟨fun _=>?_,fun h=>absurd (show ((9:Nat):Int)<16 by decide) h⟩
  conv=>whnf
  refine ⟨⟨by decide,by decide⟩,?_⟩
  conv=>whnf
  generalize hz:wN kk 9=z
  refine drawK_of2 D298_4 [H++[z.O4 9],H++[S4.O4 { z with c:=orB z.c k9 8 } 10]] (by kernel_rfl) rfl trivial ?_
  conv=>whnf
  (refine dS ?_;(conv=>whnf))
  apply Exists.intro
  apply And.intro
  ·conv=>whnf
   exact oD
  conv=>whnf
  apply Exists.intro
  apply And.intro
  ·conv=>whnf
   exact oD
  conv=>whnf
  apply Exists.intro
  apply And.intro
  ·conv=>whnf
   ((conv in (_[_]?)=>tactic=>exact (z.look4 9 H));(conv=>whnf))
   exact ⟨rfl,rfl,trivial⟩
  conv=>whnf
  iterate 3 (refine dS ?_;(conv=>whnf))
  apply Exists.intro
  apply And.intro
  ·conv=>whnf
   exact oD
  conv=>whnf
  (refine dS ?_;(conv=>whnf))
  apply Exists.intro
  apply And.intro
  ·conv=>whnf
   exact oD
  conv=>whnf
  (refine dS ?_;(conv=>whnf))
  apply Exists.intro
  apply And.intro
  ·conv=>whnf
   exact oD
  conv=>whnf
  apply Exists.intro
  apply And.intro
  ·conv=>whnf
   ((conv in (_[_]?)=>tactic=>exact (z.look4 9 H));(conv=>whnf))
   exact ⟨rfl,set_last H _ _,trivial⟩
  conv=>whnf
  refine ⟨10,by decide,⟨rfl,rfl,rfl,rfl,trivial⟩,?_,by decide⟩
  subst hz hkk
  rfl
 | 10,_ =>
  conv=>whnf
  refine ⟨fun _=>?_,fun h=>absurd (show ((10:Nat):Int)<16 by decide) h⟩
  conv=>whnf
  refine ⟨⟨by decide,by decide⟩,?_⟩
  conv=>whnf
  generalize hz:wN kk 10=z
  refine drawK_of2 D298_4 [H++[z.O4 10],H++[S4.O4 { z with c:=orB z.c ka 16 } 11]] (by kernel_rfl) rfl trivial ?_
  conv=>whnf
  (refine dS ?_;(conv=>whnf))
  apply Exists.intro
  apply And.intro
  ·conv=>whnf
   exact oD
  conv=>whnf
  apply Exists.intro
  apply And.intro
  ·conv=>whnf
   exact oD
  conv=>whnf
  apply Exists.intro
  apply And.intro
  ·conv=>whnf
   ((conv in (_[_]?)=>tactic=>exact (z.look4 10 H));(conv=>whnf))
   exact ⟨rfl,rfl,trivial⟩
  conv=>whnf
  iterate 3 (refine dS ?_;(conv=>whnf))
  apply Exists.intro
  apply And.intro
  ·conv=>whnf
   exact oD
  conv=>whnf
  (refine dS ?_;(conv=>whnf))
  apply Exists.intro
  apply And.intro
  ·conv=>whnf
   exact oD
  conv=>whnf
  (refine dS ?_;(conv=>whnf))
  apply Exists.intro
  apply And.intro
  ·conv=>whnf
   exact oD
  conv=>whnf
  apply Exists.intro
  apply And.intro
  ·conv=>whnf
   ((conv in (_[_]?)=>tactic=>exact (z.look4 10 H));(conv=>whnf))
   exact ⟨rfl,set_last H _ _,trivial⟩
  conv=>whnf
  refine ⟨11,by decide,⟨rfl,rfl,rfl,rfl,trivial⟩,?_,by decide⟩
  subst hz hkk
  rfl
 | 11,_ =>
  conv=>whnf
  refine ⟨fun _=>?_,fun h=>absurd (show ((11:Nat):Int)<16 by decide) h⟩
  conv=>whnf
  refine ⟨⟨by decide,by decide⟩,?_⟩
  conv=>whnf
  generalize hz:wN kk 11=z
  refine drawK_of2 D298_4 [H++[z.O4 11],H++[S4.O4 { z with c:=orB z.c kb 24 } 12]] (by kernel_rfl) rfl trivial ?_
  conv=>whnf
  (refine dS ?_;(conv=>whnf))
  apply Exists.intro
  apply And.intro
  ·conv=>whnf
   exact oD
  conv=>whnf
  apply Exists.intro
  apply And.intro
  ·conv=>whnf
   exact oD
  conv=>whnf
  apply Exists.intro
  apply And.intro
  ·conv=>whnf
   ((conv in (_[_]?)=>tactic=>exact (z.look4 11 H));(conv=>whnf))
   exact ⟨rfl,rfl,trivial⟩
  conv=>whnf
  iterate 3 (refine dS ?_;(conv=>whnf))
  apply Exists.intro
  apply And.intro
  ·conv=>whnf
   exact oD
  conv=>whnf
  (refine dS ?_;(conv=>whnf))
  apply Exists.intro
  apply And.intro
  ·conv=>whnf
   exact oD
  conv=>whnf
  (refine dS ?_;(conv=>whnf))
  apply Exists.intro
  apply And.intro
  ·conv=>whnf
   exact oD
  conv=>whnf
  apply Exists.intro
  apply And.intro
  ·conv=>whnf
   ((conv in (_[_]?)=>tactic=>exact (z.look4 11 H));(conv=>whnf))
   exact ⟨rfl,set_last H _ _,trivial⟩
  conv=>whnf
  refine ⟨12,by decide,⟨rfl,rfl,rfl,rfl,trivial⟩,?_,by decide⟩
  subst hz hkk
  rfl
 | 12,_ =>
  conv=>whnf
  refine ⟨fun _=>?_,fun h=>absurd (show ((12:Nat):Int)<16 by decide) h⟩
  conv=>whnf
  refine ⟨⟨by decide,by decide⟩,?_⟩
  conv=>whnf
  generalize hz:wN kk 12=z
  refine drawK_of2 D298_4 [H++[z.O4 12],H++[S4.O4 { z with d:=orB z.d kc 0 } 13]] (by kernel_rfl) rfl trivial ?_
  conv=>whnf
  (refine dS ?_;(conv=>whnf))
  apply Exists.intro
  apply And.intro
  ·conv=>whnf
   exact oD
  conv=>whnf
  apply Exists.intro
  apply And.intro
  ·conv=>whnf
   exact oD
  conv=>whnf
  apply Exists.intro
  apply And.intro
  ·conv=>whnf
   ((conv in (_[_]?)=>tactic=>exact (z.look4 12 H));(conv=>whnf))
   exact ⟨rfl,rfl,trivial⟩
  conv=>whnf
  iterate 3 (refine dS ?_;(conv=>whnf))
  apply Exists.intro
  apply And.intro
  ·conv=>whnf
   exact oD
  conv=>whnf
  (refine dS ?_;(conv=>whnf))
  apply Exists.intro
  apply And.intro
  ·conv=>whnf
   exact oD
  conv=>whnf
  (refine dS ?_;(conv=>whnf))
  apply Exists.intro
  apply And.intro
  ·conv=>whnf
   exact oD
  conv=>whnf
  apply Exists.intro
  apply And.intro
  ·conv=>whnf
   ((conv in (_[_]?)=>tactic=>exact (z.look4 12 H));(conv=>whnf))
   exact ⟨rfl,set_last H _ _,trivial⟩
  conv=>whnf
  refine ⟨13,by decide,⟨rfl,rfl,rfl,rfl,trivial⟩,?_,by decide⟩
  subst hz hkk
  rfl
 | 13,_ =>
  conv=>whnf
  refine ⟨fun _=>?_,fun h=>absurd (show ((13:Nat):Int)<16 by decide) h⟩
  conv=>whnf
  refine ⟨⟨by decide,by decide⟩,?_⟩
  conv=>whnf
  generalize hz:wN kk 13=z
  refine drawK_of2 D298_4 [H++[z.O4 13],H++[S4.O4 { z with d:=orB z.d kd 8 } 14]] (by kernel_rfl) rfl trivial ?_
  conv=>whnf
  (refine dS ?_;(conv=>whnf))
  apply Exists.intro
  apply And.intro
  ·conv=>whnf
   exact oD
  conv=>whnf
  apply Exists.intro
  apply And.intro
  ·conv=>whnf
   exact oD
  conv=>whnf
  apply Exists.intro
  apply And.intro
  ·conv=>whnf
   ((conv in (_[_]?)=>tactic=>exact (z.look4 13 H));(conv=>whnf))
   exact ⟨rfl,rfl,trivial⟩
  conv=>whnf
  iterate 3 (refine dS ?_;(conv=>whnf))
  apply Exists.intro
  apply And.intro
  ·conv=>whnf
   exact oD
  conv=>whnf
  (refine dS ?_;(conv=>whnf))
  apply Exists.intro
  apply And.intro
  ·conv=>whnf
   exact oD
  conv=>whnf
  (refine dS ?_;(conv=>whnf))
  apply Exists.intro
  apply And.intro
  ·conv=>whnf
   exact oD
  conv=>whnf
  apply Exists.intro
  apply And.intro
  ·conv=>whnf
   ((conv in (_[_]?)=>tactic=>exact (z.look4 13 H));(conv=>whnf))
   exact ⟨rfl,set_last H _ _,trivial⟩
  conv=>whnf
  refine ⟨14,by decide,⟨rfl,rfl,rfl,rfl,trivial⟩,?_,by decide⟩
  subst hz hkk
  rfl
 | 14,_ =>
  conv=>whnf
  refine ⟨fun _=>?_,fun h=>absurd (show ((14:Nat):Int)<16 by decide) h⟩
  conv=>whnf
  refine ⟨⟨by decide,by decide⟩,?_⟩
  conv=>whnf
  generalize hz:wN kk 14=z
  refine drawK_of2 D298_4 [H++[z.O4 14],H++[S4.O4 { z with d:=orB z.d ke 16 } 15]] (by kernel_rfl) rfl trivial ?_
  conv=>whnf
  (refine dS ?_;(conv=>whnf))
  apply Exists.intro
  apply And.intro
  ·conv=>whnf
   exact oD
  conv=>whnf
  apply Exists.intro
  apply And.intro
  ·conv=>whnf
   exact oD
  conv=>whnf
  apply Exists.intro
  apply And.intro
  ·conv=>whnf
   ((conv in (_[_]?)=>tactic=>exact (z.look4 14 H));(conv=>whnf))
   exact ⟨rfl,rfl,trivial⟩
  conv=>whnf
  iterate 3 (refine dS ?_;(conv=>whnf))
  apply Exists.intro
  apply And.intro
  ·conv=>whnf
   exact oD
  conv=>whnf
  (refine dS ?_;(conv=>whnf))
  apply Exists.intro
  apply And.intro
  ·conv=>whnf
   exact oD
  conv=>whnf
  (refine dS ?_;(conv=>whnf))
  apply Exists.intro
  apply And.intro
  ·conv=>whnf
   exact oD
  conv=>whnf
  apply Exists.intro
  apply And.intro
  ·conv=>whnf
   ((conv in (_[_]?)=>tactic=>exact (z.look4 14 H));(conv=>whnf))
   exact ⟨rfl,set_last H _ _,trivial⟩
  conv=>whnf
  refine ⟨15,by decide,⟨rfl,rfl,rfl,rfl,trivial⟩,?_,by decide⟩
  subst hz hkk
  rfl
 | 15,_ =>
  conv=>whnf
  refine ⟨fun _=>?_,fun h=>absurd (show ((15:Nat):Int)<16 by decide) h⟩
  conv=>whnf
  refine ⟨⟨by decide,by decide⟩,?_⟩
  conv=>whnf
  generalize hz:wN kk 15=z
  refine drawK_of2 D298_4 [H++[z.O4 15],H++[S4.O4 { z with d:=orB z.d kf 24 } 16]] (by kernel_rfl) rfl trivial ?_
  conv=>whnf
  (refine dS ?_;(conv=>whnf))
  apply Exists.intro
  apply And.intro
  ·conv=>whnf
   exact oD
  conv=>whnf
  apply Exists.intro
  apply And.intro
  ·conv=>whnf
   exact oD
  conv=>whnf
  apply Exists.intro
  apply And.intro
  ·conv=>whnf
   ((conv in (_[_]?)=>tactic=>exact (z.look4 15 H));(conv=>whnf))
   exact ⟨rfl,rfl,trivial⟩
  conv=>whnf
  iterate 3 (refine dS ?_;(conv=>whnf))
  apply Exists.intro
  apply And.intro
  ·conv=>whnf
   exact oD
  conv=>whnf
  (refine dS ?_;(conv=>whnf))
  apply Exists.intro
  apply And.intro
  ·conv=>whnf
   exact oD
  conv=>whnf
  (refine dS ?_;(conv=>whnf))
  apply Exists.intro
  apply And.intro
  ·conv=>whnf
   exact oD
  conv=>whnf
  apply Exists.intro
  apply And.intro
  ·conv=>whnf
   ((conv in (_[_]?)=>tactic=>exact (z.look4 15 H));(conv=>whnf))
   exact ⟨rfl,set_last H _ _,trivial⟩
  conv=>whnf
  refine ⟨16,by decide,⟨rfl,rfl,rfl,rfl,trivial⟩,?_,by decide⟩
  subst hz hkk
  rfl
 | 16,_ =>
  conv=>whnf
  refine ⟨fun h=>absurd h (by decide),fun _=>?_⟩
  conv=>whnf
  refine drawK_pure2 (by kernel_rfl) ?_
  conv=>whnf
  apply Exists.intro
  apply And.intro
  ·conv=>whnf
   exact ⟨by decide,rfl,rfl,trivial⟩
  conv=>whnf
  apply Exists.intro
  apply And.intro
  ·conv=>whnf
   ((conv in (_[_]?)=>tactic=>exact ((wN kk 16).look4 16 H));(conv=>whnf))
   exact ⟨rfl,rfl,trivial⟩
  conv=>whnf
  apply Exists.intro
  apply And.intro
  ·conv=>whnf
   refine ⟨by decide,fun _=>?_,fun h=>absurd (show (1:Int)<4 by decide) h⟩
   conv=>whnf
   exact ⟨rfl,rfl,trivial⟩
  conv=>whnf
  iterate 2 (refine dS ?_;(conv=>whnf))
  subst hkk
  refine loopK_of MkS (fun x=>[(0,.ptr (some (kid,0))),(5,.int .u32 (spN [k0,k1,k2,k3,k4,k5,k6,k7,k8,k9,ka,kb,kc,kd,ke,kf] x.i).a),(6,.sref x.lid x.off 3 x.cap),(33,.int .i64 x.i)]) (fun x=>x.K) (fun x=>MkOk [k0,k1,k2,k3,k4,k5,k6,k7,k8,k9,ka,kb,kc,kd,ke,kf] d m s md l kid H x) (fun x=>27 - x.i)
   ⟨⟨0,v,H.length,1,3,(wN [k0,k1,k2,k3,k4,k5,k6,k7,k8,k9,ka,kb,kc,kd,ke,kf] 16).O4 16,H++[(wN [k0,k1,k2,k3,k4,k5,k6,k7,k8,k9,ka,kb,kc,kd,ke,kf] 16).O4 16]⟩,⟨Nat.zero_le _,by rw [List.getElem?_append_left hlt];exact hid,by show H.length≠kid;omega,Nat.le_refl _,get_last H _,rfl,by show 1+3≤4;omega,by show 3≤3;omega,by simp,fun j hj _=>List.getElem?_append_left hj⟩,⟨rfl,rfl,rfl,rfl,trivial⟩,rfl⟩ ?_
  rintro x hx
  obtain ⟨i,kv,lid,off,cap,ob,K⟩:=x
  have hx:MkOk [k0,k1,k2,k3,k4,k5,k6,k7,k8,k9,ka,kb,kc,kd,ke,kf] d m s md l kid H ⟨i,kv,lid,off,cap,ob,K⟩:=hx
  have hi:i≤27:=hx.i
  have hKk:K[kid]? = some (keyO [k0,k1,k2,k3,k4,k5,k6,k7,k8,k9,ka,kb,kc,kd,ke,kf] d m s (spL [k0,k1,k2,k3,k4,k5,k6,k7,k8,k9,ka,kb,kc,kd,ke,kf] l i) md kv):=hx.key
  conv=>whnf
  refine ⟨fun h=>?_,fun h=>?_⟩
  ·have h:(i:Int)<27:=h
   have hspl:(spL [k0,k1,k2,k3,k4,k5,k6,k7,k8,k9,ka,kb,kc,kd,ke,kf] l i).length=27:=by rw [spL_len _ _ _ hl hi]
   conv=>whnf
   refine ⟨⟨by omega,h⟩,?_⟩
   conv=>whnf
   ((conv in (_[_]?)=>tactic=>exact hKk);(conv=>whnf))
   ((conv in (Nat.ble _ _)=>tactic=>exact (show Nat.ble (0+19+(i:Int).toNat*1+1) (([k0,k1,k2,k3,k4,k5,k6,k7,k8,k9,ka,kb,kc,kd,ke,kf].map byteC++[PV.int .u32 d,PV.int .i32 m,PV.int .u32 s])++(spL [k0,k1,k2,k3,k4,k5,k6,k7,k8,k9,ka,kb,kc,kd,ke,kf] l i).map u32C++[PV.int .u32 md]).length=true by rw [Nat.ble_eq];simp [hspl];omega));(conv=>whnf))
   generalize hg:setH kid _ _ _=K1
   have hK1:K1=K.set kid (keyO [k0,k1,k2,k3,k4,k5,k6,k7,k8,k9,ka,kb,kc,kd,ke,kf] d m s (spL [k0,k1,k2,k3,k4,k5,k6,k7,k8,k9,ka,kb,kc,kd,ke,kf] l (i+1)) md (kv+1)):=by
    rw [←hg]
    show K.set kid ⟨301,setCells (0+19+(i:Int).toNat*1) [u32C (spN [k0,k1,k2,k3,k4,k5,k6,k7,k8,k9,ka,kb,kc,kd,ke,kf] i).a] (([k0,k1,k2,k3,k4,k5,k6,k7,k8,k9,ka,kb,kc,kd,ke,kf].map byteC++[PV.int .u32 d,PV.int .i32 m,PV.int .u32 s])++(spL [k0,k1,k2,k3,k4,k5,k6,k7,k8,k9,ka,kb,kc,kd,ke,kf] l i).map u32C++[PV.int .u32 md]),kv+1⟩=_
    rw [setCells_mid _ _ _ i _ _ (by omega) (by simp),spL_set _ _ _ hl (by omega)]
    rfl
   have h1:K1[lid]? = some ob:=by rw [hK1,List.getElem?_set_ne (Ne.symm hx.ne)];exact hx.lst
   have hk1:K1[kid]? = some (keyO [k0,k1,k2,k3,k4,k5,k6,k7,k8,k9,ka,kb,kc,kd,ke,kf] d m s (spL [k0,k1,k2,k3,k4,k5,k6,k7,k8,k9,ka,kb,kc,kd,ke,kf] l (i+1)) md (kv+1)):=by rw [hK1];exact get_set hKk
   have hl1:K1.length=K.length:=by rw [hK1,List.length_set]
   have ht:(ob.cs.drop off).take 3=[u32C (spN [k0,k1,k2,k3,k4,k5,k6,k7,k8,k9,ka,kb,kc,kd,ke,kf] i).b,u32C (spN [k0,k1,k2,k3,k4,k5,k6,k7,k8,k9,ka,kb,kc,kd,ke,kf] i).c,u32C (spN [k0,k1,k2,k3,k4,k5,k6,k7,k8,k9,ka,kb,kc,kd,ke,kf] i).d]:=hx.three
   have ht2:ob.cs.drop off=u32C (spN [k0,k1,k2,k3,k4,k5,k6,k7,k8,k9,ka,kb,kc,kd,ke,kf] i).b::u32C (spN [k0,k1,k2,k3,k4,k5,k6,k7,k8,k9,ka,kb,kc,kd,ke,kf] i).c::u32C (spN [k0,k1,k2,k3,k4,k5,k6,k7,k8,k9,ka,kb,kc,kd,ke,kf] i).d::(ob.cs.drop off).drop 3:=by
    conv=>lhs;rw [←List.take_append_drop 3 (ob.cs.drop off),ht]
    rfl
   clear hg
   conv=>whnf
   refine ⟨⟨by decide,by show (0:Int)<((3:Nat):Int);decide⟩,?_⟩
   conv=>whnf
   ((conv in (_[_]?)=>tactic=>exact h1);(conv=>whnf))
   ((conv in (dropN _ _)=>tactic=>exact ((dropN_eq _ _).trans ht2));(conv=>whnf))
   refine callK_pure (c283 _ _) ?_
   conv=>whnf
   refine callK_pure (c283 _ _) ?_
   conv=>whnf
   refine ⟨⟨by decide,by show (1:Int)≤((3:Nat):Int);decide,by show ((3:Nat):Int)≤((3:Nat):Int);decide⟩,fun _=>?_,fun h=>absurd (show (1:Int)<((3:Nat):Int) by decide) h⟩
   conv=>whnf
   ((conv in (_[_]?)=>tactic=>exact h1);(conv=>whnf))
   have hr1:off+cap≤ob.cs.length:=hx.room
   have hr2:3≤cap:=hx.cap
   have hlid:H.length≤lid:=hx.new
   have hlen:H.length≤K.length:=hx.len
   refine ⟨⟨by decide,rfl,rfl,by show off+1+2≤ob.cs.length;omega⟩,fun h4=>?_,fun h4 cap' hc=>?_⟩
   ·have h4:3≤cap - 1:=h4
    refine ⟨by show off+1+3≤ob.cs.length;omega,?_⟩
    conv=>whnf
    refine ⟨⟨i+1,kv+1,lid,off+1,cap - 1,⟨ob.T,setCells (off+1+2) [u32C (spN [k0,k1,k2,k3,k4,k5,k6,k7,k8,k9,ka,kb,kc,kd,ke,kf] (i+1)).d] ob.cs,ob.ver+1⟩,K1.set lid ⟨ob.T,setCells (off+1+2) [u32C (spN [k0,k1,k2,k3,k4,k5,k6,k7,k8,k9,ka,kb,kc,kd,ke,kf] (i+1)).d] ob.cs,ob.ver+1⟩⟩,⟨by show i+1≤27;omega,by rw [List.getElem?_set_ne hx.ne];exact hk1,hx.ne,hx.new,get_set h1,slide ob.cs off _ _ _ _ ht2 (by omega) _,?_,by show 3≤cap - 1;omega,by show H.length≤(K1.set lid _).length;rw [List.length_set];omega,fun j hj hjk=>?_⟩,⟨rfl,rfl,rfl,?_,trivial⟩,rfl,by show 27 - (i+1)<27 - i;omega⟩
    ·show off+1+(cap - 1)≤(setCells _ _ _).length
     rw [setCells_len _ _ _ (by show off+1+2+1≤_;omega)];omega
    ·rw [List.getElem?_set_ne (by omega),hK1,List.getElem?_set_ne (Ne.symm hjk)]
     exact hx.fr j hj hjk
    ·show PV.int _ (IntKind.i64.wrap ((i:Int)+1))=PV.int _ _
     rw [wrap64 (by omega) (by omega)];simp
   ·have hc:3≤cap':=hc
    conv=>whnf
    have ht3:ob.cs.drop (off+1)=u32C (spN [k0,k1,k2,k3,k4,k5,k6,k7,k8,k9,ka,kb,kc,kd,ke,kf] i).c::u32C (spN [k0,k1,k2,k3,k4,k5,k6,k7,k8,k9,ka,kb,kc,kd,ke,kf] i).d::(ob.cs.drop off).drop 3:=by
     rw [←List.drop_drop,ht2];rfl
    have hcell:((ob.cs.drop (off+1)).take 2).map dem=[u32C (spN [k0,k1,k2,k3,k4,k5,k6,k7,k8,k9,ka,kb,kc,kd,ke,kf] i).c,u32C (spN [k0,k1,k2,k3,k4,k5,k6,k7,k8,k9,ka,kb,kc,kd,ke,kf] i).d]:=by rw [ht3];rfl
    refine ⟨⟨i+1,kv+1,K1.length,0,cap',⟨226,((ob.cs.drop (off+1)).take 2).map dem++[u32C (spN [k0,k1,k2,k3,k4,k5,k6,k7,k8,k9,ka,kb,kc,kd,ke,kf] (i+1)).d]++zerosOf [PV.int .u32 0] (cap' - 3),0⟩,K1++[⟨226,((ob.cs.drop (off+1)).take 2).map dem++[u32C (spN [k0,k1,k2,k3,k4,k5,k6,k7,k8,k9,ka,kb,kc,kd,ke,kf] (i+1)).d]++zerosOf [PV.int .u32 0] (cap' - 3),0⟩]⟩,⟨by show i+1≤27;omega,by rw [List.getElem?_append_left (List.getElem?_eq_some_iff.1 hk1).1];exact hk1,by show K1.length≠kid;omega,by show H.length≤K1.length;omega,get_last K1 _,?_,?_,hc,by show H.length≤(K1++[_]).length;rw [List.length_append];omega,fun j hj hjk=>?_⟩,⟨rfl,rfl,rfl,?_,trivial⟩,rfl,by show 27 - (i+1)<27 - i;omega⟩
    ·rw [hcell];rfl
    ·show 0+cap'≤(((ob.cs.drop (off+1)).take 2).map dem++[u32C (spN [k0,k1,k2,k3,k4,k5,k6,k7,k8,k9,ka,kb,kc,kd,ke,kf] (i+1)).d]++zerosOf [PV.int .u32 0] (cap' - 3)).length
     rw [hcell,List.length_append,(zerosOf_get (z:=[PV.int .u32 0]) (sz:=1) rfl (by omega) (cap' - 3)).1]
     show 0+cap'≤3+(cap' - 3)*1
     omega
    ·rw [List.getElem?_append_left (by omega),hK1,List.getElem?_set_ne (Ne.symm hjk)]
     exact hx.fr j hj hjk
    ·show PV.int _ (IntKind.i64.wrap ((i:Int)+1))=PV.int _ _
     rw [wrap64 (by omega) (by omega)];simp
  ·have h:¬(i:Int)<27:=h
   have e:i=27:=by omega
   subst e
   have hspl:spL [k0,k1,k2,k3,k4,k5,k6,k7,k8,k9,ka,kb,kc,kd,ke,kf] l 27=spW [k0,k1,k2,k3,k4,k5,k6,k7,k8,k9,ka,kb,kc,kd,ke,kf]:=by
    unfold spL spW
    rw [List.drop_of_length_le (by omega),List.append_nil]
   rw [hspl] at hKk
   conv=>whnf
   refine callK_of (c310 (o:=keyO [k0,k1,k2,k3,k4,k5,k6,k7,k8,k9,ka,kb,kc,kd,ke,kf] d m s (spW [k0,k1,k2,k3,k4,k5,k6,k7,k8,k9,ka,kb,kc,kd,ke,kf]) md kv) (n:=md) hKk rfl) ?_
   rintro _ _ ⟨rfl,rfl⟩
   conv=>whnf
   exact ⟨rfl,K,kv,hKk,hx.len,hx.fr,rfl⟩
 | j+17,hj=>exact absurd hj (by omega)
set_option maxHeartbeats 1000000
theorem keyO_flat (k:List UInt8) (d m s:Int) (l:List Int) (md:Int) (v:Nat):∀c∈(keyO k d m s l md v).cs,flatP c=true:=by
 intro c hc
 simp only [keyO,List.mem_append,List.mem_map,List.mem_cons,List.not_mem_nil,or_false] at hc
 rcases hc with ((⟨b,_,rfl⟩ | rfl | rfl | rfl) | ⟨x,_,rfl⟩) | rfl <;> rfl
theorem split_set {H K:PH} {kid:Nat} {o:PObj} (hlt:kid<H.length) (hl:H.length≤K.length) (hf:∀j,j<H.length→j≠kid→K[j]? = H[j]?):K.set kid o=H.set kid o++K.drop H.length:=by
 apply List.ext_getElem?
 intro j
 by_cases h:j<H.length
 ·rw [List.getElem?_append_left (by rw [List.length_set];exact h)]
  by_cases e:j=kid
  ·subst e
   rw [List.getElem?_set_self (by omega),List.getElem?_set_self h]
  ·rw [List.getElem?_set_ne (Ne.symm e),List.getElem?_set_ne (Ne.symm e)]
   exact hf j h e
 ·rw [List.getElem?_append_right (by rw [List.length_set];omega),List.length_set,List.getElem?_drop,List.getElem?_set_ne (by omega)]
  congr 1;omega
theorem c298 (k:List UInt8) (hk:k.length=16) (d m s md:Int) (l:List Int) (hl:l.length=27) (v kid:Nat) (H:PH) (hid:H[kid]? = some (keyO k d m s l md v)) :
  CallOk prog 298 [.ptr (some (kid,0))] H fun r H'=>r=.tup []∧∃v',H'=H.set kid (keyO k d m s (spW k) 1 v'):=by
 have hlt:kid<H.length:=(List.getElem?_eq_some_iff.1 hid).1
 refine CallOk.gcK (c298x k hk d m s md l hl v kid H hid) fun r H' hh=>?_
 obtain ⟨rfl,K,kv,h1,h2,h3,rfl⟩:=hh
 exact ⟨rfl,H.set kid (keyO k d m s (spW k) 1 (kv+1)),_,split_set hlt h2 h3,kept_set hlt fun c hc=>.inl (keyO_flat _ _ _ _ _ _ _ c hc),rfl,_,rfl⟩
def WordsOk:Prop:=∀(k:List UInt8) (hk:k.length=16) (kid:Nat) (H:PH),(∃v,H[kid]? = some (keyO k 0 0 0 (List.replicate 27 0) 0 v))∨(∃v,H[kid]? = some (keyO k 1 0 0 (spW k) 1 v)) →
 CallOk prog 282 [.ptr (some (kid,0))] H fun r H'=>r=.sref kid 19 27 27∧∃v',H'=H.set kid (keyO k 1 0 0 (spW k) 1 v')
def spR (w:Int) (p:Int×Int):Int×Int:=(xor32 (add32 (rot32 p.1 (-8)) p.2) w,xor32 (rot32 p.2 3) (xor32 (add32 (rot32 p.1 (-8)) p.2) w))
def spB (ws:List Int) (p:Int×Int):Int×Int:=ws.foldl (fun p w=>spR w p) p
theorem spB_snoc (ws:List Int) (w:Int) (p:Int×Int):spB (ws++[w]) p=spR w (spB ws p):=by unfold spB;rw [List.foldl_append];rfl
theorem spW_len (k:List UInt8):(spW k).length=27:=by unfold spW;simp
theorem c257 (hw:WordsOk) (k:List UInt8) (hk:k.length=16) (kid:Nat) (H:PH) (h0:(∃v,H[kid]? = some (keyO k 0 0 0 (List.replicate 27 0) 0 v))∨(∃v,H[kid]? = some (keyO k 1 0 0 (spW k) 1 v))) (x y:Int) :
  CallOk prog 257 [.ptr (some (kid,0)),.int .u32 x,.int .u32 y] H fun r H'=>r=.tup [.int .u32 (spB (spW k) (x,y)).1,.int .u32 (spB (spW k) (x,y)).2]∧∃v',H'=H.set kid (keyO k 1 0 0 (spW k) 1 v'):=by
 have hlt:kid<H.length:=by
  rcases h0 with ⟨v,h⟩ | ⟨v,h⟩ <;> exact (List.getElem?_eq_some_iff.1 h).1
 (refine fnS (imm:=imm257) ttO_ok func257 ?_;(conv=>whnf))
 refine callK_of (hw k hk kid H h0) ?_
 rintro _ _ ⟨rfl,v',rfl⟩
 have hK:(H.set kid (keyO k 1 0 0 (spW k) 1 v'))[kid]? = some (keyO k 1 0 0 (spW k) 1 v'):=List.getElem?_set_self hlt
 generalize hKK:H.set kid (keyO k 1 0 0 (spW k) 1 v')=K at hK
 conv=>whnf
 refine loopK_of Nat (fun i=>[(13,.sref kid 19 27 27),(14,.int .i64 27),(15,.int .i64 i),(1,.int .u32 (spB ((spW k).take i) (x,y)).1),(2,.int .u32 (spB ((spW k).take i) (x,y)).2)]) (fun _=>K) (fun i=>i≤27) (fun i=>27 - i) ⟨0,Nat.zero_le _,⟨rfl,rfl,rfl,rfl,rfl,trivial⟩,rfl⟩ ?_
 intro i hi
 conv=>whnf
 refine ⟨fun h=>?_,fun h=>?_⟩
 ·have h:(i:Int)<27:=h
  have hi':i<(spW k).length:=by rw [spW_len];omega
  conv=>whnf
  refine ⟨⟨by omega,by show (i:Int)<((27:Nat):Int);exact h⟩,?_⟩
  conv=>whnf
  ((conv in (_[_]?)=>tactic=>exact hK);(conv=>whnf))
  have hd:dropN (19+(i:Int).toNat*1) (keyO k 1 0 0 (spW k) 1 v').cs=u32C (spW k)[i]::(((spW k).drop (i+1)).map u32C++[u32C 1]):=by
   rw [dropN_eq]
   show ((k.map byteC++[PV.int .u32 1,PV.int .i32 0,PV.int .u32 0])++(spW k).map u32C++[PV.int .u32 1]).drop _=_
   have e:19+(i:Int).toNat*1=(k.map byteC++[PV.int .u32 1,PV.int .i32 0,PV.int .u32 0]).length+i:=by simp [hk]
   rw [e,List.append_assoc,List.drop_length_add_append,List.drop_append_of_le_length (by rw [List.length_map];omega),←List.map_drop,List.drop_eq_getElem_cons hi']
   rfl
  ((conv in (dropN _ _)=>tactic=>exact hd);(conv=>whnf))
  refine callK_pure (c283 _ _) ?_
  conv=>whnf
  refine callK_pure (c283 _ _) ?_
  conv=>whnf
  have et:spB ((spW k).take (i+1)) (x,y)=spR (spW k)[i] (spB ((spW k).take i) (x,y)):=by rw [List.take_succ_eq_append_getElem hi',spB_snoc]
  refine ⟨i+1,by omega,⟨rfl,rfl,?_,?_,?_,trivial⟩,rfl,by omega⟩
  ·show PV.int _ (IntKind.i64.wrap ((i:Int)+1))=PV.int _ _
   rw [wrap64 (by omega) (by omega)];simp
  ·rw [et];rfl
  ·rw [et];rfl
 ·have h:¬(i:Int)<27:=h
  have e:(spW k).take i=spW k:=List.take_of_length_le (by rw [spW_len];omega)
  rw [e]
  conv=>whnf
  exact ⟨rfl,v',hKK.symm⟩
def KeySt (k:List UInt8) (o:PObj):Prop:=(∃v,o=keyO k 0 0 0 (List.replicate 27 0) 0 v)∨(∃v,o=keyO k 1 0 0 (spW k) 1 v)
theorem KeySt.flat {k:List UInt8} {o:PObj} (h:KeySt k o):o.cs.all flatP=true:=by
 rcases h with ⟨v,rfl⟩ | ⟨v,rfl⟩ <;> exact List.all_eq_true.2 fun c hc=>keyO_flat _ _ _ _ _ _ _ c hc
def le4 (w:Int):List UInt8:=[byteI w,byteI (ishr .u32 w 8),byteI (ishr .u32 w 16),byteI (ishr .u32 w 24)]
def blkP (k:List UInt8) (nn:Int) (i:Nat):Int×Int:=spB (spW k) (IntKind.u32.wrap (ishr .u64 nn 32),add32 (IntKind.u32.wrap nn) i)
def strN (k:List UInt8) (nn:Int):Nat→List UInt8
 | 0=>[]
 | i+1=>strN k nn i++(le4 (blkP k nn i).1++le4 (blkP k nn i).2)
theorem strN_len (k:List UInt8) (nn:Int):∀i,(strN k nn i).length=8*i
 | 0=>rfl
 | i+1=>by
  show (strN k nn i++(le4 _++le4 _)).length=_
  rw [List.length_append,strN_len k nn i]
  show 8*i+8=_
  omega
def streamV (k:List UInt8) (nn:Int) (n:Nat):List UInt8:=(strN k nn ((n+7) / 8)).take n
theorem streamV_len (k:List UInt8) (nn:Int) (n:Nat):(streamV k nn n).length=n:=by
 unfold streamV
 rw [List.length_take,strN_len];omega
theorem le4_cells (w:Int):[PV.int .u8 (IntKind.u8.wrap w),.int .u8 (IntKind.u8.wrap (ishr .u32 w 8)),.int .u8 (IntKind.u8.wrap (ishr .u32 w 16)),.int .u8 (IntKind.u8.wrap (ishr .u32 w 24))]=(le4 w).map byteC:=by
 rw [byteC_I,byteC_I,byteC_I,byteC_I];rfl
theorem ow_app' (a b:List UInt8) {n:Nat} (hn:n=b.length):PV.slice (a.length+n) (a.map byteC++b.map byteC) (some 5)=ow (a++b):=by subst hn;exact ow_app a b
structure StS where
 i:Nat
 o:PObj
theorem wrap32 {n:Nat} (h:n<4294967296):IntKind.u32.wrap (n:Int)=(n:Int):=by
 show (n:Int) % _=_
 have:(2 ^ IntKind.u32.bits:Int)=4294967296:=by decide
 rw [this];omega
theorem c225 (hw:WordsOk) (k:List UInt8) (hk:k.length=16) (kid:Nat) (nn:Int) (n:Nat) (hn:n≤1000000) (so:PObj) (hso:KeySt k so) (H:PH) (hid:H[kid]? = some so) :
  CallOk prog 225 [.ptr (some (kid,0)),.int .u64 nn,.int .i64 n] H fun r H'=>r=sl (streamV k nn n)∧∃o',KeySt k o'∧H'=H.set kid o':=by
 have hlt:kid<H.length:=(List.getElem?_eq_some_iff.1 hid).1
 rcases Nat.eq_zero_or_pos n with h0 | h0
 ·subst h0
  exact (c225z kid nn 0 (by decide) H).mono fun r H' hh=>⟨hh.1,so,hso,by rw [hh.2];exact (set_self hid).symm⟩
 (refine fnS (imm:=imm225) ttS_ok func225 ?_;(conv=>whnf))
 refine ⟨fun h=>absurd h (by omega),fun _=>?_⟩
 conv=>whnf
 have hw8:IntKind.i64.wrap ((n:Int)+8)=(n:Int)+8:=wrap64 (by omega) (by omega)
 refine ⟨⟨by decide,by rw [hw8];omega,by rw [hw8];show ((n:Int)+8)*((1:Nat):Int)≤_;omega⟩,?_⟩
 conv=>whnf
 refine loopK_of StS (fun x=>[(0,.ptr (some (kid,0))),(1,.int .u64 nn),(2,.int .i64 n),(7,ow (strN k nn x.i)),(8,.int .u32 x.i)]) (fun x=>H.set kid x.o) (fun x=>x.i≤(n+7) / 8∧KeySt k x.o) (fun x=>(n+7) / 8 - x.i) ⟨⟨0,so⟩,⟨Nat.zero_le _,hso⟩,⟨rfl,rfl,rfl,rfl,rfl,trivial⟩,(set_self hid).symm⟩ ?_
 rintro ⟨i,o⟩ ⟨hi,ho⟩
 replace hi:i≤(n+7) / 8:=hi
 replace ho:KeySt k o:=ho
 have hsl:=strN_len k nn i
 conv=>whnf
 refine ⟨fun h=>?_,fun h=>?_⟩
 ·have h:((strN k nn i).length:Int)<n:=h
  rw [hsl] at h
  conv=>whnf
  refine ⟨by decide,?_⟩
  conv=>whnf
  have hst:(∃v,(H.set kid o)[kid]? = some (keyO k 0 0 0 (List.replicate 27 0) 0 v))∨(∃v,(H.set kid o)[kid]? = some (keyO k 1 0 0 (spW k) 1 v)):=by
   rw [List.getElem?_set_self hlt]
   rcases ho with ⟨v,rfl⟩ | ⟨v,rfl⟩
   ·exact .inl ⟨v,rfl⟩
   ·exact .inr ⟨v,rfl⟩
  refine callK_of (Q:=fun r H'=>r=.tup [.int .u32 (blkP k nn i).1,.int .u32 (blkP k nn i).2]∧∃v',H'=H.set kid (keyO k 1 0 0 (spW k) 1 v')) ((c257 hw k hk kid (H.set kid o) hst _ _).mono fun r H' hh=>?_) ?_
  ·obtain ⟨h1,v',h2⟩:=hh
   exact ⟨h1,v',by rw [h2,List.set_set]⟩
  rintro _ _ ⟨rfl,v',rfl⟩
  conv=>whnf
  generalize hx:(blkP k nn i).1=x
  generalize hy:(blkP k nn i).2=y
  refine loopK_of Nat (fun j=>[(0,.ptr (some (kid,0))),(1,.int .u64 nn),(2,.int .i64 n),(7,ow (strN k nn i++(le4 x++le4 y).take (4*j))),(8,.int .u32 i),(42,.slice 2 [.int .u32 x,.int .u32 y] (some 226)),(43,.int .i64 2),(44,.int .i64 j)]) (fun _=>H.set kid (keyO k 1 0 0 (spW k) 1 v')) (fun j=>j≤2) (fun j=>2 - j) ⟨0,Nat.zero_le _,⟨rfl,rfl,rfl,?_,rfl,rfl,rfl,rfl,trivial⟩,rfl⟩ ?_
  ·show ow (strN k nn i)=ow (strN k nn i++[])
   rw [List.append_nil]
  intro j hj
  have happ:∀(a b:List UInt8),b.length=4→a.length≤2000000→(a.length+4)*1≤140737488355328∧(b.map byteC).length=4*1∧(b.map byteC).all oneP=true:=fun a b hb ha=>⟨by omega,by simp [hb],allOne b⟩
  match j,hj with
  | 0,_ =>
   conv=>whnf
   refine ⟨fun _=>?_,fun h=>absurd (show ((0:Nat):Int)<2 by decide) h⟩
   conv=>whnf
   refine ⟨⟨by decide,by decide⟩,[.int .u32 x],at1' (k:=0) rfl,?_⟩
   conv=>whnf
   refine ⟨by decide,?_⟩
   conv=>whnf
   refine ⟨by decide,?_⟩
   conv=>whnf
   refine ⟨by decide,?_⟩
   conv=>whnf
   refine ⟨⟨by show ((strN k nn i++(le4 x++le4 y).take (4*0)).length+4)*1≤_;rw [List.length_append,hsl];simp;omega,rfl,rfl⟩,?_⟩
   conv=>whnf
   refine ⟨1,by decide,⟨rfl,rfl,rfl,?_,rfl,rfl,rfl,rfl,trivial⟩,rfl,by decide⟩
   show PV.slice ((strN k nn i++(le4 x++le4 y).take (4*0)).length+4) ((strN k nn i++(le4 x++le4 y).take (4*0)).map byteC++[PV.int .u8 (IntKind.u8.wrap x),.int .u8 (IntKind.u8.wrap (ishr .u32 x 8)),.int .u8 (IntKind.u8.wrap (ishr .u32 x 16)),.int .u8 (IntKind.u8.wrap (ishr .u32 x 24))]) (some 5)=ow (strN k nn i++(le4 x++le4 y).take (4*1))
   rw [le4_cells,ow_app' _ (le4 x) (n:=4) rfl,List.append_assoc]
   rfl
  | 1,_ =>
   conv=>whnf
   refine ⟨fun _=>?_,fun h=>absurd (show ((1:Nat):Int)<2 by decide) h⟩
   conv=>whnf
   refine ⟨⟨by decide,by decide⟩,[.int .u32 y],at1' (k:=1) rfl,?_⟩
   conv=>whnf
   refine ⟨by decide,?_⟩
   conv=>whnf
   refine ⟨by decide,?_⟩
   conv=>whnf
   refine ⟨by decide,?_⟩
   conv=>whnf
   refine ⟨⟨by show ((strN k nn i++(le4 x++le4 y).take (4*1)).length+4)*1≤_;rw [List.length_append,hsl];simp;omega,rfl,rfl⟩,?_⟩
   conv=>whnf
   refine ⟨2,by decide,⟨rfl,rfl,rfl,?_,rfl,rfl,rfl,rfl,trivial⟩,rfl,by decide⟩
   show PV.slice ((strN k nn i++(le4 x++le4 y).take (4*1)).length+4) ((strN k nn i++(le4 x++le4 y).take (4*1)).map byteC++[PV.int .u8 (IntKind.u8.wrap y),.int .u8 (IntKind.u8.wrap (ishr .u32 y 8)),.int .u8 (IntKind.u8.wrap (ishr .u32 y 16)),.int .u8 (IntKind.u8.wrap (ishr .u32 y 24))]) (some 5)=ow (strN k nn i++(le4 x++le4 y).take (4*2))
   rw [le4_cells,ow_app' _ (le4 y) (n:=4) rfl,List.append_assoc]
   rfl
  | 2,_ =>
   conv=>whnf
   refine ⟨fun h=>absurd h (by decide),fun _=>?_⟩
   conv=>whnf
   refine ⟨⟨i+1,keyO k 1 0 0 (spW k) 1 v'⟩,⟨by show i+1≤(n+7) / 8;omega,.inr ⟨v',rfl⟩⟩,⟨rfl,rfl,rfl,?_,?_,trivial⟩,rfl,by show (n+7) / 8 - (i+1)<(n+7) / 8 - i;omega⟩
   ·subst hx hy
    rfl
   ·show PV.int _ (IntKind.u32.wrap ((i:Int)+1))=PV.int _ ((i+1:Nat):Int)
    rw [←wrap32 (n:=i+1) (by omega)];rfl
 ·have h:¬((strN k nn i).length:Int)<n:=h
  rw [hsl] at h
  have e:i=(n+7) / 8:=by omega
  conv=>whnf
  refine ⟨⟨by decide,by omega,by show (n:Int)≤((strN k nn i).length:Int);omega⟩,?_⟩
  conv=>whnf
  refine ⟨?_,o,ho,rfl⟩
  refine (sl_cut2 (strN k nn i) 0 n ⟨by omega,by omega,by omega⟩).trans ?_
  rw [Int.toNat_natCast,e]
  rfl
set_option maxHeartbeats 1600000
open Go
theorem mDisable (w:World):(callFunc 322 #[]).run prog w=.ok (.value (.tuple #[])) w:=run_call_mark0 func322 (by kernel_rfl) (by kernel_rfl) (by kernel_rfl) .disable (by kernel_rfl) w
theorem mEnable (w:World):(callFunc 324 #[]).run prog w=.ok (.value (.tuple #[])) w:=run_call_mark0 func324 (by kernel_rfl) (by kernel_rfl) (by kernel_rfl) .enable (by kernel_rfl) w
theorem mAcquire (a:Addr) (w:World):(callFunc 325 #[.pointer (some a)]).run prog w=.ok (.value (.tuple #[])) w:=run_call_marked func325 (by kernel_rfl) (by kernel_rfl) (by kernel_rfl) .acquire (by kernel_rfl) a w
theorem mRelease (a:Addr) (w:World):(callFunc 327 #[.pointer (some a)]).run prog w=.ok (.value (.tuple #[])) w:=run_call_marked func327 (by kernel_rfl) (by kernel_rfl) (by kernel_rfl) .releaseMerge (by kernel_rfl) a w
theorem lock_free (a:Addr) (w:World) (hc:w.cell? a=some (.int .i32 0)) (hz:w.frozen? a=false) :
  Calls prog 314 #[.pointer (some a)] w fun e w'=>e=.returned (.tuple #[])∧w'=w.setCell a (.int .i32 1):=by
 have hd:=mDisable
 have he:=mEnable
 have ha:=mAcquire
 have hcas:=run_call_cas_hit (P:=prog) func323 (by kernel_rfl) (by kernel_rfl) (by kernel_rfl) .i32 (by kernel_rfl) (y:=1) hc hz
 have hc':(w.setCell a (.int .i32 1)).cell? a=some (.int .i32 1):=World.cell?_setCell_same w a _ hc
 have hcv:=run_convert_to_unsafe (P:=prog) (src:=404) (dst:=388) underlying404 underlying388 (by kernel_rfl) hc'
 go_enter func314,ntmps314
 go_wp2
 first | go_end0 | (simp only [Exit.inBlock,Exit.then];refine bodyPost_ret (results_none rfl _ _ _) rfl ?_) | refine bodyPost_ret (results_none rfl _ _ _) rfl ?_
 go_wp2
 go_end0
 exact ⟨rfl,rfl⟩
theorem unlock_deferred (a:Addr) (u:FrameMode) (w:World) (hc:w.cell? a=some (.int .i32 1)) (hz:w.frozen? a=false) :
  CallsD prog 315 #[.pointer (some a)] u w fun e u' w'=>u'=u∧(e=.returned (.tuple #[])∧w'=w.setCell a (.int .i32 0)):=by
 have hd:=mDisable
 have he:=mEnable
 have hr:=mRelease
 have hadd:=run_call_add (P:=prog) func328 (by kernel_rfl) (by kernel_rfl) (by kernel_rfl) .i32 (by kernel_rfl) (y:=-1) (s:=0) hc hz (by simp [go_sem];rfl)
 have hcv:=run_convert_to_unsafe (P:=prog) (src:=404) (dst:=388) underlying404 underlying388 (by kernel_rfl) hc
 go_enter_d func315,ntmps315
 go_wp2
 go_end0
 go_wp2
 go_end0
 exact ⟨rfl,rfl⟩
end Go.Proofs.Tryz
/- Calls that were deferred; and a walk of the kit's over what the calculus knows. -/
namespace Ps
open Go
def CallDOk (P:Program) (f:Nat) (args:List PV) (H:PH) (Q:PV→PH→Prop):Prop :=
 ∀(g:Gh) (w:World) (vs:Array Value) (u:FrameMode),vs.size=args.length→Rel P g w (valOf vs) (args0 0 args) H →
  (callFunc f vs).run P w=.ok (.enter f vs) w∧CallsD P f vs u w fun e u' w'=>u'=u∧∃v r H' g',e=.returned v∧Q r H'∧Rel P g' w' (one v) [(0,r)] H'∧Step g w H (cellOwn g w H) g' w' H' ∧
   (∀i b,ownAt v r i b→w.heap.size≤b∨cellOwn g w H b)∧∀b,cellOwn g' w' H' b→w.heap.size≤b∨cellOwn g w H b
section
variable {P : Program} {tt : TT} {imm : List Nat}
theorem callDOk_of_pFun {f:Nat} {fn:Func} {args:List PV} {H:PH} {Q:PV→PH→Prop} (hm:P.follows .mixedOrders=true) (hT:ttOk P tt=true) (hd:6≤P.depth) (hf:P.funcs[f]? = some fn)
  (hname : (fn.name == "runtime.NumGoroutine") = false) (hp : pFun P tt imm fn args H Q) : CallDOk P f args H Q := by
 intro g w vs u hs hr
 unfold pFun at hp
 split at hp
 ·rename_i c hc
  split at hp
  ·rename_i hle
   have hle:args.length≤fn.ntmps:=Nat.le_of_ble_eq_true hle
   refine ⟨run_callFunc_body hf hname (by rw [hc];rfl),callsD_of_wp hf hc ?_⟩
   have hval:∀t,vals { tmps:=vs++Array.replicate (fn.ntmps - vs.size) undef,defers:=[] } t=valOf vs t:=fun t=>by
    simp only [vals,valOf,Array.getD_eq_getD_getElem?]
    rcases Nat.lt_or_ge t vs.size with h | h
    ·rw [Array.getElem?_append_left h]
    ·rw [Array.getElem?_append_right h,Array.getElem?_eq_none h,Array.getElem?_replicate]
     split <;> rfl
   have hV:∀t,V g w (valOf vs t) (Env.get (args0 0 (args.map dem)) t):=fun t=>by
    have:=(hr.e t).dem
    rw [args0_get] at this ⊢
    simp only [Nat.zero_le,if_true,Nat.sub_zero,List.getD_eq_getElem?_getD,List.getElem?_map] at this ⊢
    cases h:args[t]? with
    | none=>exact .undef _
    | some p=>rw [h] at this;exact this
   have hinv:Inv P g w H (cellOwn g w H) fn.ntmps g w { tmps:=vs++Array.replicate (fn.ntmps - vs.size) undef,defers:=[] } (args0 0 (args.map dem)) H:=by
    have hrel:Rel P g w (valOf vs) (args0 0 (args.map dem)) H:=⟨hr.h,fun t=>(hV t).vc,fun t i t' i' b h=>absurd h (no_own (hV t) i b),fun t i b h=>absurd h (no_own (hV t) i b),hr.cc⟩
    refine ⟨?_,by simp;omega,rfl,⟨Same.refl _ _ _,rfl,rfl,rfl,Nat.le_refl _,Keeps.refl _ _,fun _ _ h=>.inl h,fun b _ _ _=>⟨rfl,fun o h=>h⟩,fun _ h=>h⟩,fun t i b h=>?_,fun b h=>.inr h⟩
    ·rw [show vals { tmps:=vs++Array.replicate (fn.ntmps - vs.size) undef,defers:=[] }=valOf vs from funext hval];exact hrel
    ·rw [hval] at h;exact absurd h (no_own (hV t) i b)
   refine pCode_sound hm hT hd c _ _ (fun e g' w' a E H' inv hk=>?_) _ _ _ _ _ hinv hp
   have fin:∀(hk:pRes tt H' fn.results.toList E fun vs=>Q (tupOf vs) H'),a.defers=[]∧∃v,(results fn a.tmps).run P w'=.ok v w' ∧
     ∃v' r H2 g2,Ending.returned v=.returned v'∧Q r H2∧Rel P g2 w' (one v') [(0,r)] H2∧Step g w H (cellOwn g w H) g2 w' H2∧(∀i b,ownAt v' r i b→w.heap.size≤b∨cellOwn g w H b) ∧
      ∀b,cellOwn g2 w' H2 b→w.heap.size≤b∨cellOwn g w H b:=fun hk=>by
    obtain ⟨us,ps,h1,h2,h3,h4,h5,h6⟩:=pRes_sound hT fn.results.toList E _ inv hk
    obtain ⟨j1,j2⟩:=res_VC h3 h4
    refine ⟨inv.defers,valRes us,results_eq fn a h1,_,tupOf ps,H',g',rfl,h2,⟨inv.rel.h,fun t=>?_,fun t i t' i' b ho ho'=>?_,fun t i b ho=>?_,inv.rel.cc⟩,inv.step,fun i b ho=>?_,inv.cown⟩
    ·rw [Env.get_cons]
     unfold one
     by_cases e:t=0
     ·rw [if_pos e,if_pos e.symm];exact j1
     ·rw [if_neg e,if_neg (Ne.symm e)];exact (V.undef _).vc
    ·rw [Env.get_cons] at ho ho'
     unfold one at ho ho'
     by_cases e:t=0
     ·by_cases e':t'=0
      ·rw [if_pos e,if_pos e.symm] at ho
       rw [if_pos e',if_pos e'.symm] at ho'
       obtain ⟨c,u,y1,y2,y3,y4⟩:=j2 i b ho
       obtain ⟨c',u',z1,z2,z3,z4⟩:=j2 i' b ho'
       exact ⟨e.trans e'.symm,h6 i i' c c' u u' b y1 y2 y3 y4 z1 z2 z3 z4⟩
      ·rw [if_neg (Ne.symm e')] at ho';cases ho'.2.1
     ·rw [if_neg (Ne.symm e)] at ho;cases ho.2.1
    ·rw [Env.get_cons] at ho
     unfold one at ho
     by_cases e:t=0
     ·rw [if_pos e,if_pos e.symm] at ho
      obtain ⟨c,u,y1,y2,y3,y4⟩:=j2 i b ho
      obtain ⟨t',ht'⟩:=h5 i c u b y1 y2 y3 y4
      exact inv.rel.sc t' 0 b ht'
     ·rw [if_neg (Ne.symm e)] at ho;cases ho.2.1
    ·obtain ⟨c,u,y1,y2,y3,y4⟩:=j2 i b ho
     obtain ⟨t',ht'⟩:=h5 i c u b y1 y2 y3 y4
     exact inv.own t' 0 b ht'
   cases e with
   | normal=>exact fin hk
   | ret=>exact fin hk
   | exit i=>exact hk.elim
  ·exact hp.elim
 ·exact hp.elim
end
theorem callDOk_of_pFun2 {P:Program} {tt:TT} {imm:List Nat} (hm:P.follows .mixedOrders=true) (hT:ttOk P tt=true) (hd:6≤P.depth) {f:Nat} {fn:Func} (hf:P.funcs[f]? = some fn)
  (hn : (fn.name == "runtime.NumGoroutine") = false) {args : List PV} {H : PH} {Q : PV → PH → Prop} (h : pFun2 P tt imm fn args H Q) : CallDOk P f args H Q :=
 callDOk_of_pFun hm hT hd hf hn (by rw [←pFunX.2];exact h)
section
variable {P : Program}
def St (P:Program) (g0:Gh) (w0:World) (H0:PH) (g:Gh) (w:World) (H:PH):Prop:=Inv P g0 w0 H0 (cellOwn g0 w0 H0) 0 g w { tmps:=#[],defers:=[] } [] H
theorem St.start {g:Gh} {w:World} {H:PH} {val:Nat→Value} {E:Env} (hr:Rel P g w val E H):St P g w H g w H :=
 ⟨⟨hr.h,fun t=>(V.undef _).vc,fun t i t' i' b h=>(by cases h.2.1),fun t i b h=>(by cases h.2.1),hr.cc⟩,rfl,rfl,
  ⟨Same.refl _ _ _,rfl,rfl,rfl,Nat.le_refl _,Keeps.refl _ _,fun _ _ h=>.inl h,fun b _ _ _=>⟨rfl,fun o h=>h⟩,fun _ h=>h⟩,fun t i b h=>(by cases h.2.1),fun b h=>.inr h⟩
theorem St.call {g0 g : Gh} {w0 w : World} {H0 H : PH} (h : St P g0 w0 H0 g w H) {f : Nat} {fn : Func} (hf : P.funcs[f]? = some fn) (hname : (fn.name == "runtime.NumGoroutine") = false) (hb : fn.body.isNone = false)
  {args:List PV} {Q:PV→PH→Prop} (hc:CallOk P f args H Q) {vs:Array Value} (hs:vs.size=args.length) (hv:∀(j:Nat) (c:PV),args[j]? = some c→V g w (vs.getD j undef) c) :
  Calls P f vs w fun e w'=>∃v r H' g',e=.returned v∧Q r H'∧St P g0 w0 H0 g' w' H'∧Keeps g w g' w'∧VC P g' w' v r:=by
 rcases hc g w vs hs (Rel.args h.rel.h h.rel.cc hs hv) with ⟨_,h2⟩ | ⟨v,w',h1,_⟩
 ·refine h2.mono ?_
  rintro e w' ⟨v,r,H',g',rfl,q,hr,hst,ho,hcc⟩
  obtain ⟨i1,i2,_⟩:=Inv.call h hr hst ho hcc
  exact ⟨v,r,H',g',rfl,q,i1,hst.keeps,i2⟩
 ·rw [run_callFunc_body hf hname hb] at h1
  cases h1
theorem St.callD {g0 g:Gh} {w0 w:World} {H0 H:PH} (h:St P g0 w0 H0 g w H) {f:Nat}
  {args:List PV} {Q:PV→PH→Prop} (hc:CallDOk P f args H Q) {vs:Array Value} (u:FrameMode) (hs:vs.size=args.length) (hv:∀(j:Nat) (c:PV),args[j]? = some c→V g w (vs.getD j undef) c) :
  (callFunc f vs).run P w=.ok (.enter f vs) w∧CallsD P f vs u w fun e u' w'=>u'=u∧∃v r H' g',e=.returned v∧Q r H'∧St P g0 w0 H0 g' w' H'∧Keeps g w g' w':=by
 obtain ⟨h1,h2⟩:=hc g w vs u hs (Rel.args h.rel.h h.rel.cc hs hv)
 refine ⟨h1,h2.mono ?_⟩
 rintro e u' w' ⟨hu,v,r,H',g',rfl,q,hr,hst,ho,hcc⟩
 exact ⟨hu,v,r,H',g',rfl,q,(Inv.call h hr hst ho hcc).1,hst.keeps⟩
theorem St.fin {g0 g:Gh} {w0 w:World} {H0 H:PH} (h:St P g0 w0 H0 g w H):Rel P g w (one (.tuple #[])) [(0,.tup [])] H∧Step g0 w0 H0 (cellOwn g0 w0 H0) g w H ∧
  (∀i b,ownAt (.tuple #[]) (.tup []) i b→w0.heap.size≤b∨cellOwn g0 w0 H0 b)∧∀b,cellOwn g w H b→w0.heap.size≤b∨cellOwn g0 w0 H0 b:=by
 refine ⟨⟨h.rel.h,fun t=>?_,fun t i t' i' b k=>?_,fun t i b k=>?_,h.rel.cc⟩,h.step,fun i b k=>absurd k (unit_own i b),h.cown⟩
 ·rw [Env.get_cons]
  unfold one
  by_cases e:t=0
  ·rw [if_pos e,if_pos e.symm];exact unit_vc
  ·rw [if_neg e,if_neg (Ne.symm e)];exact (V.undef _).vc
 ·rw [Env.get_cons] at k
  unfold one at k
  by_cases e:t=0
  ·rw [if_pos e,if_pos e.symm] at k;exact absurd k (unit_own i b)
  ·rw [if_neg (Ne.symm e)] at k;cases k.2.1
 ·rw [Env.get_cons] at k
  unfold one at k
  by_cases e:t=0
  ·rw [if_pos e,if_pos e.symm] at k;exact absurd k (unit_own i b)
  ·rw [if_neg (Ne.symm e)] at k;cases k.2.1
end
end Ps
set_option maxHeartbeats 3000000
namespace Go.Proofs.Tryz
open Go Ps
theorem c207D {H:PH} {id off:Nat} {o:PObj} {n:Int} (ho:H[id]? = some o) (hc:o.cs[off]? = some (.int .u32 n)) :
  CallDOk prog 310 [.ptr (some (id,off)),.bool true] H fun r H'=>r=.tup []∧H'=H.set id ⟨o.T,setCells off [.int .u32 1] o.cs,o.ver+1⟩:=by
 refine callDOk_of_pFun2 (tt:=ttO) (imm:=imm310) follows ttO_ok depth6 func310 (by kernel_rfl) ?_
 conv=>whnf
 refine drawK_of2 D310 [H,H.set id ⟨o.T,setCells off [.int .u32 1] o.cs,o.ver+1⟩] (by kernel_rfl) rfl trivial ?_
 conv=>whnf
 iterate 4 (refine dS ?_;(conv=>whnf))
 refine ⟨_,callK_pure c317 ⟨rfl,rfl,trivial⟩,?_⟩
 conv=>whnf
 refine ⟨_,callK_of (c316 1 ho hc) (by rintro _ _ ⟨rfl,rfl⟩;exact ⟨rfl,rfl,trivial⟩),?_⟩
 conv=>whnf
 exact ⟨rfl,rfl⟩
theorem keyO_at (k:List UInt8) (hk:k.length=16) (d m s:Int) (l:List Int) (md:Int) (v:Nat):(keyO k d m s l md v).cs[16]? = some (.int .u32 d)∧(keyO k d m s l md v).cs[17]? = some (.int .i32 m):=by
 obtain ⟨k0,k1,k2,k3,k4,k5,k6,k7,k8,k9,ka,kb,kc,kd,ke,kf,rfl⟩:=len16 hk
 exact ⟨rfl,rfl⟩
theorem keyO_set16 (k:List UInt8) (hk:k.length=16) (d m s:Int) (l:List Int) (md:Int) (v:Nat) (x:Int):setCells 16 [.int .u32 x] (keyO k d m s l md v).cs=(keyO k x m s l md v).cs:=by
 obtain ⟨k0,k1,k2,k3,k4,k5,k6,k7,k8,k9,ka,kb,kc,kd,ke,kf,rfl⟩:=len16 hk
 rfl
theorem keyO_set17 (k:List UInt8) (hk:k.length=16) (d m s:Int) (l:List Int) (md:Int) (v:Nat) (x:Int):setCells 17 [.int .i32 x] (keyO k d m s l md v).cs=(keyO k d x s l md v).cs:=by
 obtain ⟨k0,k1,k2,k3,k4,k5,k6,k7,k8,k9,ka,kb,kc,kd,ke,kf,rfl⟩:=len16 hk
 rfl
theorem load_none (a:Addr) (w:World) (hc:w.cell? a=some (.int .u32 0)) :
  Calls prog 308 #[.pointer (some a)] w fun e w'=>e=.returned (.bool false)∧w'=w:=by
 have hl:=run_call_load (P:=prog) func313 (by kernel_rfl) (by kernel_rfl) (by kernel_rfl) .u32 (by kernel_rfl) (w:=w) (a:=a) (x:=0) hc
 go_enter func308,ntmps308
 go_wp2
 exact ⟨rfl,.bool false,by simp [results,f205,go_sem,Act.eval],rfl,rfl⟩
theorem c309 (k:List UInt8) (hk:k.length=16) (kid v:Nat) (H:PH) (hid:H[kid]? = some (keyO k 0 0 0 (List.replicate 27 0) 0 v)) :
  CallOk prog 309 [.ptr (some (kid,16)),.func 298 [.ptr (some (kid,0))] []] H fun r H'=>r=.tup []∧∃v',H'=H.set kid (keyO k 1 0 0 (spW k) 1 v'):=by
 intro g w vs hs hr
 obtain ⟨a,y,rfl,ha,hy⟩:=args2 hs hr.e
 obtain ⟨b,rfl,hι⟩:=(plain_of ha (by simp) (by simp)).inv_ptr
 obtain ⟨first,caps,rfl,e2,e3,e4,e5⟩:=(plain_of hy (by simp) (by simp)).inv_func
 have st0:=St.start hr
 obtain ⟨b1,q1,hd1,fd1,_⟩:=cell_at hr.h ha hid (keyO_at k hk 0 0 0 _ 0 v).1
 cases q1
 obtain ⟨b2,q2,hm1,fm1,hset1⟩:=cell_at hr.h ((V.ptr kid b 17 hι).vc) hid (keyO_at k hk 0 0 0 _ 0 v).2
 cases q2
 have st1:St prog g w H g (w.setCell ⟨b,17,none⟩ (.int .i32 1)) _:=hset1 1 _ _ _ st0
 rw [keyO_set17 k hk] at st1
 obtain ⟨p,rfl⟩:∃p,first=#[p]:=by
  match first,e2 with
  | ⟨[p]⟩,_=>exact ⟨p,rfl⟩
 obtain rfl:caps=#[]:=Array.eq_empty_of_size_eq_zero e3
 have hp:V g w p (.ptr (some (kid,0))):=e4 0 _ rfl
 obtain ⟨b3,rfl,hι3⟩:=hp.inv_ptr
 rw [hι] at hι3
 cases hι3
 refine .inl ⟨run_callFunc_body func309 (by kernel_rfl) (by kernel_rfl),?_⟩
 have hd1':(w.setCell ⟨b,17,none⟩ (.int .i32 1)).cell? ⟨b,16,none⟩=some (.int .u32 0):=(World.cell?_setCell_other _ ⟨b,17,none⟩ ⟨b,16,none⟩ _ (by simp)).trans hd1
 have hid1:(H.set kid ⟨(keyO k 0 0 0 (List.replicate 27 0) 0 v).T,(keyO k 0 1 0 (List.replicate 27 0) 0 v).cs,(keyO k 0 0 0 (List.replicate 27 0) 0 v).ver+1⟩)[kid]? = some (keyO k 0 1 0 (List.replicate 27 0) 0 (v+1)):=get_set hid
 have hmake:=St.call st1 func298 (by kernel_rfl) (by kernel_rfl) (c298 k hk 0 1 0 0 (List.replicate 27 0) rfl (v+1) kid _ hid1) (vs:=#[.pointer (some ⟨b,0,none⟩)]) rfl (fun j c hj=>by
  match j,hj with
  | 0,hj=>cases hj;exact .ptr kid b 0 hι
  | j+1,hj=>simp at hj)
 have hnot:∀(x:Bool) (w:World),(Op.unary .not (.bool x)).run prog w=.ok (.bool (!x)) w:=fun _ _=>rfl
 go_enter_defers func309,ntmps309
 go_wp2_with (go_at_call 314;refine (lock_free ⟨b,17,none⟩ _ hm1 fm1).mono ?_;rintro e w' ⟨rfl,rfl⟩)
 refine (load_none ⟨b,16,none⟩ _ hd1').mono ?_
 rintro e w' ⟨rfl,rfl⟩
 go_wp2_with (go_at_call 298;refine hmake.mono ?_;rintro e w' ⟨v',r,H2,g2,rfl,⟨rfl,v2,rfl⟩,st2,kp,hv2⟩)
 have hidk:((H.set kid ⟨(keyO k 0 0 0 (List.replicate 27 0) 0 v).T,(keyO k 0 1 0 (List.replicate 27 0) 0 v).cs,(keyO k 0 0 0 (List.replicate 27 0) 0 v).ver+1⟩).set kid (keyO k 0 1 0 (spW k) 1 v2))[kid]? = some (keyO k 0 1 0 (spW k) 1 v2):=get_set hid1
 have hι2:g2.ι[kid]? = some (some b):=kp.ι kid b hι
 obtain ⟨hinv,hstore⟩:=St.callD st2 (c207D hidk (keyO_at k hk 0 1 0 (spW k) 1 v2).1) (vs:=#[.pointer (some ⟨b,16,none⟩),.bool true]) .returning rfl (fun j c hj=>by
  match j,hj with
  | 0,hj=>cases hj;exact .ptr kid b 16 hι2
  | 1,hj=>cases hj;exact .bool true
  | j+2,hj=>simp at hj)
 show Leaves prog f309 _ _ _ .returning w'
 refine leaves_cons (f:=310) (args:=#[.pointer (some ⟨b,16,none⟩),.bool true]) (by simp) (by simp [invoke,hinv]) ?_
 refine hstore.mono ?_
 rintro e u' w3 ⟨rfl,v3,r3,H3,g3,rfl,⟨rfl,rfl⟩,st3,kp3⟩
 rw [keyO_set16 k hk] at st3
 have hid3:=get_set (o':=⟨(keyO k 0 1 0 (spW k) 1 v2).T,(keyO k 1 1 0 (spW k) 1 v2).cs,(keyO k 0 1 0 (spW k) 1 v2).ver+1⟩) hidk
 have hι3:g3.ι[kid]? = some (some b):=kp3.ι kid b hι2
 obtain ⟨b5,q5,hm3,fm3,hset3⟩:=cell_at st3.rel.h ((V.ptr kid b 17 hι3).vc) hid3 (keyO_at k hk 1 1 0 (spW k) 1 v2).2
 cases q5
 have st4:St prog g w H g3 (w3.setCell ⟨b,17,none⟩ (.int .i32 0)) _:=hset3 0 _ _ _ st3
 rw [show setCells 17 [PV.int .i32 0] (PObj.mk (keyO k 0 1 0 (spW k) 1 v2).T (keyO k 1 1 0 (spW k) 1 v2).cs ((keyO k 0 1 0 (spW k) 1 v2).ver+1)).cs=(keyO k 1 0 0 (spW k) 1 v2).cs from keyO_set17 k hk 1 1 0 (spW k) 1 v2 0] at st4
 refine leaves_cons (f:=315) (args:=#[.pointer (some ⟨b,17,none⟩)]) (by simp [settle]) (by
  have:=run_callFunc_body (P:=prog) (vs:=#[.pointer (some ⟨b,17,none⟩)]) (w:=w3) func315 (by kernel_rfl) (by kernel_rfl)
  simp [invoke,this]) ?_
 refine (unlock_deferred ⟨b,17,none⟩ _ _ hm3 fm3).mono ?_
 rintro e u' w4 ⟨rfl,rfl,rfl⟩
 obtain ⟨f1,f2,f3,f4⟩:=st4.fin
 refine ⟨.tuple #[],results_none rfl _ _ _,.tuple #[],.tup [],_,g3,rfl,⟨rfl,v2+1+1,?_⟩,f1,f2,f3,f4⟩
 rw [List.set_set,List.set_set,List.set_set]
 rfl
set_option maxHeartbeats 1000000
theorem c313 {H:PH} {id off:Nat} {o:PObj} {n:Int} (ho:H[id]? = some o) (hc:o.cs[off]? = some (.int .u32 n)) :
  CallOk prog 313 [.ptr (some (id,off))] H fun r H'=>r=.int .u32 n∧H'=H :=
 callOk_load func313 (by kernel_rfl) (by kernel_rfl) (by kernel_rfl) .u32 (by kernel_rfl) ho hc
theorem c308 {H:PH} {id off:Nat} {o:PObj} {n:Int} (ho:H[id]? = some o) (hc:o.cs[off]? = some (.int .u32 n)) :
  CallOk prog 308 [.ptr (some (id,off))] H fun r H'=>r=.bool (!decide (n=0))∧H'=H:=by
 (refine fnS (imm:=imm308) ttO_ok func308 ?_;(conv=>whnf))
 refine callK_of (c313 ho hc) ?_
 rintro _ _ ⟨rfl,rfl⟩
 conv=>whnf
 refine ⟨fun h=>?_,fun h=>?_⟩
 ·conv=>whnf
  have h:n=0:=h
  exact ⟨congrArg PV.bool (by rw [decide_eq_true h];rfl),rfl⟩
 ·conv=>whnf
  have h:¬n=0:=h
  exact ⟨congrArg PV.bool (by rw [decide_eq_false h];rfl),rfl⟩
theorem c297a (k:List UInt8) (hk:k.length=16) (kid v:Nat) (H:PH) (hid:H[kid]? = some (keyO k 0 0 0 (List.replicate 27 0) 0 v)) :
  CallOk prog 297 [.ptr (some (kid,16)),.func 298 [.ptr (some (kid,0))] []] H fun r H'=>r=.tup []∧∃v',H'=H.set kid (keyO k 1 0 0 (spW k) 1 v'):=by
 (refine fnS (imm:=imm297) ttO_ok func297 ?_;(conv=>whnf))
 refine callK_of (c308 hid (keyO_at k hk 0 0 0 _ 0 v).1) ?_
 rintro _ _ ⟨rfl,rfl⟩
 conv=>whnf
 refine callK_of (c309 k hk kid v _ hid) ?_
 rintro _ _ ⟨rfl,v',rfl⟩
 conv=>whnf
 exact ⟨rfl,v',rfl⟩
theorem c297b (k:List UInt8) (hk:k.length=16) (kid v:Nat) (H:PH) (hid:H[kid]? = some (keyO k 1 0 0 (spW k) 1 v)) :
  CallOk prog 297 [.ptr (some (kid,16)),.func 298 [.ptr (some (kid,0))] []] H fun r H'=>r=.tup []∧∃v',H'=H.set kid (keyO k 1 0 0 (spW k) 1 v'):=by
 (refine fnS (imm:=imm297) ttO_ok func297 ?_;(conv=>whnf))
 refine callK_of (c308 hid (keyO_at k hk 1 0 0 _ 1 v).1) ?_
 rintro _ _ ⟨rfl,rfl⟩
 conv=>whnf
 exact ⟨rfl,v,(set_self hid).symm⟩
theorem wordsOk:WordsOk:=by
 intro k hk kid H h0
 have hlt:kid<H.length:=by
  rcases h0 with ⟨v,h⟩ | ⟨v,h⟩ <;> exact (List.getElem?_eq_some_iff.1 h).1
 have hc:CallOk prog 297 [.ptr (some (kid,16)),.func 298 [.ptr (some (kid,0))] []] H fun r H'=>r=.tup []∧∃v',H'=H.set kid (keyO k 1 0 0 (spW k) 1 v'):=by
  rcases h0 with ⟨v,h⟩ | ⟨v,h⟩
  ·exact c297a k hk kid v H h
  ·exact c297b k hk kid v H h
 (refine fnS (imm:=imm282) ttO_ok func282 ?_;(conv=>whnf))
 refine callK_of hc ?_
 rintro _ _ ⟨rfl,v',rfl⟩
 conv=>whnf
 refine ⟨by decide,fun _=>?_,fun h=>absurd (show (0:Int)<((27:Nat):Int) by decide) h⟩
 conv=>whnf
 exact ⟨rfl,v',rfl⟩
set_option maxHeartbeats 2000000
def imm185:List Nat:=[]
theorem byte_int (a b:UInt8):((a.toNat:Int)=(b.toNat:Int))↔a=b:=by
 constructor
 ·intro h
  have:a.toNat=b.toNat:=by omega
  exact UInt8.toNat_inj.1 this
 ·rintro rfl;rfl
theorem c185 (a b:List UInt8) (ha:a.length≤1000000):Pure prog 185 [sl a,sl b] (.bool (decide (a=b))):=by
 intro H
 (refine fnS (imm:=imm185) ttS_ok func185 ?_;(conv=>whnf))
 refine ⟨fun h=>?_,fun h=>?_⟩
 rotate_left
 ·conv=>whnf
  have h:¬(a.length:Int)=b.length:=h
  exact ⟨congrArg PV.bool (decide_eq_false fun e=>h (by rw [e])).symm,rfl⟩
 have h:(a.length:Int)=b.length:=h
 have hl:a.length=b.length:=by omega
 conv=>whnf
 refine loopK_of Nat (fun i=>[(0,sl a),(1,sl b),(12,.int .i64 a.length),(13,.int .i64 i)]) (fun _=>H) (fun i=>i≤a.length∧a.take i=b.take i) (fun i=>a.length - i) ⟨0,⟨Nat.zero_le _,rfl⟩,⟨rfl,rfl,rfl,rfl,trivial⟩,rfl⟩ ?_
 rintro i ⟨hi,he⟩
 conv=>whnf
 refine ⟨fun h=>?_,fun h=>?_⟩
 ·have h:(i:Int)<a.length:=h
  have hia:i<a.length:=by omega
  have hib:i<b.length:=by omega
  conv=>whnf
  refine drawK_pure2 (by kernel_rfl) ?_
  conv=>whnf
  iterate 2 (refine dS ?_;(conv=>whnf))
  refine ⟨.elem [byteC a[i]],⟨⟨by omega,h⟩,[byteC a[i]],at1' (k:=(i:Int).toNat*1) (by rw [Int.toNat_natCast,Nat.mul_one,List.getElem?_map,List.getElem?_eq_getElem hia];rfl),rfl,rfl,trivial⟩,?_⟩
  conv=>whnf
  iterate 3 (refine dS ?_;(conv=>whnf))
  refine ⟨.elem [byteC b[i]],⟨⟨by omega,by omega⟩,[byteC b[i]],at1' (k:=(i:Int).toNat*1) (by rw [Int.toNat_natCast,Nat.mul_one,List.getElem?_map,List.getElem?_eq_getElem hib];rfl),rfl,rfl,trivial⟩,?_⟩
  conv=>whnf
  (refine dS ?_;(conv=>whnf))
  by_cases hq:a[i]=b[i]
  ·refine ⟨.bool false,?_,?_⟩
   ·conv=>whnf
    exact ⟨fun _=>⟨rfl,rfl,trivial⟩,fun h2=>absurd ((byte_int _ _).2 hq) h2⟩
   conv=>whnf
   refine ⟨i+1,⟨by omega,?_⟩,⟨rfl,rfl,rfl,?_,trivial⟩,rfl,by omega⟩
   ·rw [List.take_succ_eq_append_getElem hia,List.take_succ_eq_append_getElem hib,he,hq]
   ·show PV.int _ (IntKind.i64.wrap ((i:Int)+1))=PV.int _ _
    rw [wrap64 (by omega) (by omega)];simp
  ·refine ⟨.bool true,?_,?_⟩
   ·conv=>whnf
    exact ⟨fun h2=>absurd ((byte_int _ _).1 h2) hq,fun _=>⟨rfl,rfl,trivial⟩⟩
   conv=>whnf
   refine ⟨congrArg PV.bool (decide_eq_false fun e=>hq ?_).symm,rfl⟩
   subst e;rfl
 ·have h:¬(i:Int)<a.length:=h
  conv=>whnf
  refine ⟨congrArg PV.bool (decide_eq_true ?_).symm,rfl⟩
  rw [←List.take_of_length_le (l:=a) (i:=i) (by omega),he,List.take_of_length_le (by omega)]
def openB (sp:List UInt8) (u:Int) (b:List UInt8):Bool:=decide (16≤b.length)&&decide (b.length≤800)&&decide (beN (b.take 8)≤1099511627776)&&decide (tagV sp u (b.take (b.length - 8))=b.drop (b.length - 8))
theorem c123o (k:List UInt8) (hk:k.length=16) (so:PObj) (hso:KeySt k so) (sid:Nat) (u:Int) (hu:isUseB u=true) (b:List UInt8) (sp:List UInt8) (hsp:sp.length=16) (s o r:Int) (v bid:Nat) (H:PH)
  (hb:H[bid]? = some (boxS sid sp s o r v)) (hs:H[sid]? = some so) (hne:bid≠sid) (h16:16≤b.length) (h800:b.length≤800) :
  CallOk prog 123 [.ptr (some (bid,0)),.int .i64 u,sl b] H fun x H'=>match openB sp u b with
   | true=>x=.tup [sl (xorL ((b.take (b.length - 8)).drop 8) (streamV k (mixN (beN (b.take 8):Nat) u) (b.length - 16))),.int .i64 0]∧∃o',KeySt k o'∧H'=(H.set bid (boxS sid sp s (IntKind.i64.wrap (o+1)) r (v+1))).set sid o'
   | false=>x=.tup [ow [],.int .i64 3]∧H'=H.set bid (boxS sid sp s o (IntKind.i64.wrap (r+1)) (v+1)):=by
 have hc93r:CallOk prog 110 [.ptr (some (bid,0+19)),.int .i64 1] H fun x H'=>H'=H.set bid (boxS sid sp s o (IntKind.i64.wrap (r+1)) (v+1)):=by
  obtain ⟨k0,k1,k2,k3,k4,k5,k6,k7,k8,k9,ka,kb,kc,kd,ke,kf,rfl⟩:=len16 hsp
  exact (c110 (off:=19) (n:=r) 1 hb rfl).mono fun x H' hh=>hh.2
 have hc93o:CallOk prog 110 [.ptr (some (bid,0+18)),.int .i64 1] H fun x H'=>H'=H.set bid (boxS sid sp s (IntKind.i64.wrap (o+1)) r (v+1)):=by
  obtain ⟨k0,k1,k2,k3,k4,k5,k6,k7,k8,k9,ka,kb,kc,kd,ke,kf,rfl⟩:=len16 hsp
  exact (c110 (off:=18) (n:=o) 1 hb rfl).mono fun x H' hh=>hh.2
 have hw8:IntKind.i64.wrap ((b.length:Int) - 8)=((b.length - 8:Nat):Int):=by rw [wrap64 (by omega) (by omega)];omega
 have hfst:decide (16≤b.length)=true:=decide_eq_true h16
 have hsnd:decide (b.length≤800)=true:=decide_eq_true h800
 (refine fnS (imm:=imm123) ttS_ok func123 ?_;(conv=>whnf))
 refine callK_pure (c171 u) ?_
 rw [hu]
 conv=>whnf
 refine ⟨fun _=>?_,fun h=>absurd (show (16:Int)≤b.length by omega) h⟩
 conv=>whnf
 refine ⟨fun _=>?_,fun h=>absurd (show (b.length:Int)≤800 by omega) h⟩
 conv=>whnf
 refine drawK_pure2 (by kernel_rfl) ?_
 conv=>whnf
 iterate 3 (refine dS ?_;(conv=>whnf))
 refine ⟨.int .i64 ((b.length - 8:Nat):Int),⟨congrArg (PV.int _) hw8,rfl,trivial⟩,?_⟩
 conv=>whnf
 refine ⟨sl ((b.take (b.length - 8)).drop 0),⟨⟨by omega,by omega,by omega⟩,sl_cut2 b 0 ((b.length - 8:Nat):Int) ⟨by omega,by omega,by omega⟩,rfl,trivial⟩,?_⟩
 conv=>whnf
 (refine dS ?_;(conv=>whnf))
 refine ⟨sl ((b.take 8).drop 0),⟨⟨by omega,by omega,by omega⟩,sl_cut2 b 0 8 ⟨by omega,by omega,by omega⟩,rfl,trivial⟩,?_⟩
 conv=>whnf
 refine ⟨_,callK_pure (c184 ((b.take 8).drop 0) (by rw [List.length_drop,List.length_take];omega)) ⟨rfl,rfl,trivial⟩,?_⟩
 conv=>whnf
 iterate 2 (refine dS ?_;(conv=>whnf))
 refine drawK_pure2 (by kernel_rfl) ?_
 conv=>whnf
 (refine dS ?_;(conv=>whnf))
 have e0:(b.take (b.length - 8)).drop 0=b.take (b.length - 8):=rfl
 have hal:(b.take (b.length - 8)).length=b.length - 8:=by rw [List.length_take];omega
 have hpl:((b.take (b.length - 8)).drop 8).length=b.length - 16:=by rw [List.length_drop,hal];omega
 by_cases hn:beN (b.take 8)≤1099511627776
 ·refine ⟨.bool true,?_,?_⟩
  ·conv=>whnf
   exact ⟨fun _=>⟨rfl,rfl,trivial⟩,fun h=>absurd (show ((beN (b.take 8):Nat):Int)≤1099511627776 by omega) h⟩
  conv=>whnf
  iterate 4 (refine dS ?_;(conv=>whnf))
  refine ⟨_,callK_of (c174 sid sp hsp s o r v u (b.take (b.length - 8)) (by omega) bid H hb) (by rintro _ _ ⟨rfl,rfl⟩;exact ⟨rfl,rfl,trivial⟩),?_⟩
  conv=>whnf
  iterate 3 (refine dS ?_;(conv=>whnf))
  refine ⟨.int .i64 ((b.length - 8:Nat):Int),⟨congrArg (PV.int _) hw8,rfl,trivial⟩,?_⟩
  conv=>whnf
  refine ⟨sl ((b.take b.length).drop (b.length - 8)),⟨⟨by omega,by omega,by omega⟩,sl_cut2 b ((b.length - 8:Nat):Int) (b.length:Int) ⟨by omega,by omega,by omega⟩,rfl,trivial⟩,?_⟩
  conv=>whnf
  refine ⟨_,callK_pure (c185 (tagV sp u (b.take (b.length - 8))) ((b.take b.length).drop (b.length - 8)) (by show 8≤_;omega)) ⟨rfl,rfl,trivial⟩,?_⟩
  rw [List.take_length]
  by_cases hq:tagV sp u (b.take (b.length - 8))=b.drop (b.length - 8)
  ·have hop:openB sp u b=true:=by unfold openB;rw [hfst,hsnd,decide_eq_true hn,decide_eq_true hq];rfl
   rw [decide_eq_true hq,hop]
   conv=>whnf
   (refine dS ?_;(conv=>whnf))
   refine callK_of hc93o ?_
   rintro x _ rfl
   have hb':(H.set bid (boxS sid sp s (IntKind.i64.wrap (o+1)) r (v+1)))[bid]? = some (boxS sid sp s (IntKind.i64.wrap (o+1)) r (v+1)):=get_set hb
   have hs':(H.set bid (boxS sid sp s (IntKind.i64.wrap (o+1)) r (v+1)))[sid]? = some so:=by rw [List.getElem?_set_ne hne];exact hs
   conv=>whnf
   refine ⟨⟨by decide,by show (8:Int)≤((b.take (b.length - 8)).length:Int);omega,by omega⟩,?_⟩
   conv=>whnf
   have ec:=sl_cut2 (b.take (b.length - 8)) 8 ((b.take (b.length - 8)).length:Int) ⟨by omega,by omega,by omega⟩
   rw [Int.toNat_natCast,List.take_length] at ec
   refine callK_args (args':=[.ptr (some (bid,0)),.int .i64 u,.int .u64 (beN (b.take 8):Nat),sl ((b.take (b.length - 8)).drop 8)]) ?_ (callK_of (c173 (KeySt k) (fun o' h=>h.flat) so sid (beN (b.take 8):Nat) u ((b.take (b.length - 8)).drop 8) (streamV k (mixN (beN (b.take 8):Nat) u) (b.length - 16)) (by rw [streamV_len,hpl]) (by omega) (fun H hs=>by
    rw [hpl]
    exact c225 wordsOk k hk sid _ (b.length - 16) (by omega) so hso H hs) sp hsp s (IntKind.i64.wrap (o+1)) r (v+1) bid _ hb' hs') ?_)
   ·exact congrArg (fun z=>[PV.ptr (some (bid,0)),PV.int .i64 u,PV.int .u64 (beN (b.take 8):Nat),z]) ec
   rintro _ _ ⟨rfl,o',ho',rfl⟩
   conv=>whnf
   exact ⟨rfl,o',ho',rfl⟩
  ·have hop:openB sp u b=false:=by unfold openB;rw [decide_eq_false hq,Bool.and_false]
   rw [decide_eq_false hq,hop]
   conv=>whnf
   (refine dS ?_;(conv=>whnf))
   refine callK_of hc93r ?_
   rintro x _ rfl
   conv=>whnf
   exact ⟨rfl,rfl⟩
 ·have hop:openB sp u b=false:=by unfold openB;rw [decide_eq_false hn,Bool.and_false,Bool.false_and]
  rw [hop]
  refine ⟨.bool false,?_,?_⟩
  ·conv=>whnf
   exact ⟨fun h=>absurd (show ((beN (b.take 8):Nat):Int)≤1099511627776 from h) (by omega),fun _=>⟨rfl,rfl,trivial⟩⟩
  conv=>whnf
  iterate 12 (refine dS ?_;(conv=>whnf))
  refine callK_of hc93r ?_
  rintro x _ rfl
  conv=>whnf
  exact ⟨rfl,rfl⟩
def ttQ3:TT:=[(3,⟨.int .i64,1,8,[.int .i64 0]⟩),(5,⟨.int .u8,1,1,[.int .u8 0]⟩),(26,⟨.slice 5,1,24,[.slice 0 [] (some 5)]⟩),(221,⟨.arr 16 5,16,16,List.replicate 16 (.int .u8 0)⟩),(142,⟨.int .u64,1,8,[.int .u64 0]⟩),(155,⟨.int .u64,1,8,[.int .u64 0]⟩),(275,⟨.ptr,1,8,[.ptr none]⟩),(277,⟨.arr 4 142,4,32,[.int .u64 0,.int .u64 0,.int .u64 0,.int .u64 0]⟩)]
theorem ttQ3_ok:ttOk prog ttQ3=true:=by kernel_rfl
def imm227:List Nat:=[]
def imm178:List Nat:=[]
def imm177:List Nat:=[]
def imm176:List Nat:=[]
def imm113:List Nat:=[2]
def rotR (x n:Int):Int:=ibits .or .u64 (ishl .u64 x n) (ishr .u64 x (IntKind.u64.wrap (64 - n)))
theorem c227 (x n:Int) (hn:0≤n):Pure prog 227 [.int .u64 x,.int .u64 n] (.int .u64 (rotR x n)):=by
 intro H
 (refine fnS (imm:=imm227) ttQ3_ok func227 ?_;(conv=>whnf))
 refine ⟨hn,?_⟩
 conv=>whnf
 refine ⟨u64_nonneg _,?_⟩
 conv=>whnf
 exact ⟨rfl,rfl⟩
theorem rot13 (x:Int):rotR x 13=rotC x 13:=by unfold rotC;rw [show rotS 13=13 by decide];rfl
theorem rot32' (x:Int):rotR x 32=rotC x 32:=by unfold rotC;rw [show rotS 32=32 by decide];rfl
theorem rot16 (x:Int):rotR x 16=rotC x 16:=by unfold rotC;rw [show rotS 16=16 by decide];rfl
theorem rot21 (x:Int):rotR x 21=rotC x 21:=by unfold rotC;rw [show rotS 21=21 by decide];rfl
theorem rot17 (x:Int):rotR x 17=rotC x 17:=by unfold rotC;rw [show rotS 17=17 by decide];rfl
def S4.Q (s:S4) (v:Nat):PObj:=⟨277,[.int .u64 s.a,.int .u64 s.b,.int .u64 s.c,.int .u64 s.d],v⟩
theorem S4.lookQ (s:S4) (v:Nat) {id:Nat} {H:PH} {o:PObj} (h:H[id]? = some o):(H.set id (s.Q v))[id]? = some ⟨277,[.int .u64 s.a,.int .u64 s.b,.int .u64 s.c,.int .u64 s.d],v⟩:=get_set h
def D178_0:Draw:={ imp:=[12],win:=[] }
def D178_1:Draw:={ imp:=[13],win:=[] }
def D178_2:Draw:={ imp:=[8],win:=[] }
def D178_3:Draw:={ imp:=[12],win:=[] }
def D178_4:Draw:={ imp:=[13],win:=[] }
def D178_5:Draw:={ imp:=[12],win:=[] }
def D178_6:Draw:={ imp:=[13],win:=[] }
def D178_7:Draw:={ imp:=[12],win:=[] }
def D178_8:Draw:={ imp:=[13],win:=[] }
def D178_9:Draw:={ imp:=[8],win:=[] }
theorem c178 (z0:S4) (id w:Nat) (H:PH) (hid:H[id]? = some (z0.Q w)) :
  CallOk prog 178 [.ptr (some (id,0))] H fun r H'=>r=.tup []∧∃v',H'=H.set id (z0.rnd.Q v'):=by
 (refine fnS (imm:=imm178) ttQ3_ok func178 ?_;(conv=>whnf))
 refine drawK_of2 D178_0 [H,H.set id (z0.s0.Q (w+1))] (by kernel_rfl) rfl trivial ?_
 conv=>whnf
 iterate 4 (refine dS ?_;(conv=>whnf))
 apply Exists.intro
 apply And.intro
 ·conv=>whnf
  ((conv in (_[_]?)=>tactic=>exact (show H[id]? = some ⟨277,[.int .u64 z0.a,.int .u64 z0.b,.int .u64 z0.c,.int .u64 z0.d],w⟩ from hid));(conv=>whnf))
  exact ⟨rfl,rfl,trivial⟩
 conv=>whnf
 iterate 3 (refine dS ?_;(conv=>whnf))
 apply Exists.intro
 apply And.intro
 ·conv=>whnf
  ((conv in (_[_]?)=>tactic=>exact (show H[id]? = some ⟨277,[.int .u64 z0.a,.int .u64 z0.b,.int .u64 z0.c,.int .u64 z0.d],w⟩ from hid));(conv=>whnf))
  exact ⟨rfl,rfl,trivial⟩
 conv=>whnf
 iterate 3 (refine dS ?_;(conv=>whnf))
 apply Exists.intro
 apply And.intro
 ·conv=>whnf
  ((conv in (_[_]?)=>tactic=>exact (show H[id]? = some ⟨277,[.int .u64 z0.a,.int .u64 z0.b,.int .u64 z0.c,.int .u64 z0.d],w⟩ from hid));(conv=>whnf))
  exact ⟨rfl,rfl,trivial⟩
 conv=>whnf
 generalize hs1:S4.s0 z0=z1
 refine drawK_of2 D178_1 [H.set id (z1.Q (w+1)),H.set id (z1.s1.Q (w+2))] (by kernel_rfl) rfl trivial ?_
 conv=>whnf
 iterate 4 (refine dS ?_;(conv=>whnf))
 apply Exists.intro
 apply And.intro
 ·conv=>whnf
  ((conv in (_[_]?)=>tactic=>exact (z1.lookQ (w+1) hid));(conv=>whnf))
  exact ⟨rfl,rfl,trivial⟩
 conv=>whnf
 refine ⟨_,callK_pure ((c227 _ 13 (by decide)).of_eq (congrArg _ (rot13 _))) ⟨rfl,rfl,trivial⟩,?_⟩
 conv=>whnf
 iterate 3 (refine dS ?_;(conv=>whnf))
 apply Exists.intro
 apply And.intro
 ·conv=>whnf
  ((conv in (_[_]?)=>tactic=>exact (z1.lookQ (w+1) hid));(conv=>whnf))
  exact ⟨rfl,rfl,trivial⟩
 conv=>whnf
 iterate 3 (refine dS ?_;(conv=>whnf))
 apply Exists.intro
 apply And.intro
 ·conv=>whnf
  ((conv in (_[_]?)=>tactic=>exact (z1.lookQ (w+1) hid));(conv=>whnf))
  exact ⟨rfl,List.set_set ..,trivial⟩
 conv=>whnf
 generalize hs2:S4.s1 z1=z2
 refine drawK_of2 D178_2 [H.set id (z2.Q (w+2)),H.set id (z2.s2.Q (w+3))] (by kernel_rfl) rfl trivial ?_
 conv=>whnf
 iterate 4 (refine dS ?_;(conv=>whnf))
 apply Exists.intro
 apply And.intro
 ·conv=>whnf
  ((conv in (_[_]?)=>tactic=>exact (z2.lookQ (w+2) hid));(conv=>whnf))
  exact ⟨rfl,rfl,trivial⟩
 conv=>whnf
 refine ⟨_,callK_pure ((c227 _ 32 (by decide)).of_eq (congrArg _ (rot32' _))) ⟨rfl,rfl,trivial⟩,?_⟩
 conv=>whnf
 iterate 2 (refine dS ?_;(conv=>whnf))
 apply Exists.intro
 apply And.intro
 ·conv=>whnf
  ((conv in (_[_]?)=>tactic=>exact (z2.lookQ (w+2) hid));(conv=>whnf))
  exact ⟨rfl,List.set_set ..,trivial⟩
 conv=>whnf
 generalize hs3:S4.s2 z2=z3
 refine drawK_of2 D178_3 [H.set id (z3.Q (w+3)),H.set id (z3.s3.Q (w+4))] (by kernel_rfl) rfl trivial ?_
 conv=>whnf
 iterate 4 (refine dS ?_;(conv=>whnf))
 apply Exists.intro
 apply And.intro
 ·conv=>whnf
  ((conv in (_[_]?)=>tactic=>exact (z3.lookQ (w+3) hid));(conv=>whnf))
  exact ⟨rfl,rfl,trivial⟩
 conv=>whnf
 iterate 3 (refine dS ?_;(conv=>whnf))
 apply Exists.intro
 apply And.intro
 ·conv=>whnf
  ((conv in (_[_]?)=>tactic=>exact (z3.lookQ (w+3) hid));(conv=>whnf))
  exact ⟨rfl,rfl,trivial⟩
 conv=>whnf
 iterate 3 (refine dS ?_;(conv=>whnf))
 apply Exists.intro
 apply And.intro
 ·conv=>whnf
  ((conv in (_[_]?)=>tactic=>exact (z3.lookQ (w+3) hid));(conv=>whnf))
  exact ⟨rfl,List.set_set ..,trivial⟩
 conv=>whnf
 generalize hs4:S4.s3 z3=z4
 refine drawK_of2 D178_4 [H.set id (z4.Q (w+4)),H.set id (z4.s4.Q (w+5))] (by kernel_rfl) rfl trivial ?_
 conv=>whnf
 iterate 4 (refine dS ?_;(conv=>whnf))
 apply Exists.intro
 apply And.intro
 ·conv=>whnf
  ((conv in (_[_]?)=>tactic=>exact (z4.lookQ (w+4) hid));(conv=>whnf))
  exact ⟨rfl,rfl,trivial⟩
 conv=>whnf
 refine ⟨_,callK_pure ((c227 _ 16 (by decide)).of_eq (congrArg _ (rot16 _))) ⟨rfl,rfl,trivial⟩,?_⟩
 conv=>whnf
 iterate 3 (refine dS ?_;(conv=>whnf))
 apply Exists.intro
 apply And.intro
 ·conv=>whnf
  ((conv in (_[_]?)=>tactic=>exact (z4.lookQ (w+4) hid));(conv=>whnf))
  exact ⟨rfl,rfl,trivial⟩
 conv=>whnf
 iterate 3 (refine dS ?_;(conv=>whnf))
 apply Exists.intro
 apply And.intro
 ·conv=>whnf
  ((conv in (_[_]?)=>tactic=>exact (z4.lookQ (w+4) hid));(conv=>whnf))
  exact ⟨rfl,List.set_set ..,trivial⟩
 conv=>whnf
 generalize hs5:S4.s4 z4=z5
 refine drawK_of2 D178_5 [H.set id (z5.Q (w+5)),H.set id (z5.s5.Q (w+6))] (by kernel_rfl) rfl trivial ?_
 conv=>whnf
 iterate 4 (refine dS ?_;(conv=>whnf))
 apply Exists.intro
 apply And.intro
 ·conv=>whnf
  ((conv in (_[_]?)=>tactic=>exact (z5.lookQ (w+5) hid));(conv=>whnf))
  exact ⟨rfl,rfl,trivial⟩
 conv=>whnf
 iterate 3 (refine dS ?_;(conv=>whnf))
 apply Exists.intro
 apply And.intro
 ·conv=>whnf
  ((conv in (_[_]?)=>tactic=>exact (z5.lookQ (w+5) hid));(conv=>whnf))
  exact ⟨rfl,rfl,trivial⟩
 conv=>whnf
 iterate 3 (refine dS ?_;(conv=>whnf))
 apply Exists.intro
 apply And.intro
 ·conv=>whnf
  ((conv in (_[_]?)=>tactic=>exact (z5.lookQ (w+5) hid));(conv=>whnf))
  exact ⟨rfl,List.set_set ..,trivial⟩
 conv=>whnf
 generalize hs6:S4.s5 z5=z6
 refine drawK_of2 D178_6 [H.set id (z6.Q (w+6)),H.set id (z6.s6.Q (w+7))] (by kernel_rfl) rfl trivial ?_
 conv=>whnf
 iterate 4 (refine dS ?_;(conv=>whnf))
 apply Exists.intro
 apply And.intro
 ·conv=>whnf
  ((conv in (_[_]?)=>tactic=>exact (z6.lookQ (w+6) hid));(conv=>whnf))
  exact ⟨rfl,rfl,trivial⟩
 conv=>whnf
 refine ⟨_,callK_pure ((c227 _ 21 (by decide)).of_eq (congrArg _ (rot21 _))) ⟨rfl,rfl,trivial⟩,?_⟩
 conv=>whnf
 iterate 3 (refine dS ?_;(conv=>whnf))
 apply Exists.intro
 apply And.intro
 ·conv=>whnf
  ((conv in (_[_]?)=>tactic=>exact (z6.lookQ (w+6) hid));(conv=>whnf))
  exact ⟨rfl,rfl,trivial⟩
 conv=>whnf
 iterate 3 (refine dS ?_;(conv=>whnf))
 apply Exists.intro
 apply And.intro
 ·conv=>whnf
  ((conv in (_[_]?)=>tactic=>exact (z6.lookQ (w+6) hid));(conv=>whnf))
  exact ⟨rfl,List.set_set ..,trivial⟩
 conv=>whnf
 generalize hs7:S4.s6 z6=z7
 refine drawK_of2 D178_7 [H.set id (z7.Q (w+7)),H.set id (z7.s7.Q (w+8))] (by kernel_rfl) rfl trivial ?_
 conv=>whnf
 iterate 4 (refine dS ?_;(conv=>whnf))
 apply Exists.intro
 apply And.intro
 ·conv=>whnf
  ((conv in (_[_]?)=>tactic=>exact (z7.lookQ (w+7) hid));(conv=>whnf))
  exact ⟨rfl,rfl,trivial⟩
 conv=>whnf
 iterate 3 (refine dS ?_;(conv=>whnf))
 apply Exists.intro
 apply And.intro
 ·conv=>whnf
  ((conv in (_[_]?)=>tactic=>exact (z7.lookQ (w+7) hid));(conv=>whnf))
  exact ⟨rfl,rfl,trivial⟩
 conv=>whnf
 iterate 3 (refine dS ?_;(conv=>whnf))
 apply Exists.intro
 apply And.intro
 ·conv=>whnf
  ((conv in (_[_]?)=>tactic=>exact (z7.lookQ (w+7) hid));(conv=>whnf))
  exact ⟨rfl,List.set_set ..,trivial⟩
 conv=>whnf
 generalize hs8:S4.s7 z7=z8
 refine drawK_of2 D178_8 [H.set id (z8.Q (w+8)),H.set id (z8.s8.Q (w+9))] (by kernel_rfl) rfl trivial ?_
 conv=>whnf
 iterate 4 (refine dS ?_;(conv=>whnf))
 apply Exists.intro
 apply And.intro
 ·conv=>whnf
  ((conv in (_[_]?)=>tactic=>exact (z8.lookQ (w+8) hid));(conv=>whnf))
  exact ⟨rfl,rfl,trivial⟩
 conv=>whnf
 refine ⟨_,callK_pure ((c227 _ 17 (by decide)).of_eq (congrArg _ (rot17 _))) ⟨rfl,rfl,trivial⟩,?_⟩
 conv=>whnf
 iterate 3 (refine dS ?_;(conv=>whnf))
 apply Exists.intro
 apply And.intro
 ·conv=>whnf
  ((conv in (_[_]?)=>tactic=>exact (z8.lookQ (w+8) hid));(conv=>whnf))
  exact ⟨rfl,rfl,trivial⟩
 conv=>whnf
 iterate 3 (refine dS ?_;(conv=>whnf))
 apply Exists.intro
 apply And.intro
 ·conv=>whnf
  ((conv in (_[_]?)=>tactic=>exact (z8.lookQ (w+8) hid));(conv=>whnf))
  exact ⟨rfl,List.set_set ..,trivial⟩
 conv=>whnf
 generalize hs9:S4.s8 z8=z9
 refine drawK_of2 D178_9 [H.set id (z9.Q (w+9)),H.set id (z9.s9.Q (w+10))] (by kernel_rfl) rfl trivial ?_
 conv=>whnf
 iterate 4 (refine dS ?_;(conv=>whnf))
 apply Exists.intro
 apply And.intro
 ·conv=>whnf
  ((conv in (_[_]?)=>tactic=>exact (z9.lookQ (w+9) hid));(conv=>whnf))
  exact ⟨rfl,rfl,trivial⟩
 conv=>whnf
 refine ⟨_,callK_pure ((c227 _ 32 (by decide)).of_eq (congrArg _ (rot32' _))) ⟨rfl,rfl,trivial⟩,?_⟩
 conv=>whnf
 iterate 2 (refine dS ?_;(conv=>whnf))
 apply Exists.intro
 apply And.intro
 ·conv=>whnf
  ((conv in (_[_]?)=>tactic=>exact (z9.lookQ (w+9) hid));(conv=>whnf))
  exact ⟨rfl,List.set_set ..,trivial⟩
 conv=>whnf
 refine ⟨rfl,w+10,?_⟩
 subst hs1 hs2 hs3 hs4 hs5 hs6 hs7 hs8 hs9
 rfl
def D177:Draw:={ imp:=[9],win:=[] }
theorem c177 (s:S4) (m:Int) (id v:Nat) (H:PH) (hid:H[id]? = some (s.Q v)) :
  CallOk prog 177 [.ptr (some (id,0)),.int .u64 m] H fun r H'=>r=.tup []∧∃v',H'=H.set id ((s.takes m).Q v'):=by
 (refine fnS (imm:=imm177) ttQ3_ok func177 ?_;(conv=>whnf))
 refine drawK_of2 D177 [H,H.set id (S4.Q { s with d:=xorW s.d m } (v+1))] (by kernel_rfl) rfl trivial ?_
 have g0:H[id]? = some ⟨277,[.int .u64 s.a,.int .u64 s.b,.int .u64 s.c,.int .u64 s.d],v⟩:=hid
 conv=>whnf
 iterate 4 (refine dS ?_;(conv=>whnf))
 apply Exists.intro
 apply And.intro
 ·conv=>whnf
  ((conv in (_[_]?)=>tactic=>exact g0);(conv=>whnf))
  exact ⟨rfl,rfl,trivial⟩
 conv=>whnf
 iterate 4 (refine dS ?_;(conv=>whnf))
 apply Exists.intro
 apply And.intro
 ·conv=>whnf
  ((conv in (_[_]?)=>tactic=>exact g0);(conv=>whnf))
  exact ⟨rfl,rfl,trivial⟩
 conv=>whnf
 refine callK_of (Q:=fun r H'=>r=.tup []∧∃v',H'=H.set id ((S4.rnds 1 { s with d:=xorW s.d m }).Q v')) ((c178 { s with d:=xorW s.d m } id (v+1) (H.set id _) (get_set hid)).mono fun r H' hh=>?_) ?_
 ·obtain ⟨h1,v',h2⟩:=hh
  exact ⟨h1,v',by rw [h2,List.set_set];rfl⟩
 rintro _ _ ⟨rfl,v1,rfl⟩
 conv=>whnf
 refine callK_of (Q:=fun r H'=>r=.tup []∧∃v',H'=H.set id ((S4.rnds 2 { s with d:=xorW s.d m }).Q v')) ((c178 (S4.rnds 1 { s with d:=xorW s.d m }) id v1 (H.set id _) (get_set hid)).mono fun r H' hh=>?_) ?_
 ·obtain ⟨h1,v',h2⟩:=hh
  exact ⟨h1,v',by rw [h2,List.set_set];rfl⟩
 rintro _ _ ⟨rfl,v',rfl⟩
 conv=>whnf
 generalize hs:S4.rnds 2 { s with d:=xorW s.d m }=z
 refine drawK_of2 D177 [H.set id (z.Q v'),H.set id (S4.Q { z with a:=xorW z.a m } (v'+1))] (by kernel_rfl) rfl trivial ?_
 conv=>whnf
 iterate 4 (refine dS ?_;(conv=>whnf))
 apply Exists.intro
 apply And.intro
 ·conv=>whnf
  ((conv in (_[_]?)=>tactic=>exact (z.lookQ v' hid));(conv=>whnf))
  exact ⟨rfl,rfl,trivial⟩
 conv=>whnf
 iterate 4 (refine dS ?_;(conv=>whnf))
 apply Exists.intro
 apply And.intro
 ·conv=>whnf
  ((conv in (_[_]?)=>tactic=>exact (z.lookQ v' hid));(conv=>whnf))
  exact ⟨rfl,List.set_set ..,trivial⟩
 conv=>whnf
 refine ⟨rfl,v'+1,?_⟩
 subst hs
 rfl
theorem le_step2 (l:List UInt8) (c:UInt8) (h:l.length<8):ibits .or .u64 (ishl .u64 (leN l:Nat) 8) (IntKind.u64.wrap c.toNat)=((leN (c::l):Nat):Int):=by
 have hc:=c.toNat_lt
 have h1:=leN_lt l
 rw [pow8] at h1
 have h3:2 ^ (8*(l.length+1))≤18446744073709551616:=pow_le8 (by omega)
 have h4:2 ^ (8*(l.length+1))=256*2 ^ (8*l.length):=by rw [Nat.mul_add,Nat.pow_add];omega
 have h5:leN l*256<18446744073709551616:=by omega
 have e:ishl .u64 (leN l:Nat) 8=((leN l*256:Nat):Int):=by
  show IntKind.u64.wrap ((leN l:Int)*2 ^ (min (8:Int).toNat 64))=_
  have:((leN l:Int)*2 ^ (min (8:Int).toNat 64))=((leN l*256:Nat):Int):=by push_cast;rfl
  rw [this]
  exact wrapU64 h5
 rw [e,wrapU64 (by omega),or_u64 h5 (by omega),show leN l*256=2 ^ 8*leN l by omega,←Nat.two_pow_add_eq_or_of_lt (by omega:c.toNat<2 ^ 8)]
 congr 1
 show _=c.toNat+256*leN l
 omega
theorem c176 (b:List UInt8) (hb:b.length≤8):Pure prog 176 [sl b] (.int .u64 (leN b)):=by
 intro H
 (refine fnS (imm:=imm176) ttQ3_ok func176 ?_;(conv=>whnf))
 refine loopK_of Nat (fun k=>[(0,sl b),(4,.int .i64 ((k:Int) - 1)),(3,.int .u64 (leN (b.drop k)))]) (fun _=>H) (fun k=>k≤b.length) (fun k=>k) ⟨b.length,Nat.le_refl _,⟨rfl,?_,?_,trivial⟩,rfl⟩ ?_
 ·show PV.int _ (IntKind.i64.wrap ((b.length:Int) - 1))=_
  rw [wrap64 (by omega) (by omega)]
 ·rw [List.drop_length];rfl
 intro k hk
 conv=>whnf
 refine ⟨fun h=>?_,fun h=>?_⟩
 ·have h:(0:Int)≤(k:Int) - 1:=h
  have hi:k - 1<b.length:=by omega
  conv=>whnf
  refine ⟨by decide,?_⟩
  conv=>whnf
  refine ⟨⟨h,by show (k:Int) - 1<(b.length:Int);omega⟩,[byteC b[k - 1]],at1' (k:=((k:Int) - 1).toNat*1) (by rw [show ((k:Int) - 1).toNat*1=k - 1 by omega,List.getElem?_map,List.getElem?_eq_getElem hi];rfl),?_⟩
  conv=>whnf
  refine ⟨k - 1,by omega,⟨rfl,?_,?_,trivial⟩,rfl,by omega⟩
  ·show PV.int _ (IntKind.i64.wrap ((k:Int) - 1 - 1))=PV.int _ _
   rw [wrap64 (by omega) (by omega)]
   congr 1;omega
  ·show PV.int _ (ibits .or .u64 (ishl .u64 (leN (b.drop k):Nat) 8) (IntKind.u64.wrap (b[k - 1].toNat:Int)))=PV.int _ _
   have e:b.drop (k - 1)=b[k - 1]::b.drop k:=by
    rw [List.drop_eq_getElem_cons hi,show k - 1+1=k by omega]
   rw [e,le_step2 _ _ (by rw [List.length_drop];omega)]
 ·have h:¬(0:Int)≤(k:Int) - 1:=h
  have e:k=0:=by omega
  subst e
  conv=>whnf
  exact ⟨rfl,rfl⟩
theorem or_comm64 (x y:Int):ibits .or .u64 x y=ibits .or .u64 y x:=by
 show IntKind.u64.wrap _=IntKind.u64.wrap _
 rw [BitVec.or_comm]
theorem and255 (n:Nat) (h:n≤1099511627776):ibits .and .i64 (n:Int) 255=IntKind.u8.wrap (n:Int):=by
 show IntKind.i64.wrap ((BitVec.ofInt 64 (n:Int) &&& BitVec.ofInt 64 255).toNat:Int)=(n:Int) % (2 ^ IntKind.u8.bits:Int)
 have e:(2 ^ IntKind.u8.bits:Int)=256:=by decide
 have h1:(BitVec.ofInt 64 (n:Int)).toNat=n:=by rw [BitVec.toNat_ofInt];omega
 have h2:(BitVec.ofInt 64 255).toNat=2 ^ 8 - 1:=by decide
 rw [e,BitVec.toNat_and,h1,h2,Nat.and_two_pow_sub_one_eq_mod,wrap64 (by omega) (by omega)]
 omega
def D113_8:Draw:={ imp:=[8],win:=[] }
theorem c113x (k:List UInt8) (hk:k.length=16) (p:List UInt8) (hp:p.length≤1000000) (H:PH) :
  CallOk prog 113 [.agg (k.map byteC),sl p] H fun r H'=>r=.int .u64 (sipV k p)∧∃ext,H'=H++ext:=by
 obtain ⟨k0,k1,k2,k3,k4,k5,k6,k7,k8,k9,ka,kb,kc,kd,ke,kf,rfl⟩:=len16 hk
 have hk2:sipI [k0,k1,k2,k3,k4,k5,k6,k7,k8,k9,ka,kb,kc,kd,ke,kf]=⟨xorW 8317987319222330741 (leN [k0,k1,k2,k3,k4,k5,k6,k7]:Nat),xorW 7237128888997146477 (leN [k8,k9,ka,kb,kc,kd,ke,kf]:Nat),xorW 7816392313619706465 (leN [k0,k1,k2,k3,k4,k5,k6,k7]:Nat),xorW 8387220255154660723 (leN [k8,k9,ka,kb,kc,kd,ke,kf]:Nat)⟩:=rfl
 unfold sipV
 generalize hs0:sipI [k0,k1,k2,k3,k4,k5,k6,k7,k8,k9,ka,kb,kc,kd,ke,kf]=s0
 rw [hk2] at hs0
 (refine fnS (imm:=imm113) ttQ3_ok func113 ?_;(conv=>whnf))
 refine drawK_pure2 (by kernel_rfl) ?_
 conv=>whnf
 (refine dS ?_;(conv=>whnf))
 refine ⟨_,callK_args rfl (callK_pure (c176 [k0,k1,k2,k3,k4,k5,k6,k7] (by simp)) ⟨rfl,rfl,trivial⟩),?_⟩
 conv=>whnf
 (refine dS ?_;(conv=>whnf))
 refine ⟨_,callK_args rfl (callK_pure (c176 [k8,k9,ka,kb,kc,kd,ke,kf] (by simp)) ⟨rfl,rfl,trivial⟩),?_⟩
 conv=>whnf
 iterate 2 (refine dS ?_;(conv=>whnf))
 have hO:(PObj.mk 277 [.int .u64 (ibits .xor .u64 8317987319222330741 (leN [k0,k1,k2,k3,k4,k5,k6,k7]:Nat)),.int .u64 (ibits .xor .u64 7237128888997146477 (leN [k8,k9,ka,kb,kc,kd,ke,kf]:Nat)),.int .u64 (ibits .xor .u64 7816392313619706465 (leN [k0,k1,k2,k3,k4,k5,k6,k7]:Nat)),.int .u64 (ibits .xor .u64 8387220255154660723 (leN [k8,k9,ka,kb,kc,kd,ke,kf]:Nat))] 0)=s0.Q 0:=by subst hs0;rfl
 refine loopK_of SipS (fun x=>[(1,sl p),(7,.ptr (some (H.length,0))),(8,.int .i64 ((8*x.i:Nat):Int))]) (fun x=>H++[(sipN s0 p x.i).Q x.v]) (fun x=>x.i≤p.length / 8) (fun x=>p.length / 8 - x.i) ⟨⟨0,0⟩,Nat.zero_le _,⟨rfl,rfl,rfl,trivial⟩,congrArg (fun o=>H++[o]) hO⟩ ?_
 rintro ⟨i,v⟩ hi
 replace hi:i≤p.length / 8:=hi
 have hl:(p.drop (8*i)).length=p.length - 8*i:=List.length_drop
 have hsub:IntKind.i64.wrap ((p.length:Int) - ((8*i:Nat):Int))=(p.length:Int) - ((8*i:Nat):Int):=wrap64 (by omega) (by omega)
 have hadd:IntKind.i64.wrap (((8*i:Nat):Int)+8)=((8*i+8:Nat):Int):=by rw [wrap64 (by omega) (by omega)];omega
 conv=>whnf
 refine ⟨fun h=>?_,fun h=>?_⟩
 ·have h:(8:Int)≤IntKind.i64.wrap ((p.length:Int) - ((8*i:Nat):Int)):=h
  rw [hsub] at h
  conv=>whnf
  refine ⟨⟨by show (0:Int)≤((8*i:Nat):Int);omega,by show ((8*i:Nat):Int)≤IntKind.i64.wrap (((8*i:Nat):Int)+8);rw [hadd];omega,by show IntKind.i64.wrap (((8*i:Nat):Int)+8)≤(p.length:Int);rw [hadd];omega⟩,?_⟩
  conv=>whnf
  have ecut:(p.take (8*i+8)).drop (8*i)=(p.drop (8*i)).take 8:=by
   rw [List.drop_take,show 8*i+8 - 8*i=8 by omega]
  refine callK_args (args':=[sl ((p.drop (8*i)).take 8)]) ?_ (callK_pure (c176 ((p.drop (8*i)).take 8) (by rw [List.length_take];omega)) ?_)
  ·refine congrArg (fun z=>[z]) ?_
   have e:=sl_cut2 p ((8*i:Nat):Int) ((8*i+8:Nat):Int) ⟨by omega,by omega,by omega⟩
   rw [Int.toNat_natCast,Int.toNat_natCast,ecut] at e
   show PV.slice ((IntKind.i64.wrap (((8*i:Nat):Int)+8)).toNat - ((8*i:Nat):Int).toNat) (((p.map byteC).take ((IntKind.i64.wrap (((8*i:Nat):Int)+8)).toNat*1)).drop (((8*i:Nat):Int).toNat*1)) none=_
   rw [hadd,Int.toNat_natCast,Int.toNat_natCast]
   exact e
  conv=>whnf
  refine callK_of (Q:=fun r H'=>r=.tup []∧∃v',H'=H++[(sipN s0 p (i+1)).Q v']) ((c177 (sipN s0 p i) (leN ((p.drop (8*i)).take 8):Nat) H.length v _ (get_last H _)).mono fun r H' hh=>?_) ?_
  ·obtain ⟨h1,v',h2⟩:=hh
   exact ⟨h1,v',by rw [h2,set_last];rfl⟩
  rintro _ _ ⟨rfl,v',rfl⟩
  conv=>whnf
  refine ⟨⟨i+1,v'⟩,by show i+1≤p.length / 8;omega,⟨rfl,rfl,?_,trivial⟩,rfl,by show p.length / 8 - (i+1)<p.length / 8 - i;omega⟩
  show PV.int _ (IntKind.i64.wrap (((8*i:Nat):Int)+8))=PV.int _ ((8*(i+1):Nat):Int)
  rw [hadd];rfl
 ·have h:¬(8:Int)≤IntKind.i64.wrap ((p.length:Int) - ((8*i:Nat):Int)):=h
  rw [hsub] at h
  have hi2:i=p.length / 8:=by omega
  rw [←hi2]
  conv=>whnf
  refine ⟨⟨by show (0:Int)≤((8*i:Nat):Int);omega,by show ((8*i:Nat):Int)≤(p.length:Int);omega,by omega⟩,?_⟩
  conv=>whnf
  have hcut:=sl_cut2 p ((8*i:Nat):Int) (p.length:Int) ⟨by omega,by omega,by omega⟩
  rw [Int.toNat_natCast,Int.toNat_natCast,List.take_length] at hcut
  refine callK_args (args':=[sl (p.drop (8*i))]) (congrArg (fun z=>[z]) hcut) (callK_pure (c176 (p.drop (8*i)) (by omega)) ?_)
  conv=>whnf
  refine ⟨by decide,?_⟩
  conv=>whnf
  have hm:ibits .or .u64 (leN (p.drop (8*i)):Nat) (ishl .u64 (IntKind.u64.wrap (ibits .and .i64 (p.length:Int) 255)) 56)=ibits .or .u64 (lastW p.length) (leN (p.drop (8*i)):Nat):=by
   rw [or_comm64,and255 _ (by omega)];rfl
  generalize hm2:ibits .or .u64 (lastW p.length) (leN (p.drop (8*i)):Nat)=m at hm
  generalize hs1:sipN s0 p i=s1
  refine callK_args (args':=[.ptr (some (H.length,0)),.int .u64 m]) (congrArg (fun z=>[PV.ptr (some (H.length,0)),PV.int .u64 z]) hm) (callK_of (Q:=fun r H'=>r=.tup []∧∃v',H'=H++[(s1.takes m).Q v']) ?_ ?_)
  ·refine (c177 s1 m H.length v _ (get_last H _)).mono fun r H' hh=>?_
   obtain ⟨h1,v',h2⟩:=hh
   exact ⟨h1,v',by rw [h2,set_last]⟩
  rintro _ _ ⟨rfl,v1,rfl⟩
  conv=>whnf
  generalize hs2:s1.takes m=s2
  refine drawK_of2 D113_8 [H++[s2.Q v1],H++[S4.Q { s2 with c:=xorW s2.c 255 } (v1+1)]] (by kernel_rfl) rfl trivial ?_
  have g0:(H++[s2.Q v1])[H.length]? = some ⟨277,[.int .u64 s2.a,.int .u64 s2.b,.int .u64 s2.c,.int .u64 s2.d],v1⟩:=get_last H _
  conv=>whnf
  iterate 4 (refine dS ?_;(conv=>whnf))
  apply Exists.intro
  apply And.intro
  ·conv=>whnf
   ((conv in (_[_]?)=>tactic=>exact g0);(conv=>whnf))
   exact ⟨rfl,rfl,trivial⟩
  conv=>whnf
  iterate 3 (refine dS ?_;(conv=>whnf))
  apply Exists.intro
  apply And.intro
  ·conv=>whnf
   ((conv in (_[_]?)=>tactic=>exact g0);(conv=>whnf))
   exact ⟨rfl,set_last H _ _,trivial⟩
  conv=>whnf
  refine loopK_of SipS (fun x=>[(7,.ptr (some (H.length,0))),(9,.int .i64 x.i)]) (fun x=>H++[(S4.rnds x.i { s2 with c:=xorW s2.c 255 }).Q x.v]) (fun x=>x.i≤4) (fun x=>4 - x.i) ⟨⟨0,v1+1⟩,Nat.zero_le _,⟨rfl,rfl,trivial⟩,rfl⟩ ?_
  rintro ⟨j,w⟩ hj
  replace hj:j≤4:=hj
  conv=>whnf
  refine ⟨fun h=>?_,fun h=>?_⟩
  ·have h:(j:Int)<4:=h
   conv=>whnf
   refine callK_of (Q:=fun r H'=>r=.tup []∧∃v',H'=H++[(S4.rnds (j+1) { s2 with c:=xorW s2.c 255 }).Q v']) ((c178 (S4.rnds j { s2 with c:=xorW s2.c 255 }) H.length w _ (get_last H _)).mono fun r H' hh=>?_) ?_
   ·obtain ⟨h1,v',h2⟩:=hh
    exact ⟨h1,v',by rw [h2,set_last];rfl⟩
   rintro _ _ ⟨rfl,v',rfl⟩
   conv=>whnf
   refine ⟨⟨j+1,v'⟩,by show j+1≤4;omega,⟨rfl,?_,trivial⟩,rfl,by show 4 - (j+1)<4 - j;omega⟩
   show PV.int _ (IntKind.i64.wrap ((j:Int)+1))=PV.int _ _
   rw [wrap64 (by omega) (by omega)];simp
  have h:¬(j:Int)<4:=h
  have e4:j=4:=by omega
  subst e4
  conv=>whnf
  have hf:S4.rnds 4 { s2 with c:=xorW s2.c 255 }=s2.fin:=rfl
  rw [hf]
  generalize hs3:s2.fin=s3
  have g1:(H++[s3.Q w])[H.length]? = some ⟨277,[.int .u64 s3.a,.int .u64 s3.b,.int .u64 s3.c,.int .u64 s3.d],w⟩:=get_last H _
  refine drawK_pure2 (by kernel_rfl) ?_
  conv=>whnf
  iterate 3 (refine dS ?_;(conv=>whnf))
  apply Exists.intro
  apply And.intro
  ·conv=>whnf
   ((conv in (_[_]?)=>tactic=>exact g1);(conv=>whnf))
   exact ⟨rfl,rfl,trivial⟩
  conv=>whnf
  iterate 3 (refine dS ?_;(conv=>whnf))
  apply Exists.intro
  apply And.intro
  ·conv=>whnf
   ((conv in (_[_]?)=>tactic=>exact g1);(conv=>whnf))
   exact ⟨rfl,rfl,trivial⟩
  conv=>whnf
  iterate 4 (refine dS ?_;(conv=>whnf))
  apply Exists.intro
  apply And.intro
  ·conv=>whnf
   ((conv in (_[_]?)=>tactic=>exact g1);(conv=>whnf))
   exact ⟨rfl,rfl,trivial⟩
  conv=>whnf
  iterate 4 (refine dS ?_;(conv=>whnf))
  apply Exists.intro
  apply And.intro
  ·conv=>whnf
   ((conv in (_[_]?)=>tactic=>exact g1);(conv=>whnf))
   exact ⟨rfl,rfl,trivial⟩
  conv=>whnf
  iterate 2 (refine dS ?_;(conv=>whnf))
  exact ⟨rfl,_,rfl⟩
theorem c113 (k:List UInt8) (hk:k.length=16) (p:List UInt8) (hp:p.length≤1000000):Pure prog 113 [.agg (k.map byteC),sl p] (.int .u64 (sipV k p)) :=
 Pure.of_gc rfl fun H=>c113x k hk p hp H
def ttQ2:TT:=[(3,⟨.int .i64,1,8,[.int .i64 0]⟩),(5,⟨.int .u8,1,1,[.int .u8 0]⟩),(26,⟨.slice 5,1,24,[.slice 0 [] (some 5)]⟩),(221,⟨.arr 16 5,16,16,List.replicate 16 (.int .u8 0)⟩),(142,⟨.int .u64,1,8,[.int .u64 0]⟩),(155,⟨.int .u64,1,8,[.int .u64 0]⟩),(226,⟨.int .u32,1,4,[.int .u32 0]⟩),(227,⟨.arr 27 226,27,108,List.replicate 27 (.int .u32 0)⟩),(282,⟨.slice 226,1,24,[.slice 0 [] (some 226)]⟩),(281,⟨.arr 4 226,4,16,[.int .u32 0,.int .u32 0,.int .u32 0,.int .u32 0]⟩)]
theorem ttQ2_ok:ttOk prog ttQ2=true:=by kernel_rfl
def imm180:List Nat:=[]
def imm181:List Nat:=[]
def imm115:List Nat:=[1]
def imm179:List Nat:=[3]
def imm114:List Nat:=[3]
def right32 (x n:Int):Int:=ibits .or .u32 (ishr .u32 x n) (ishl .u32 x (IntKind.u64.wrap (32 - n)))
def left32 (x n:Int):Int:=ibits .or .u32 (ishl .u32 x n) (ishr .u32 x (IntKind.u64.wrap (32 - n)))
theorem c180' (x n:Int) (hn:0≤n):Pure prog 180 [.int .u32 x,.int .u64 n] (.int .u32 (right32 x n)):=by
 intro H
 (refine fnS (imm:=imm180) ttQ2_ok func180 ?_;(conv=>whnf))
 refine ⟨hn,?_⟩
 conv=>whnf
 refine ⟨u64_nonneg _,?_⟩
 conv=>whnf
 exact ⟨rfl,rfl⟩
theorem c181' (x n:Int) (hn:0≤n):Pure prog 181 [.int .u32 x,.int .u64 n] (.int .u32 (left32 x n)):=by
 intro H
 (refine fnS (imm:=imm181) ttQ2_ok func181 ?_;(conv=>whnf))
 refine ⟨hn,?_⟩
 conv=>whnf
 refine ⟨u64_nonneg _,?_⟩
 conv=>whnf
 exact ⟨rfl,rfl⟩
theorem or_comm32 (x y:Int):ibits .or .u32 x y=ibits .or .u32 y x:=by
 show IntKind.u32.wrap _=IntKind.u32.wrap _
 rw [BitVec.or_comm]
theorem c180 (x:Int):Pure prog 180 [.int .u32 x,.int .u64 8] (.int .u32 (rot32 x (-8))) :=
 (c180' x 8 (by decide)).of_eq (congrArg _ (by
  unfold rot32 right32
  rw [show rot32S (-8)=24 by decide,or_comm32]
  rfl))
theorem c181 (x:Int):Pure prog 181 [.int .u32 x,.int .u64 3] (.int .u32 (rot32 x 3)) :=
 (c181' x 3 (by decide)).of_eq (congrArg _ (by
  unfold rot32 left32
  rw [show rot32S 3=3 by decide]))
theorem c179 (ws:List Int) (hws:ws.length=27) (x y:Int):Pure prog 179 [.agg (ws.map u32C),.int .u32 x,.int .u32 y] (.tup [.int .u32 (spB ws (x,y)).1,.int .u32 (spB ws (x,y)).2]):=by
 intro H
 (refine fnS (imm:=imm179) ttQ2_ok func179 ?_;(conv=>whnf))
 refine loopK_of Nat (fun i=>[(3,.elem (ws.map u32C)),(1,.int .u32 (spB (ws.take i) (x,y)).1),(2,.int .u32 (spB (ws.take i) (x,y)).2),(8,.int .i64 i)]) (fun _=>H) (fun i=>i≤27) (fun i=>27 - i) ⟨0,Nat.zero_le _,⟨rfl,rfl,rfl,rfl,trivial⟩,rfl⟩ ?_
 intro i hi
 conv=>whnf
 refine ⟨fun h=>?_,fun h=>?_⟩
 ·have h:(i:Int)<27:=h
  have hi':i<ws.length:=by omega
  conv=>whnf
  refine drawK_pure2 (by kernel_rfl) ?_
  conv=>whnf
  (refine dS ?_;(conv=>whnf))
  refine ⟨_,callK_pure (c180 _) ⟨rfl,rfl,trivial⟩,?_⟩
  conv=>whnf
  iterate 3 (refine dS ?_;(conv=>whnf))
  refine ⟨.elem [u32C ws[i]],⟨⟨by omega,by show (i:Int)<((27:Nat):Int);exact h⟩,[u32C ws[i]],at1' (k:=(i:Int).toNat*1) (by rw [Int.toNat_natCast,Nat.mul_one,List.getElem?_map,List.getElem?_eq_getElem hi'];rfl),rfl,rfl,trivial⟩,?_⟩
  conv=>whnf
  iterate 3 (refine dS ?_;(conv=>whnf))
  refine callK_pure (c181 _) ?_
  conv=>whnf
  have et:spB (ws.take (i+1)) (x,y)=spR ws[i] (spB (ws.take i) (x,y)):=by rw [List.take_succ_eq_append_getElem hi',spB_snoc]
  refine ⟨i+1,by omega,⟨rfl,?_,?_,?_,trivial⟩,rfl,by omega⟩
  ·rw [et];rfl
  ·rw [et];rfl
  ·show PV.int _ (IntKind.i64.wrap ((i:Int)+1))=PV.int _ _
   rw [wrap64 (by omega) (by omega)];simp
 ·have h:¬(i:Int)<27:=h
  have e:ws.take i=ws:=List.take_of_length_le (by omega)
  rw [e]
  conv=>whnf
  exact ⟨rfl,rfl⟩
theorem agg27 (ws:List Int) (hws:ws.length=27):((dropN 0 (ws.map u32C)).take 27).map dem=ws.map u32C:=by
 rw [dropN_eq,List.drop_zero,List.take_of_length_le (by rw [List.length_map];omega),List.map_map]
 rfl
theorem c114 (k:List UInt8) (nn:Int) (n:Nat) (hn:n≤1000000):Pure prog 114 [.agg ((spW k).map u32C),.int .u64 nn,.int .i64 n] (sl (streamV k nn n)):=by
 intro H
 (refine fnS (imm:=imm114) ttQ2_ok func114 ?_;(conv=>whnf))
 refine loopK_of Nat (fun i=>[(1,.int .u64 nn),(2,.int .i64 n),(3,.elem ((spW k).map u32C)),(7,ow (strN k nn i)),(8,.int .i64 i)]) (fun _=>H) (fun i=>i≤(n+7) / 8) (fun i=>(n+7) / 8 - i) ⟨0,Nat.zero_le _,⟨rfl,rfl,rfl,rfl,rfl,trivial⟩,rfl⟩ ?_
 intro i hi
 have hsl:=strN_len k nn i
 conv=>whnf
 refine ⟨fun h=>?_,fun h=>?_⟩
 ·have h:((strN k nn i).length:Int)<n:=h
  rw [hsl] at h
  conv=>whnf
  refine ⟨by decide,?_⟩
  conv=>whnf
  have eargs:[PV.agg (((dropN 0 ((spW k).map u32C)).take 27).map dem),PV.int .u32 (IntKind.u32.wrap (ishr .u64 nn 32)),PV.int .u32 (IntKind.u32.wrap (IntKind.u32.wrap nn+IntKind.u32.wrap (i:Int)))]=[.agg ((spW k).map u32C),.int .u32 (IntKind.u32.wrap (ishr .u64 nn 32)),.int .u32 (add32 (IntKind.u32.wrap nn) i)]:=by
   rw [agg27 _ (spW_len k),wrap32 (n:=i) (by omega)];rfl
  refine callK_args eargs (callK_pure ((c179 (spW k) (spW_len k) _ _).of_eq (show _=PV.tup [.int .u32 (blkP k nn i).1,.int .u32 (blkP k nn i).2] from rfl)) ?_)
  conv=>whnf
  generalize hx:(blkP k nn i).1=x
  generalize hy:(blkP k nn i).2=y
  refine ⟨by decide,?_⟩
  conv=>whnf
  refine ⟨by decide,?_⟩
  conv=>whnf
  refine ⟨by decide,?_⟩
  conv=>whnf
  refine ⟨by decide,?_⟩
  conv=>whnf
  refine ⟨by decide,?_⟩
  conv=>whnf
  refine ⟨by decide,?_⟩
  conv=>whnf
  refine ⟨⟨by show ((strN k nn i).length+8)*1≤_;omega,rfl,rfl⟩,?_⟩
  conv=>whnf
  refine ⟨i+1,by omega,⟨rfl,rfl,rfl,?_,?_,trivial⟩,rfl,by omega⟩
  ·have e8:[PV.int .u8 (IntKind.u8.wrap x),.int .u8 (IntKind.u8.wrap (ishr .u32 x 8)),.int .u8 (IntKind.u8.wrap (ishr .u32 x 16)),.int .u8 (IntKind.u8.wrap (ishr .u32 x 24)),.int .u8 (IntKind.u8.wrap y),.int .u8 (IntKind.u8.wrap (ishr .u32 y 8)),.int .u8 (IntKind.u8.wrap (ishr .u32 y 16)),.int .u8 (IntKind.u8.wrap (ishr .u32 y 24))]=(le4 x++le4 y).map byteC:=by
    rw [List.map_append,←le4_cells,←le4_cells];rfl
   show PV.slice ((strN k nn i).length+8) ((strN k nn i).map byteC++[PV.int .u8 (IntKind.u8.wrap x),.int .u8 (IntKind.u8.wrap (ishr .u32 x 8)),.int .u8 (IntKind.u8.wrap (ishr .u32 x 16)),.int .u8 (IntKind.u8.wrap (ishr .u32 x 24)),.int .u8 (IntKind.u8.wrap y),.int .u8 (IntKind.u8.wrap (ishr .u32 y 8)),.int .u8 (IntKind.u8.wrap (ishr .u32 y 16)),.int .u8 (IntKind.u8.wrap (ishr .u32 y 24))]) (some 5)=_
   rw [e8,ow_app' _ (le4 x++le4 y) (n:=8) rfl]
   subst hx hy
   rfl
  ·show PV.int _ (IntKind.i64.wrap ((i:Int)+1))=PV.int _ _
   rw [wrap64 (by omega) (by omega)];simp
 ·have h:¬((strN k nn i).length:Int)<n:=h
  rw [hsl] at h
  have e:i=(n+7) / 8:=by omega
  conv=>whnf
  have hmax:max (n:Int) 0=(n:Int):=by omega
  refine ⟨⟨by decide,by rw [hmax];omega,by rw [hmax];omega⟩,?_⟩
  conv=>whnf
  refine ⟨?_,rfl⟩
  have ec:=sl_cut2 (strN k nn i) 0 n ⟨by omega,by omega,by omega⟩
  show PV.slice ((max (n:Int) 0).toNat - (0:Int).toNat) ((((strN k nn i).map byteC).take ((max (n:Int) 0).toNat*1)).drop ((0:Int).toNat*1)) none=_
  rw [hmax]
  refine ec.trans ?_
  rw [Int.toNat_natCast,e]
  rfl
set_option maxHeartbeats 4000000
def D115_5:Draw:={ imp:=[17],win:=[] }
def D115_12:Draw:={ cons:=[(14,[6]),(15,[57])],imp:=[],win:=[],fs:=[(0,14,.slot 6)],looks:=[(0,6)] }
def D115_13:Draw:={ imp:=[13],win:=[] }
def z27:List Int:=List.replicate 27 0
theorem spN_c (k:List UInt8) (i:Nat):(spN k i).c=(spN k (i+1)).b:=by rw [spN]
theorem spN_d' (k:List UInt8) (i:Nat):(spN k i).d=(spN k (i+1)).c:=by rw [spN]
theorem spN_d (k:List UInt8) (i:Nat):(spN k i).d=(spN k (i+2)).b:=by rw [spN_d',spN_c]
theorem spN_next (k:List UInt8) (i:Nat):(spN k (i+1)).d=xor32 (add32 (spN k i).a (rot32 (spN k i).b (-8))) (IntKind.u32.wrap (i:Int)):=by rw [spN]
theorem spN_a (k:List UInt8) (i:Nat):(spN k (i+1)).a=xor32 (rot32 (spN k i).a 3) (spN k (i+1)).d:=by rw [spN]
def spL2 (k:List UInt8) (i:Nat):List Int:=(List.range (i+3)).map fun j=>(spN k j).b
theorem spN_zero (k:List UInt8):spN k 0=wN k 16:=by rw [spN]
theorem spL2_zero (k:List UInt8):spL2 k 0=[(wN k 16).b,(wN k 16).c,(wN k 16).d]:=by
 rw [←spN_zero,spN_c,spN_d]
 generalize hb:(fun j=>(spN k j).b)=f
 have e:∀j,(spN k j).b=f j:=fun j=>by rw [←hb]
 unfold spL2
 rw [hb,e,e,e]
 rfl
theorem spL_one (k:List UInt8):spL k z27 (0+1)=(wN k 16).a::z27.drop 1:=by
 rw [←spN_zero]
 generalize hb:(fun j=>(spN k j).a)=f
 have e:(spN k 0).a=f 0:=by rw [←hb]
 unfold spL
 rw [hb,e]
 rfl
theorem spL2_len (k:List UInt8) (i:Nat):(spL2 k i).length=i+3:=by unfold spL2;simp
theorem spL2_get (k:List UInt8) (i j:Nat) (h:j<i+3):(spL2 k i)[j]? = some (spN k j).b:=by
 unfold spL2
 rw [List.getElem?_map,List.getElem?_range h];rfl
theorem spL2_succ (k:List UInt8) (i:Nat):spL2 k (i+1)=spL2 k i++[(spN k (i+3)).b]:=by
 unfold spL2
 rw [show i+1+3=(i+3)+1 by omega,List.range_succ,List.map_append];rfl
theorem spL_at (k:List UInt8) (i j:Nat) (hi:i≤27) (h:j<i):(spL k z27 i)[j]? = some (spN k j).a:=by
 unfold spL
 rw [List.getElem?_append_left (by simp;omega),List.getElem?_map,List.getElem?_range h];rfl
theorem drop_u32 {l:List Int} {j:Nat} {x:Int} (h:l[j]? = some x):∃r,dropN (0+(j:Int).toNat*1) (l.map u32C)=u32C x::r:=by
 have hlt:=(List.getElem?_eq_some_iff.1 h).1
 refine ⟨(l.drop (j+1)).map u32C,?_⟩
 rw [dropN_eq,Int.toNat_natCast,Nat.mul_one,Nat.zero_add,←List.map_drop,List.drop_eq_getElem_cons hlt,(List.getElem?_eq_some_iff.1 h).2];rfl
theorem ext_of {H K:PH} (hl:H.length≤K.length) (hf:∀j,j<H.length→K[j]? = H[j]?):∃ext,K=H++ext:=⟨K.drop H.length,List.ext_getElem? fun j=>by
 by_cases h:j<H.length
 ·rw [List.getElem?_append_left h];exact hf j h
 ·rw [List.getElem?_append_right (by omega),List.getElem?_drop]
  congr 1;omega⟩
theorem c115x (k:List UInt8) (hk:k.length=16) (H:PH):CallOk prog 115 [.agg (k.map byteC)] H fun r H'=>r=.agg ((spW k).map u32C)∧∃ext,H'=H++ext:=by
 obtain ⟨k0,k1,k2,k3,k4,k5,k6,k7,k8,k9,ka,kb,kc,kd,ke,kf,rfl⟩:=len16 hk
 obtain ⟨kk,hkk⟩:∃kk:List UInt8,kk=[k0,k1,k2,k3,k4,k5,k6,k7,k8,k9,ka,kb,kc,kd,ke,kf]:=⟨_,rfl⟩
 rw [←hkk]
 (refine fnS (imm:=imm115) ttQ2_ok func115 ?_;(conv=>whnf))
 obtain ⟨H1,hH1⟩:∃H1:PH,H1=H++[⟨227,z27.map u32C,0⟩]:=⟨_,rfl⟩
 have hl1:H1.length=H.length+1:=by rw [hH1];simp
 have hr1:H1[H.length]? = some ⟨227,z27.map u32C,0⟩:=by rw [hH1];exact get_last H _
 refine loopK_of Nat (fun x=>[(1,.elem (kk.map byteC)),(2,.ptr (some (H.length,0))),(3,.ptr (some (H1.length,0))),(4,.int .i64 x)]) (fun x=>H1++[(wN kk x).O4 x]) (fun x=>x≤16) (fun x=>16 - x) ⟨0,Nat.zero_le _,⟨rfl,rfl,?_,rfl,trivial⟩,?_⟩ ?_
 ·subst hH1;rfl
 ·subst hH1;rfl
 intro i hi
 match i,hi with
 | 0,_ =>
  conv=>whnf
  refine ⟨fun _=>?_,fun h=>absurd (show ((0:Nat):Int)<16 by decide) h⟩
  conv=>whnf
  generalize hz:wN kk 0=z
  refine drawK_of2 D115_5 [H1++[z.O4 0],H1++[S4.O4 { z with a:=orB z.a k0 0 } 1]] (by kernel_rfl) rfl trivial ?_
  conv=>whnf
  (refine dS ?_;(conv=>whnf))
  apply Exists.intro
  apply And.intro
  ·conv=>whnf
   exact oD
  conv=>whnf
  (refine dS ?_;(conv=>whnf))
  apply Exists.intro
  apply And.intro
  ·conv=>whnf
   exact oD
  conv=>whnf
  apply Exists.intro
  apply And.intro
  ·conv=>whnf
   exact oD
  conv=>whnf
  apply Exists.intro
  apply And.intro
  ·conv=>whnf
   ((conv in (_[_]?)=>tactic=>exact (z.look4 0 H1));(conv=>whnf))
   exact ⟨rfl,rfl,trivial⟩
  conv=>whnf
  (refine dS ?_;(conv=>whnf))
  refine ⟨.elem [byteC k0],⟨⟨by decide,by decide⟩,[byteC k0],at1' (k:=0) (by rw [hkk];rfl),rfl,rfl,trivial⟩,?_⟩
  conv=>whnf
  iterate 3 (refine dS ?_;(conv=>whnf))
  apply Exists.intro
  apply And.intro
  ·conv=>whnf
   exact oD
  conv=>whnf
  iterate 2 (refine dS ?_;(conv=>whnf))
  apply Exists.intro
  apply And.intro
  ·conv=>whnf
   exact oD
  conv=>whnf
  (refine dS ?_;(conv=>whnf))
  apply Exists.intro
  apply And.intro
  ·conv=>whnf
   exact oD
  conv=>whnf
  apply Exists.intro
  apply And.intro
  ·conv=>whnf
   ((conv in (_[_]?)=>tactic=>exact (z.look4 0 H1));(conv=>whnf))
   exact ⟨rfl,set_last H1 _ _,trivial⟩
  conv=>whnf
  refine ⟨1,by decide,⟨rfl,rfl,rfl,rfl,trivial⟩,?_,by decide⟩
  subst hz hkk
  rfl
 | 1,_ =>
  conv=>whnf
  refine ⟨fun _=>?_,fun h=>absurd (show ((1:Nat):Int)<16 by decide) h⟩
  conv=>whnf
  generalize hz:wN kk 1=z
  refine drawK_of2 D115_5 [H1++[z.O4 1],H1++[S4.O4 { z with a:=orB z.a k1 8 } 2]] (by kernel_rfl) rfl trivial ?_
  conv=>whnf
  (refine dS ?_;(conv=>whnf))
  apply Exists.intro
  apply And.intro
  ·conv=>whnf
   exact oD
  conv=>whnf
  (refine dS ?_;(conv=>whnf))
  apply Exists.intro
  apply And.intro
  ·conv=>whnf
   exact oD
  conv=>whnf
  apply Exists.intro
  apply And.intro
  ·conv=>whnf
   exact oD
  conv=>whnf
  apply Exists.intro
  apply And.intro
  ·conv=>whnf
   ((conv in (_[_]?)=>tactic=>exact (z.look4 1 H1));(conv=>whnf))
   exact ⟨rfl,rfl,trivial⟩
  conv=>whnf
  (refine dS ?_;(conv=>whnf))
  refine ⟨.elem [byteC k1],⟨⟨by decide,by decide⟩,[byteC k1],at1' (k:=1) (by rw [hkk];rfl),rfl,rfl,trivial⟩,?_⟩
  conv=>whnf
  iterate 3 (refine dS ?_;(conv=>whnf))
  apply Exists.intro
  apply And.intro
  ·conv=>whnf
   exact oD
  conv=>whnf
  iterate 2 (refine dS ?_;(conv=>whnf))
  apply Exists.intro
  apply And.intro
  ·conv=>whnf
   exact oD
  conv=>whnf
  (refine dS ?_;(conv=>whnf))
  apply Exists.intro
  apply And.intro
  ·conv=>whnf
   exact oD
  conv=>whnf
  apply Exists.intro
  apply And.intro
  ·conv=>whnf
   ((conv in (_[_]?)=>tactic=>exact (z.look4 1 H1));(conv=>whnf))
   exact ⟨rfl,set_last H1 _ _,trivial⟩
  conv=>whnf
  refine ⟨2,by decide,⟨rfl,rfl,rfl,rfl,trivial⟩,?_,by decide⟩
  subst hz hkk
  rfl
 | 2,_ =>
  conv=>whnf
  refine ⟨fun _=>?_,fun h=>absurd (show ((2:Nat):Int)<16 by decide) h⟩
  conv=>whnf
  generalize hz:wN kk 2=z
  refine drawK_of2 D115_5 [H1++[z.O4 2],H1++[S4.O4 { z with a:=orB z.a k2 16 } 3]] (by kernel_rfl) rfl trivial ?_
  conv=>whnf
  (refine dS ?_;(conv=>whnf))
  apply Exists.intro
  apply And.intro
  ·conv=>whnf
   exact oD
  conv=>whnf
  (refine dS ?_;(conv=>whnf))
  apply Exists.intro
  apply And.intro
  ·conv=>whnf
   exact oD
  conv=>whnf
  apply Exists.intro
  apply And.intro
  ·conv=>whnf
   exact oD
  conv=>whnf
  apply Exists.intro
  apply And.intro
  ·conv=>whnf
   ((conv in (_[_]?)=>tactic=>exact (z.look4 2 H1));(conv=>whnf))
   exact ⟨rfl,rfl,trivial⟩
  conv=>whnf
  (refine dS ?_;(conv=>whnf))
  refine ⟨.elem [byteC k2],⟨⟨by decide,by decide⟩,[byteC k2],at1' (k:=2) (by rw [hkk];rfl),rfl,rfl,trivial⟩,?_⟩
  conv=>whnf
  iterate 3 (refine dS ?_;(conv=>whnf))
  apply Exists.intro
  apply And.intro
  ·conv=>whnf
   exact oD
  conv=>whnf
  iterate 2 (refine dS ?_;(conv=>whnf))
  apply Exists.intro
  apply And.intro
  ·conv=>whnf
   exact oD
  conv=>whnf
  (refine dS ?_;(conv=>whnf))
  apply Exists.intro
  apply And.intro
  ·conv=>whnf
   exact oD
  conv=>whnf
  apply Exists.intro
  apply And.intro
  ·conv=>whnf
   ((conv in (_[_]?)=>tactic=>exact (z.look4 2 H1));(conv=>whnf))
   exact ⟨rfl,set_last H1 _ _,trivial⟩
  conv=>whnf
  refine ⟨3,by decide,⟨rfl,rfl,rfl,rfl,trivial⟩,?_,by decide⟩
  subst hz hkk
  rfl
 | 3,_ =>
  conv=>whnf
  refine ⟨fun _=>?_,fun h=>absurd (show ((3:Nat):Int)<16 by decide) h⟩
  conv=>whnf
  generalize hz:wN kk 3=z
  refine drawK_of2 D115_5 [H1++[z.O4 3],H1++[S4.O4 { z with a:=orB z.a k3 24 } 4]] (by kernel_rfl) rfl trivial ?_
  conv=>whnf
  (refine dS ?_;(conv=>whnf))
  apply Exists.intro
  apply And.intro
  ·conv=>whnf
   exact oD
  conv=>whnf
  (refine dS ?_;(conv=>whnf))
  apply Exists.intro
  apply And.intro
  ·conv=>whnf
   exact oD
  conv=>whnf
  apply Exists.intro
  apply And.intro
  ·conv=>whnf
   exact oD
  conv=>whnf
  apply Exists.intro
  apply And.intro
  ·conv=>whnf
   ((conv in (_[_]?)=>tactic=>exact (z.look4 3 H1));(conv=>whnf))
   exact ⟨rfl,rfl,trivial⟩
  conv=>whnf
  (refine dS ?_;(conv=>whnf))
  refine ⟨.elem [byteC k3],⟨⟨by decide,by decide⟩,[byteC k3],at1' (k:=3) (by rw [hkk];rfl),rfl,rfl,trivial⟩,?_⟩
  conv=>whnf
  iterate 3 (refine dS ?_;(conv=>whnf))
  apply Exists.intro
  apply And.intro
  ·conv=>whnf
   exact oD
  conv=>whnf
  iterate 2 (refine dS ?_;(conv=>whnf))
  apply Exists.intro
  apply And.intro
  ·conv=>whnf
   exact oD
  conv=>whnf
  (refine dS ?_;(conv=>whnf))
  apply Exists.intro
  apply And.intro
  ·conv=>whnf
   exact oD
  conv=>whnf
  apply Exists.intro
  apply And.intro
  ·conv=>whnf
   ((conv in (_[_]?)=>tactic=>exact (z.look4 3 H1));(conv=>whnf))
   exact ⟨rfl,set_last H1 _ _,trivial⟩
  conv=>whnf
  refine ⟨4,by decide,⟨rfl,rfl,rfl,rfl,trivial⟩,?_,by decide⟩
  subst hz hkk
  rfl
 | 4,_ =>
  conv=>whnf
  refine ⟨fun _=>?_,fun h=>absurd (show ((4:Nat):Int)<16 by decide) h⟩
  conv=>whnf
  generalize hz:wN kk 4=z
  refine drawK_of2 D115_5 [H1++[z.O4 4],H1++[S4.O4 { z with b:=orB z.b k4 0 } 5]] (by kernel_rfl) rfl trivial ?_
  conv=>whnf
  (refine dS ?_;(conv=>whnf))
  apply Exists.intro
  apply And.intro
  ·conv=>whnf
   exact oD
  conv=>whnf
  (refine dS ?_;(conv=>whnf))
  apply Exists.intro
  apply And.intro
  ·conv=>whnf
   exact oD
  conv=>whnf
  apply Exists.intro
  apply And.intro
  ·conv=>whnf
   exact oD
  conv=>whnf
  apply Exists.intro
  apply And.intro
  ·conv=>whnf
   ((conv in (_[_]?)=>tactic=>exact (z.look4 4 H1));(conv=>whnf))
   exact ⟨rfl,rfl,trivial⟩
  conv=>whnf
  (refine dS ?_;(conv=>whnf))
  refine ⟨.elem [byteC k4],⟨⟨by decide,by decide⟩,[byteC k4],at1' (k:=4) (by rw [hkk];rfl),rfl,rfl,trivial⟩,?_⟩
  conv=>whnf
  iterate 3 (refine dS ?_;(conv=>whnf))
  apply Exists.intro
  apply And.intro
  ·conv=>whnf
   exact oD
  conv=>whnf
  iterate 2 (refine dS ?_;(conv=>whnf))
  apply Exists.intro
  apply And.intro
  ·conv=>whnf
   exact oD
  conv=>whnf
  (refine dS ?_;(conv=>whnf))
  apply Exists.intro
  apply And.intro
  ·conv=>whnf
   exact oD
  conv=>whnf
  apply Exists.intro
  apply And.intro
  ·conv=>whnf
   ((conv in (_[_]?)=>tactic=>exact (z.look4 4 H1));(conv=>whnf))
   exact ⟨rfl,set_last H1 _ _,trivial⟩
  conv=>whnf
  refine ⟨5,by decide,⟨rfl,rfl,rfl,rfl,trivial⟩,?_,by decide⟩
  subst hz hkk
  rfl
 | 5,_ =>
  conv=>whnf
  refine ⟨fun _=>?_,fun h=>absurd (show ((5:Nat):Int)<16 by decide) h⟩
  conv=>whnf
  generalize hz:wN kk 5=z
  refine drawK_of2 D115_5 [H1++[z.O4 5],H1++[S4.O4 { z with b:=orB z.b k5 8 } 6]] (by kernel_rfl) rfl trivial ?_
  conv=>whnf
  (refine dS ?_;(conv=>whnf))
  apply Exists.intro
  apply And.intro
  ·conv=>whnf
   exact oD
  conv=>whnf
  (refine dS ?_;(conv=>whnf))
  apply Exists.intro
  apply And.intro
  ·conv=>whnf
   exact oD
  conv=>whnf
  apply Exists.intro
  apply And.intro
  ·conv=>whnf
   exact oD
  conv=>whnf
  apply Exists.intro
  apply And.intro
  ·conv=>whnf
   ((conv in (_[_]?)=>tactic=>exact (z.look4 5 H1));(conv=>whnf))
   exact ⟨rfl,rfl,trivial⟩
  conv=>whnf
  (refine dS ?_;(conv=>whnf))
  refine ⟨.elem [byteC k5],⟨⟨by decide,by decide⟩,[byteC k5],at1' (k:=5) (by rw [hkk];rfl),rfl,rfl,trivial⟩,?_⟩
  conv=>whnf
  iterate 3 (refine dS ?_;(conv=>whnf))
  apply Exists.intro
  apply And.intro
  ·conv=>whnf
   exact oD
  conv=>whnf
  iterate 2 (refine dS ?_;(conv=>whnf))
  apply Exists.intro
  apply And.intro
  ·conv=>whnf
   exact oD
  conv=>whnf
  (refine dS ?_;(conv=>whnf))
  apply Exists.intro
  apply And.intro
  ·conv=>whnf
   exact oD
  conv=>whnf
  apply Exists.intro
  apply And.intro
  ·conv=>whnf
   ((conv in (_[_]?)=>tactic=>exact (z.look4 5 H1));(conv=>whnf))
   exact ⟨rfl,set_last H1 _ _,trivial⟩
  conv=>whnf
  refine ⟨6,by decide,⟨rfl,rfl,rfl,rfl,trivial⟩,?_,by decide⟩
  subst hz hkk
  rfl
 | 6,_ =>
  conv=>whnf
  refine ⟨fun _=>?_,fun h=>absurd (show ((6:Nat):Int)<16 by decide) h⟩
  conv=>whnf
  generalize hz:wN kk 6=z
  refine drawK_of2 D115_5 [H1++[z.O4 6],H1++[S4.O4 { z with b:=orB z.b k6 16 } 7]] (by kernel_rfl) rfl trivial ?_
  conv=>whnf
  (refine dS ?_;(conv=>whnf))
  apply Exists.intro
  apply And.intro
  ·conv=>whnf
   exact oD
  conv=>whnf
  (refine dS ?_;(conv=>whnf))
  apply Exists.intro
  apply And.intro
  ·conv=>whnf
   exact oD
  conv=>whnf
  apply Exists.intro
  apply And.intro
  ·conv=>whnf
   exact oD
  conv=>whnf
  apply Exists.intro
  apply And.intro
  ·conv=>whnf
   ((conv in (_[_]?)=>tactic=>exact (z.look4 6 H1));(conv=>whnf))
   exact ⟨rfl,rfl,trivial⟩
  conv=>whnf
  (refine dS ?_;(conv=>whnf))
  refine ⟨.elem [byteC k6],⟨⟨by decide,by decide⟩,[byteC k6],at1' (k:=6) (by rw [hkk];rfl),rfl,rfl,trivial⟩,?_⟩
  conv=>whnf
  iterate 3 (refine dS ?_;(conv=>whnf))
  apply Exists.intro
  apply And.intro
  ·conv=>whnf
   exact oD
  conv=>whnf
  iterate 2 (refine dS ?_;(conv=>whnf))
  apply Exists.intro
  apply And.intro
  ·conv=>whnf
   exact oD
  conv=>whnf
  (refine dS ?_;(conv=>whnf))
  apply Exists.intro
  apply And.intro
  ·conv=>whnf
   exact oD
  conv=>whnf
  apply Exists.intro
  apply And.intro
  ·conv=>whnf
   ((conv in (_[_]?)=>tactic=>exact (z.look4 6 H1));(conv=>whnf))
   exact ⟨rfl,set_last H1 _ _,trivial⟩
  conv=>whnf
  refine ⟨7,by decide,⟨rfl,rfl,rfl,rfl,trivial⟩,?_,by decide⟩
  subst hz hkk
  rfl
 | 7,_ =>
  conv=>whnf
  refine ⟨fun _=>?_,fun h=>absurd (show ((7:Nat):Int)<16 by decide) h⟩
  conv=>whnf
  generalize hz:wN kk 7=z
  refine drawK_of2 D115_5 [H1++[z.O4 7],H1++[S4.O4 { z with b:=orB z.b k7 24 } 8]] (by kernel_rfl) rfl trivial ?_
  conv=>whnf
  (refine dS ?_;(conv=>whnf))
  apply Exists.intro
  apply And.intro
  ·conv=>whnf
   exact oD
  conv=>whnf
  (refine dS ?_;(conv=>whnf))
  apply Exists.intro
  apply And.intro
  ·conv=>whnf
   exact oD
  conv=>whnf
  apply Exists.intro
  apply And.intro
  ·conv=>whnf
   exact oD
  conv=>whnf
  apply Exists.intro
  apply And.intro
  ·conv=>whnf
   ((conv in (_[_]?)=>tactic=>exact (z.look4 7 H1));(conv=>whnf))
   exact ⟨rfl,rfl,trivial⟩
  conv=>whnf
  (refine dS ?_;(conv=>whnf))
  refine ⟨.elem [byteC k7],⟨⟨by decide,by decide⟩,[byteC k7],at1' (k:=7) (by rw [hkk];rfl),rfl,rfl,trivial⟩,?_⟩
  conv=>whnf
  iterate 3 (refine dS ?_;(conv=>whnf))
  apply Exists.intro
  apply And.intro
  ·conv=>whnf
   exact oD
  conv=>whnf
  iterate 2 (refine dS ?_;(conv=>whnf))
  apply Exists.intro
  apply And.intro
  ·conv=>whnf
   exact oD
  conv=>whnf
  (refine dS ?_;(conv=>whnf))
  apply Exists.intro
  apply And.intro
  ·conv=>whnf
   exact oD
  conv=>whnf
  apply Exists.intro
  apply And.intro
  ·conv=>whnf
   ((conv in (_[_]?)=>tactic=>exact (z.look4 7 H1));(conv=>whnf))
   exact ⟨rfl,set_last H1 _ _,trivial⟩
  conv=>whnf
  refine ⟨8,by decide,⟨rfl,rfl,rfl,rfl,trivial⟩,?_,by decide⟩
  subst hz hkk
  rfl
 | 8,_ =>
  conv=>whnf
  refine ⟨fun _=>?_,fun h=>absurd (show ((8:Nat):Int)<16 by decide) h⟩
  conv=>whnf
  generalize hz:wN kk 8=z
  refine drawK_of2 D115_5 [H1++[z.O4 8],H1++[S4.O4 { z with c:=orB z.c k8 0 } 9]] (by kernel_rfl) rfl trivial ?_
  conv=>whnf
  (refine dS ?_;(conv=>whnf))
  apply Exists.intro
  apply And.intro
  ·conv=>whnf
   exact oD
  conv=>whnf
  (refine dS ?_;(conv=>whnf))
  apply Exists.intro
  apply And.intro
  ·conv=>whnf
   exact oD
  conv=>whnf
  apply Exists.intro
  apply And.intro
  ·conv=>whnf
   exact oD
  conv=>whnf
  apply Exists.intro
  apply And.intro
  ·conv=>whnf
   ((conv in (_[_]?)=>tactic=>exact (z.look4 8 H1));(conv=>whnf))
   exact ⟨rfl,rfl,trivial⟩
  conv=>whnf
  (refine dS ?_;(conv=>whnf))
  refine ⟨.elem [byteC k8],⟨⟨by decide,by decide⟩,[byteC k8],at1' (k:=8) (by rw [hkk];rfl),rfl,rfl,trivial⟩,?_⟩
  conv=>whnf
  iterate 3 (refine dS ?_;(conv=>whnf))
  apply Exists.intro
  apply And.intro
  ·conv=>whnf
   exact oD
  conv=>whnf
  iterate 2 (refine dS ?_;(conv=>whnf))
  apply Exists.intro
  apply And.intro
  ·conv=>whnf
   exact oD
  conv=>whnf
  (refine dS ?_;(conv=>whnf))
  apply Exists.intro
  apply And.intro
  ·conv=>whnf
   exact oD
  conv=>whnf
  apply Exists.intro
  apply And.intro
  ·conv=>whnf
   ((conv in (_[_]?)=>tactic=>exact (z.look4 8 H1));(conv=>whnf))
   exact ⟨rfl,set_last H1 _ _,trivial⟩
  conv=>whnf
  refine ⟨9,by decide,⟨rfl,rfl,rfl,rfl,trivial⟩,?_,by decide⟩
  subst hz hkk
  rfl
 | 9,_ =>
  conv=>whnf
  refine ⟨fun _=>?_,fun h=>absurd (show ((9:Nat):Int)<16 by decide) h⟩
  conv=>whnf
  generalize hz:wN kk 9=z
  refine drawK_of2 D115_5 [H1++[z.O4 9],H1++[S4.O4 { z with c:=orB z.c k9 8 } 10]] (by kernel_rfl) rfl trivial ?_
  conv=>whnf
  (refine dS ?_;(conv=>whnf))
  apply Exists.intro
  apply And.intro
  ·conv=>whnf
   exact oD
  conv=>whnf
  (refine dS ?_;(conv=>whnf))
  apply Exists.intro
  apply And.intro
  ·conv=>whnf
   exact oD
  conv=>whnf
  apply Exists.intro
  apply And.intro
  ·conv=>whnf
   exact oD
  conv=>whnf
  apply Exists.intro
  apply And.intro
  ·conv=>whnf
   ((conv in (_[_]?)=>tactic=>exact (z.look4 9 H1));(conv=>whnf))
   exact ⟨rfl,rfl,trivial⟩
  conv=>whnf
  (refine dS ?_;(conv=>whnf))
  refine ⟨.elem [byteC k9],⟨⟨by decide,by decide⟩,[byteC k9],at1' (k:=9) (by rw [hkk];rfl),rfl,rfl,trivial⟩,?_⟩
  conv=>whnf
  iterate 3 (refine dS ?_;(conv=>whnf))
  apply Exists.intro
  apply And.intro
  ·conv=>whnf
   exact oD
  conv=>whnf
  iterate 2 (refine dS ?_;(conv=>whnf))
  apply Exists.intro
  apply And.intro
  ·conv=>whnf
   exact oD
  conv=>whnf
  (refine dS ?_;(conv=>whnf))
  apply Exists.intro
  apply And.intro
  ·conv=>whnf
   exact oD
  conv=>whnf
  apply Exists.intro
  apply And.intro
  ·conv=>whnf
   ((conv in (_[_]?)=>tactic=>exact (z.look4 9 H1));(conv=>whnf))
   exact ⟨rfl,set_last H1 _ _,trivial⟩
  conv=>whnf
  refine ⟨10,by decide,⟨rfl,rfl,rfl,rfl,trivial⟩,?_,by decide⟩
  subst hz hkk
  rfl
 | 10,_ =>
  conv=>whnf
  refine ⟨fun _=>?_,fun h=>absurd (show ((10:Nat):Int)<16 by decide) h⟩
  conv=>whnf
  generalize hz:wN kk 10=z
  refine drawK_of2 D115_5 [H1++[z.O4 10],H1++[S4.O4 { z with c:=orB z.c ka 16 } 11]] (by kernel_rfl) rfl trivial ?_
  conv=>whnf
  (refine dS ?_;(conv=>whnf))
  apply Exists.intro
  apply And.intro
  ·conv=>whnf
   exact oD
  conv=>whnf
  (refine dS ?_;(conv=>whnf))
  apply Exists.intro
  apply And.intro
  ·conv=>whnf
   exact oD
  conv=>whnf
  apply Exists.intro
  apply And.intro
  ·conv=>whnf
   exact oD
  conv=>whnf
  apply Exists.intro
  apply And.intro
  ·conv=>whnf
   ((conv in (_[_]?)=>tactic=>exact (z.look4 10 H1));(conv=>whnf))
   exact ⟨rfl,rfl,trivial⟩
  conv=>whnf
  (refine dS ?_;(conv=>whnf))
  refine ⟨.elem [byteC ka],⟨⟨by decide,by decide⟩,[byteC ka],at1' (k:=10) (by rw [hkk];rfl),rfl,rfl,trivial⟩,?_⟩
  conv=>whnf
  iterate 3 (refine dS ?_;(conv=>whnf))
  apply Exists.intro
  apply And.intro
  ·conv=>whnf
   exact oD
  conv=>whnf
  iterate 2 (refine dS ?_;(conv=>whnf))
  apply Exists.intro
  apply And.intro
  ·conv=>whnf
   exact oD
  conv=>whnf
  (refine dS ?_;(conv=>whnf))
  apply Exists.intro
  apply And.intro
  ·conv=>whnf
   exact oD
  conv=>whnf
  apply Exists.intro
  apply And.intro
  ·conv=>whnf
   ((conv in (_[_]?)=>tactic=>exact (z.look4 10 H1));(conv=>whnf))
   exact ⟨rfl,set_last H1 _ _,trivial⟩
  conv=>whnf
  refine ⟨11,by decide,⟨rfl,rfl,rfl,rfl,trivial⟩,?_,by decide⟩
  subst hz hkk
  rfl
 | 11,_ =>
  conv=>whnf
  refine ⟨fun _=>?_,fun h=>absurd (show ((11:Nat):Int)<16 by decide) h⟩
  conv=>whnf
  generalize hz:wN kk 11=z
  refine drawK_of2 D115_5 [H1++[z.O4 11],H1++[S4.O4 { z with c:=orB z.c kb 24 } 12]] (by kernel_rfl) rfl trivial ?_
  conv=>whnf
  (refine dS ?_;(conv=>whnf))
  apply Exists.intro
  apply And.intro
  ·conv=>whnf
   exact oD
  conv=>whnf
  (refine dS ?_;(conv=>whnf))
  apply Exists.intro
  apply And.intro
  ·conv=>whnf
   exact oD
  conv=>whnf
  apply Exists.intro
  apply And.intro
  ·conv=>whnf
   exact oD
  conv=>whnf
  apply Exists.intro
  apply And.intro
  ·conv=>whnf
   ((conv in (_[_]?)=>tactic=>exact (z.look4 11 H1));(conv=>whnf))
   exact ⟨rfl,rfl,trivial⟩
  conv=>whnf
  (refine dS ?_;(conv=>whnf))
  refine ⟨.elem [byteC kb],⟨⟨by decide,by decide⟩,[byteC kb],at1' (k:=11) (by rw [hkk];rfl),rfl,rfl,trivial⟩,?_⟩
  conv=>whnf
  iterate 3 (refine dS ?_;(conv=>whnf))
  apply Exists.intro
  apply And.intro
  ·conv=>whnf
   exact oD
  conv=>whnf
  iterate 2 (refine dS ?_;(conv=>whnf))
  apply Exists.intro
  apply And.intro
  ·conv=>whnf
   exact oD
  conv=>whnf
  (refine dS ?_;(conv=>whnf))
  apply Exists.intro
  apply And.intro
  ·conv=>whnf
   exact oD
  conv=>whnf
  apply Exists.intro
  apply And.intro
  ·conv=>whnf
   ((conv in (_[_]?)=>tactic=>exact (z.look4 11 H1));(conv=>whnf))
   exact ⟨rfl,set_last H1 _ _,trivial⟩
  conv=>whnf
  refine ⟨12,by decide,⟨rfl,rfl,rfl,rfl,trivial⟩,?_,by decide⟩
  subst hz hkk
  rfl
 | 12,_ =>
  conv=>whnf
  refine ⟨fun _=>?_,fun h=>absurd (show ((12:Nat):Int)<16 by decide) h⟩
  conv=>whnf
  generalize hz:wN kk 12=z
  refine drawK_of2 D115_5 [H1++[z.O4 12],H1++[S4.O4 { z with d:=orB z.d kc 0 } 13]] (by kernel_rfl) rfl trivial ?_
  conv=>whnf
  (refine dS ?_;(conv=>whnf))
  apply Exists.intro
  apply And.intro
  ·conv=>whnf
   exact oD
  conv=>whnf
  (refine dS ?_;(conv=>whnf))
  apply Exists.intro
  apply And.intro
  ·conv=>whnf
   exact oD
  conv=>whnf
  apply Exists.intro
  apply And.intro
  ·conv=>whnf
   exact oD
  conv=>whnf
  apply Exists.intro
  apply And.intro
  ·conv=>whnf
   ((conv in (_[_]?)=>tactic=>exact (z.look4 12 H1));(conv=>whnf))
   exact ⟨rfl,rfl,trivial⟩
  conv=>whnf
  (refine dS ?_;(conv=>whnf))
  refine ⟨.elem [byteC kc],⟨⟨by decide,by decide⟩,[byteC kc],at1' (k:=12) (by rw [hkk];rfl),rfl,rfl,trivial⟩,?_⟩
  conv=>whnf
  iterate 3 (refine dS ?_;(conv=>whnf))
  apply Exists.intro
  apply And.intro
  ·conv=>whnf
   exact oD
  conv=>whnf
  iterate 2 (refine dS ?_;(conv=>whnf))
  apply Exists.intro
  apply And.intro
  ·conv=>whnf
   exact oD
  conv=>whnf
  (refine dS ?_;(conv=>whnf))
  apply Exists.intro
  apply And.intro
  ·conv=>whnf
   exact oD
  conv=>whnf
  apply Exists.intro
  apply And.intro
  ·conv=>whnf
   ((conv in (_[_]?)=>tactic=>exact (z.look4 12 H1));(conv=>whnf))
   exact ⟨rfl,set_last H1 _ _,trivial⟩
  conv=>whnf
  refine ⟨13,by decide,⟨rfl,rfl,rfl,rfl,trivial⟩,?_,by decide⟩
  subst hz hkk
  rfl
 | 13,_ =>
  conv=>whnf
  refine ⟨fun _=>?_,fun h=>absurd (show ((13:Nat):Int)<16 by decide) h⟩
  conv=>whnf
  generalize hz:wN kk 13=z
  refine drawK_of2 D115_5 [H1++[z.O4 13],H1++[S4.O4 { z with d:=orB z.d kd 8 } 14]] (by kernel_rfl) rfl trivial ?_
  conv=>whnf
  (refine dS ?_;(conv=>whnf))
  apply Exists.intro
  apply And.intro
  ·conv=>whnf
   exact oD
  conv=>whnf
  (refine dS ?_;(conv=>whnf))
  apply Exists.intro
  apply And.intro
  ·conv=>whnf
   exact oD
  conv=>whnf
  apply Exists.intro
  apply And.intro
  ·conv=>whnf
   exact oD
  conv=>whnf
  apply Exists.intro
  apply And.intro
  ·conv=>whnf
   ((conv in (_[_]?)=>tactic=>exact (z.look4 13 H1));(conv=>whnf))
   exact ⟨rfl,rfl,trivial⟩
  conv=>whnf
  (refine dS ?_;(conv=>whnf))
  refine ⟨.elem [byteC kd],⟨⟨by decide,by decide⟩,[byteC kd],at1' (k:=13) (by rw [hkk];rfl),rfl,rfl,trivial⟩,?_⟩
  conv=>whnf
  iterate 3 (refine dS ?_;(conv=>whnf))
  apply Exists.intro
  apply And.intro
  ·conv=>whnf
   exact oD
  conv=>whnf
  iterate 2 (refine dS ?_;(conv=>whnf))
  apply Exists.intro
  apply And.intro
  ·conv=>whnf
   exact oD
  conv=>whnf
  (refine dS ?_;(conv=>whnf))
  apply Exists.intro
  apply And.intro
  ·conv=>whnf
   exact oD
  conv=>whnf
  apply Exists.intro
  apply And.intro
  ·conv=>whnf
   ((conv in (_[_]?)=>tactic=>exact (z.look4 13 H1));(conv=>whnf))
   exact ⟨rfl,set_last H1 _ _,trivial⟩
  conv=>whnf
  refine ⟨14,by decide,⟨rfl,rfl,rfl,rfl,trivial⟩,?_,by decide⟩
  subst hz hkk
  rfl
 | 14,_ =>
  conv=>whnf
  refine ⟨fun _=>?_,fun h=>absurd (show ((14:Nat):Int)<16 by decide) h⟩
  conv=>whnf
  generalize hz:wN kk 14=z
  refine drawK_of2 D115_5 [H1++[z.O4 14],H1++[S4.O4 { z with d:=orB z.d ke 16 } 15]] (by kernel_rfl) rfl trivial ?_
  conv=>whnf
  (refine dS ?_;(conv=>whnf))
  apply Exists.intro
  apply And.intro
  ·conv=>whnf
   exact oD
  conv=>whnf
  (refine dS ?_;(conv=>whnf))
  apply Exists.intro
  apply And.intro
  ·conv=>whnf
   exact oD
  conv=>whnf
  apply Exists.intro
  apply And.intro
  ·conv=>whnf
   exact oD
  conv=>whnf
  apply Exists.intro
  apply And.intro
  ·conv=>whnf
   ((conv in (_[_]?)=>tactic=>exact (z.look4 14 H1));(conv=>whnf))
   exact ⟨rfl,rfl,trivial⟩
  conv=>whnf
  (refine dS ?_;(conv=>whnf))
  refine ⟨.elem [byteC ke],⟨⟨by decide,by decide⟩,[byteC ke],at1' (k:=14) (by rw [hkk];rfl),rfl,rfl,trivial⟩,?_⟩
  conv=>whnf
  iterate 3 (refine dS ?_;(conv=>whnf))
  apply Exists.intro
  apply And.intro
  ·conv=>whnf
   exact oD
  conv=>whnf
  iterate 2 (refine dS ?_;(conv=>whnf))
  apply Exists.intro
  apply And.intro
  ·conv=>whnf
   exact oD
  conv=>whnf
  (refine dS ?_;(conv=>whnf))
  apply Exists.intro
  apply And.intro
  ·conv=>whnf
   exact oD
  conv=>whnf
  apply Exists.intro
  apply And.intro
  ·conv=>whnf
   ((conv in (_[_]?)=>tactic=>exact (z.look4 14 H1));(conv=>whnf))
   exact ⟨rfl,set_last H1 _ _,trivial⟩
  conv=>whnf
  refine ⟨15,by decide,⟨rfl,rfl,rfl,rfl,trivial⟩,?_,by decide⟩
  subst hz hkk
  rfl
 | 15,_ =>
  conv=>whnf
  refine ⟨fun _=>?_,fun h=>absurd (show ((15:Nat):Int)<16 by decide) h⟩
  conv=>whnf
  generalize hz:wN kk 15=z
  refine drawK_of2 D115_5 [H1++[z.O4 15],H1++[S4.O4 { z with d:=orB z.d kf 24 } 16]] (by kernel_rfl) rfl trivial ?_
  conv=>whnf
  (refine dS ?_;(conv=>whnf))
  apply Exists.intro
  apply And.intro
  ·conv=>whnf
   exact oD
  conv=>whnf
  (refine dS ?_;(conv=>whnf))
  apply Exists.intro
  apply And.intro
  ·conv=>whnf
   exact oD
  conv=>whnf
  apply Exists.intro
  apply And.intro
  ·conv=>whnf
   exact oD
  conv=>whnf
  apply Exists.intro
  apply And.intro
  ·conv=>whnf
   ((conv in (_[_]?)=>tactic=>exact (z.look4 15 H1));(conv=>whnf))
   exact ⟨rfl,rfl,trivial⟩
  conv=>whnf
  (refine dS ?_;(conv=>whnf))
  refine ⟨.elem [byteC kf],⟨⟨by decide,by decide⟩,[byteC kf],at1' (k:=15) (by rw [hkk];rfl),rfl,rfl,trivial⟩,?_⟩
  conv=>whnf
  iterate 3 (refine dS ?_;(conv=>whnf))
  apply Exists.intro
  apply And.intro
  ·conv=>whnf
   exact oD
  conv=>whnf
  iterate 2 (refine dS ?_;(conv=>whnf))
  apply Exists.intro
  apply And.intro
  ·conv=>whnf
   exact oD
  conv=>whnf
  (refine dS ?_;(conv=>whnf))
  apply Exists.intro
  apply And.intro
  ·conv=>whnf
   exact oD
  conv=>whnf
  apply Exists.intro
  apply And.intro
  ·conv=>whnf
   ((conv in (_[_]?)=>tactic=>exact (z.look4 15 H1));(conv=>whnf))
   exact ⟨rfl,set_last H1 _ _,trivial⟩
  conv=>whnf
  refine ⟨16,by decide,⟨rfl,rfl,rfl,rfl,trivial⟩,?_,by decide⟩
  subst hz hkk
  rfl
 | 16,_ =>
  conv=>whnf
  refine ⟨fun h=>absurd h (by decide),fun _=>?_⟩
  conv=>whnf
  have hs0:spN kk 0=wN kk 16:=spN_zero kk
  have hl2:(spL2 kk 0).map u32C=[u32C (wN kk 16).b,u32C (wN kk 16).c,u32C (wN kk 16).d]:=by rw [spL2_zero,List.map_cons,List.map_cons,List.map_cons,List.map_nil]
  have hl1':(spL kk z27 (0+1)).map u32C=u32C (wN kk 16).a::(z27.drop 1).map u32C:=by rw [spL_one,List.map_cons]
  generalize wN kk 16=w16 at hs0 hl2 hl1' ⊢
  obtain ⟨H2,hH2⟩:∃H2:PH,H2=H1++[w16.O4 16]:=⟨_,rfl⟩
  have hw2:∀x:PObj,(H2++[x])[H1.length]? = some ⟨281,[.int .u32 w16.a,.int .u32 w16.b,.int .u32 w16.c,.int .u32 w16.d],16⟩:=fun x=>by
   rw [List.getElem?_append_left (by rw [hH2];simp),hH2];exact get_last H1 _
  rw [←hH2]
  refine ⟨by decide,?_⟩
  conv=>whnf
  ((conv in (_[_]?)=>tactic=>exact (hw2 _));(conv=>whnf))
  refine ⟨by decide,?_⟩
  conv=>whnf
  ((conv in (_[_]?)=>tactic=>exact (hw2 _));(conv=>whnf))
  refine ⟨by decide,?_⟩
  conv=>whnf
  ((conv in (_[_]?)=>tactic=>exact (hw2 _));(conv=>whnf))
  refine ⟨by decide,?_⟩
  conv=>whnf
  ((conv in (_[_]?)=>tactic=>exact (hw2 _));(conv=>whnf))
  refine ⟨by decide,?_⟩
  conv=>whnf
  ((conv in (_[_]?)=>tactic=>exact (get_last H2 _));(conv=>whnf))
  refine loopK_of Nat (fun i=>[(2,.ptr (some (H.length,0))),(5,.ptr (some (H2.length,0))),(6,.slice (i+3) ((spL2 kk i).map u32C) (some 226)),(7,.int .i64 i)]) (fun i=>H2++[PObj.mk 227 ((spL kk z27 (i+1)).map u32C) (i+1)]) (fun i=>i≤26) (fun i=>26 - i) ⟨0,Nat.zero_le _,⟨rfl,rfl,?_,rfl,trivial⟩,?_⟩ ?_
  ·exact congrArg (fun z=>PV.slice 3 z (some 226)) hl2.symm
  ·rw [hl1'];exact set_last H2 _ _
  intro i hi
  conv=>whnf
  refine ⟨fun h=>?_,fun h=>?_⟩
  ·have h:(i:Int)<26:=h
   have hlen1:(spL kk z27 (i+1)).length=27:=spL_len kk z27 (i+1) rfl (by omega)
   have g0:=get_last H2 (PObj.mk 227 ((spL kk z27 (i+1)).map u32C) (i+1))
   obtain ⟨r0,hr0⟩:=drop_u32 (spL_at kk (i+1) i (by omega) (by omega))
   conv=>whnf
   refine drawK_of2 D115_12 [H2++[PObj.mk 227 ((spL kk z27 (i+1)).map u32C) (i+1)]] (by kernel_rfl) rfl ⟨trivial,trivial⟩ ?_
   conv=>whnf
   apply Exists.intro
   apply And.intro
   ·conv=>whnf
    exact ⟨rfl,rfl,rfl,trivial⟩
   conv=>whnf
   (refine dS ?_;(conv=>whnf))
   apply Exists.intro
   apply And.intro
   ·conv=>whnf
    refine ⟨⟨by show (0:Int)≤(i:Int);omega,by show (i:Int)<((27:Nat):Int);omega⟩,rfl,rfl,trivial⟩
   conv=>whnf
   apply Exists.intro
   apply And.intro
   ·conv=>whnf
    ((conv in (_[_]?)=>tactic=>exact g0);(conv=>whnf))
    ((conv in (dropN _ _)=>tactic=>exact hr0);(conv=>whnf))
    exact ⟨rfl,rfl,trivial⟩
   conv=>whnf
   iterate 2 (refine dS ?_;(conv=>whnf))
   refine ⟨.elem [u32C (spN kk i).b],⟨⟨by show (0:Int)≤(i:Int);omega,by show (i:Int)<((i+3:Nat):Int);omega⟩,[u32C (spN kk i).b],at1' (k:=(i:Int).toNat*1) (by rw [Int.toNat_natCast,Nat.mul_one,List.getElem?_map,spL2_get kk i i (by omega)];rfl),rfl,rfl,trivial⟩,?_⟩
   conv=>whnf
   (refine dS ?_;(conv=>whnf))
   refine ⟨_,callK_pure (c180 _) ⟨rfl,rfl,trivial⟩,?_⟩
   conv=>whnf
   iterate 5 (refine dS ?_;(conv=>whnf))
   apply Exists.intro
   apply And.intro
   ·conv=>whnf
    refine ⟨⟨by show (i+3+1)*4≤_;omega,rfl,rfl⟩,?_⟩
    conv=>whnf
    exact ⟨rfl,rfl,trivial⟩
   conv=>whnf
   (refine dS ?_;(conv=>whnf))
   have hw1:IntKind.i64.wrap ((i:Int)+1)=((i+1:Nat):Int):=by rw [wrap64 (by omega) (by omega)];omega
   have hw3:IntKind.i64.wrap ((i:Int)+3)=((i+3:Nat):Int):=by rw [wrap64 (by omega) (by omega)];omega
   have hnx:PV.int .u32 (ibits .xor .u32 (IntKind.u32.wrap ((spN kk i).a+rot32 (spN kk i).b (-8))) (IntKind.u32.wrap (i:Int)))=u32C (spN kk (i+1)).d:=by rw [spN_next];rfl
   refine drawK_of2 D115_13 [H2++[PObj.mk 227 ((spL kk z27 (i+1)).map u32C) (i+1)],H2++[PObj.mk 227 ((spL kk z27 (i+1+1)).map u32C) (i+1+1)]] (by kernel_rfl) rfl trivial ?_
   conv=>whnf
   (refine dS ?_;(conv=>whnf))
   refine ⟨.int .i64 ((i+1:Nat):Int),⟨congrArg (PV.int _) hw1,rfl,trivial⟩,?_⟩
   conv=>whnf
   (refine dS ?_;(conv=>whnf))
   apply Exists.intro
   apply And.intro
   ·conv=>whnf
    refine ⟨⟨by show (0:Int)≤(i:Int);omega,by show (i:Int)<((27:Nat):Int);omega⟩,rfl,rfl,trivial⟩
   conv=>whnf
   apply Exists.intro
   apply And.intro
   ·conv=>whnf
    ((conv in (_[_]?)=>tactic=>exact g0);(conv=>whnf))
    ((conv in (dropN _ _)=>tactic=>exact hr0);(conv=>whnf))
    exact ⟨rfl,rfl,trivial⟩
   conv=>whnf
   refine ⟨_,callK_pure (c181 _) ⟨rfl,rfl,trivial⟩,?_⟩
   conv=>whnf
   iterate 2 (refine dS ?_;(conv=>whnf))
   refine ⟨.int .i64 ((i+3:Nat):Int),⟨congrArg (PV.int _) hw3,rfl,trivial⟩,?_⟩
   conv=>whnf
   refine ⟨.elem [u32C (spN kk (i+1)).d],⟨⟨by show (0:Int)≤((i+3:Nat):Int);omega,by show ((i+3:Nat):Int)<((i+3+1:Nat):Int);omega⟩,[u32C (spN kk (i+1)).d],at1' (k:=((i+3:Nat):Int).toNat*1) (by
    have e:((i+3:Nat):Int).toNat*1=i+3:=by omega
    rw [e,List.getElem?_append_right (by rw [List.length_map,spL2_len];omega),List.length_map,spL2_len,Nat.sub_self]
    exact congrArg some hnx),rfl,rfl,trivial⟩,?_⟩
   conv=>whnf
   iterate 2 (refine dS ?_;(conv=>whnf))
   apply Exists.intro
   apply And.intro
   ·conv=>whnf
    refine ⟨⟨by show (0:Int)≤((i+1:Nat):Int);omega,by show ((i+1:Nat):Int)<((27:Nat):Int);omega⟩,rfl,rfl,trivial⟩
   conv=>whnf
   apply Exists.intro
   apply And.intro
   ·conv=>whnf
    ((conv in (_[_]?)=>tactic=>exact g0);(conv=>whnf))
    ((conv in (Nat.ble _ _)=>tactic=>exact (show Nat.ble (0+((i+1:Nat):Int).toNat*1+1) ((spL kk z27 (i+1)).map u32C).length=true by rw [Nat.ble_eq,List.length_map,hlen1];omega));(conv=>whnf))
    refine ⟨rfl,?_,trivial⟩
    refine (set_last H2 _ _).trans (congrArg (fun o=>H2++[o]) ?_)
    show PObj.mk 227 (setCells (0+((i+1:Nat):Int).toNat*1) [u32C (xor32 (rot32 (spN kk i).a 3) (spN kk (i+1)).d)] ((spL kk z27 (i+1)).map u32C)) (i+1+1)=_
    rw [←spN_a]
    have:=setCells_mid [] [] (spL kk z27 (i+1)) (i+1) (0+((i+1:Nat):Int).toNat*1) (spN kk (i+1)).a (by omega) (by simp)
    rw [List.nil_append,List.append_nil,List.nil_append,List.append_nil,spL_set kk z27 (i+1) rfl (by omega)] at this
    rw [this]
   conv=>whnf
   refine ⟨i+1,by omega,⟨rfl,rfl,?_,?_,trivial⟩,rfl,by omega⟩
   ·show PV.slice (i+3+1) ((spL2 kk i).map u32C++[PV.int .u32 (ibits .xor .u32 (IntKind.u32.wrap ((spN kk i).a+rot32 (spN kk i).b (-8))) (IntKind.u32.wrap (i:Int)))]) (some 226)=PV.slice (i+1+3) ((spL2 kk (i+1)).map u32C) (some 226)
    rw [hnx,spL2_succ,List.map_append,spN_d,List.map_cons,List.map_nil,show i+3+1=i+1+3 by omega,show i+1+2=i+3 by omega]
   ·exact congrArg (PV.int _) hw1
  ·have h:¬(i:Int)<26:=h
   have e:i=26:=by omega
   subst e
   have hspl:spL kk z27 (26+1)=spW kk:=by
    unfold spL spW
    rw [List.drop_of_length_le (by show 27≤26+1;omega),List.append_nil]
   rw [hspl]
   conv=>whnf
   ((conv in (_[_]?)=>tactic=>exact (get_last H2 _));(conv=>whnf))
   have hR:∀x:PObj,(H2++[x])[H.length]? = some ⟨227,z27.map u32C,0⟩:=fun x=>by
    rw [List.getElem?_append_left (by rw [hH2];simp;omega),hH2,List.getElem?_append_left (by omega)];exact hr1
   ((conv in (_[_]?)=>tactic=>exact (hR _));(conv=>whnf))
   have hW:setCells 0 (((dropN 0 ((spW kk).map u32C)).take 27).map dem) (z27.map u32C)=(spW kk).map u32C:=by
    rw [agg27 _ (spW_len kk),setCells_eq _ _ _ (by rw [List.length_map,List.length_map,spW_len];exact Nat.le_refl _),List.take_zero,List.drop_of_length_le (by rw [List.length_map,List.length_map,spW_len];exact Nat.le_refl _),List.nil_append,List.append_nil]
   have h2:((H2++[PObj.mk 227 ((spW kk).map u32C) (26+1)]).set H.length (PObj.mk 227 (setCells 0 (((dropN 0 ((spW kk).map u32C)).take 27).map dem) (z27.map u32C)) (0+1)))[H.length]? = some (PObj.mk 227 ((spW kk).map u32C) 1):=by
    rw [get_set (hR _),hW]
   generalize hh:(setH _ _ _ _)[List.length H]? = X
   rw [show X=some (PObj.mk 227 ((spW kk).map u32C) 1) from hh.symm.trans h2]
   conv=>whnf
   refine ⟨congrArg PV.agg (agg27 _ (spW_len kk)),?_⟩
   refine ext_of ?_ fun j hj=>?_
   ·show H.length≤((H2++[_]).set _ _).length
    rw [List.length_set,List.length_append,hH2,List.length_append];omega
   ·show ((H2++[_]).set H.length _)[j]? = _
    rw [List.getElem?_set_ne (by omega),List.getElem?_append_left (by rw [hH2,List.length_append];omega),hH2,List.getElem?_append_left (by omega),hH1,List.getElem?_append_left hj]
 | j+17,hj=>exact absurd hj (by omega)
theorem oldPs_u32 (l:List Int):oldPs (l.map u32C)=true:=by
 induction l with
 | nil=>rfl
 | cons x l ih=>simp [oldPs,oldP,u32C,ih]
theorem c115 (k:List UInt8) (hk:k.length=16):Pure prog 115 [.agg (k.map byteC)] (.agg ((spW k).map u32C)) :=
 Pure.of_gc (by simp [oldR,oldP,oldPs_u32]) fun H=>c115x k hk H
set_option maxHeartbeats 2000000
def ttQ4:TT:=[(3,⟨.int .i64,1,8,[.int .i64 0]⟩),(5,⟨.int .u8,1,1,[.int .u8 0]⟩),(9,⟨.str,1,16,[.str []]⟩),(26,⟨.slice 5,1,24,[.slice 0 [] (some 5)]⟩),(43,⟨.arr 32 5,32,32,List.replicate 32 (.int .u8 0)⟩),(221,⟨.arr 16 5,16,16,List.replicate 16 (.int .u8 0)⟩),(142,⟨.int .u64,1,8,[.int .u64 0]⟩),(155,⟨.int .u64,1,8,[.int .u64 0]⟩),(226,⟨.int .u32,1,4,[.int .u32 0]⟩),(227,⟨.arr 27 226,27,108,List.replicate 27 (.int .u32 0)⟩)]
theorem ttQ4_ok:ttOk prog ttQ4=true:=by kernel_rfl
def imm85:List Nat:=[2000002]
def imm112:List Nat:=[1]
def imm55:List Nat:=[3]
def imm56:List Nat:=[4]
def imm34:List Nat:=[4]
theorem c85 (n:Int):Pure prog 85 [.int .u64 n] (ow (bigV n)):=by
 intro H
 (refine fnS (imm:=imm85) ttQ4_ok func85 ?_;(conv=>whnf))
 refine loopK_of Nat (fun k=>[(0,.int .u64 n),(3,ow ((bigV n).take k)),(4,.int .i64 (7 - (k:Int)))]) (fun _=>H) (fun k=>k≤8) (fun k=>8 - k) ⟨0,Nat.zero_le _,⟨rfl,rfl,rfl,trivial⟩,rfl⟩ ?_
 intro i hi
 match i,hi with
 | 0,_ =>
  conv=>whnf
  refine ⟨fun _=>?_,fun h=>absurd (show (0:Int)≤7 - ((0:Nat):Int) by decide) h⟩
  conv=>whnf
  refine ⟨by decide,?_⟩
  conv=>whnf
  refine ⟨⟨by show (0+1)*1≤140737488355328;decide,rfl,rfl⟩,?_⟩
  conv=>whnf
  refine ⟨1,by decide,⟨rfl,?_,rfl,trivial⟩,rfl,by decide⟩
  show PV.slice 1 (((bigV n).take 0).map byteC++[.int .u8 (IntKind.u8.wrap (ishr .u64 n 56))]) (some 5)=ow ((bigV n).take 1)
  rw [byteC_I]
  rfl
 | 1,_ =>
  conv=>whnf
  refine ⟨fun _=>?_,fun h=>absurd (show (0:Int)≤7 - ((1:Nat):Int) by decide) h⟩
  conv=>whnf
  refine ⟨by decide,?_⟩
  conv=>whnf
  refine ⟨⟨by show (1+1)*1≤140737488355328;decide,rfl,rfl⟩,?_⟩
  conv=>whnf
  refine ⟨2,by decide,⟨rfl,?_,rfl,trivial⟩,rfl,by decide⟩
  show PV.slice 2 (((bigV n).take 1).map byteC++[.int .u8 (IntKind.u8.wrap (ishr .u64 n 48))]) (some 5)=ow ((bigV n).take 2)
  rw [byteC_I]
  rfl
 | 2,_ =>
  conv=>whnf
  refine ⟨fun _=>?_,fun h=>absurd (show (0:Int)≤7 - ((2:Nat):Int) by decide) h⟩
  conv=>whnf
  refine ⟨by decide,?_⟩
  conv=>whnf
  refine ⟨⟨by show (2+1)*1≤140737488355328;decide,rfl,rfl⟩,?_⟩
  conv=>whnf
  refine ⟨3,by decide,⟨rfl,?_,rfl,trivial⟩,rfl,by decide⟩
  show PV.slice 3 (((bigV n).take 2).map byteC++[.int .u8 (IntKind.u8.wrap (ishr .u64 n 40))]) (some 5)=ow ((bigV n).take 3)
  rw [byteC_I]
  rfl
 | 3,_ =>
  conv=>whnf
  refine ⟨fun _=>?_,fun h=>absurd (show (0:Int)≤7 - ((3:Nat):Int) by decide) h⟩
  conv=>whnf
  refine ⟨by decide,?_⟩
  conv=>whnf
  refine ⟨⟨by show (3+1)*1≤140737488355328;decide,rfl,rfl⟩,?_⟩
  conv=>whnf
  refine ⟨4,by decide,⟨rfl,?_,rfl,trivial⟩,rfl,by decide⟩
  show PV.slice 4 (((bigV n).take 3).map byteC++[.int .u8 (IntKind.u8.wrap (ishr .u64 n 32))]) (some 5)=ow ((bigV n).take 4)
  rw [byteC_I]
  rfl
 | 4,_ =>
  conv=>whnf
  refine ⟨fun _=>?_,fun h=>absurd (show (0:Int)≤7 - ((4:Nat):Int) by decide) h⟩
  conv=>whnf
  refine ⟨by decide,?_⟩
  conv=>whnf
  refine ⟨⟨by show (4+1)*1≤140737488355328;decide,rfl,rfl⟩,?_⟩
  conv=>whnf
  refine ⟨5,by decide,⟨rfl,?_,rfl,trivial⟩,rfl,by decide⟩
  show PV.slice 5 (((bigV n).take 4).map byteC++[.int .u8 (IntKind.u8.wrap (ishr .u64 n 24))]) (some 5)=ow ((bigV n).take 5)
  rw [byteC_I]
  rfl
 | 5,_ =>
  conv=>whnf
  refine ⟨fun _=>?_,fun h=>absurd (show (0:Int)≤7 - ((5:Nat):Int) by decide) h⟩
  conv=>whnf
  refine ⟨by decide,?_⟩
  conv=>whnf
  refine ⟨⟨by show (5+1)*1≤140737488355328;decide,rfl,rfl⟩,?_⟩
  conv=>whnf
  refine ⟨6,by decide,⟨rfl,?_,rfl,trivial⟩,rfl,by decide⟩
  show PV.slice 6 (((bigV n).take 5).map byteC++[.int .u8 (IntKind.u8.wrap (ishr .u64 n 16))]) (some 5)=ow ((bigV n).take 6)
  rw [byteC_I]
  rfl
 | 6,_ =>
  conv=>whnf
  refine ⟨fun _=>?_,fun h=>absurd (show (0:Int)≤7 - ((6:Nat):Int) by decide) h⟩
  conv=>whnf
  refine ⟨by decide,?_⟩
  conv=>whnf
  refine ⟨⟨by show (6+1)*1≤140737488355328;decide,rfl,rfl⟩,?_⟩
  conv=>whnf
  refine ⟨7,by decide,⟨rfl,?_,rfl,trivial⟩,rfl,by decide⟩
  show PV.slice 7 (((bigV n).take 6).map byteC++[.int .u8 (IntKind.u8.wrap (ishr .u64 n 8))]) (some 5)=ow ((bigV n).take 7)
  rw [byteC_I]
  rfl
 | 7,_ =>
  conv=>whnf
  refine ⟨fun _=>?_,fun h=>absurd (show (0:Int)≤7 - ((7:Nat):Int) by decide) h⟩
  conv=>whnf
  refine ⟨by decide,?_⟩
  conv=>whnf
  refine ⟨⟨by show (7+1)*1≤140737488355328;decide,rfl,rfl⟩,?_⟩
  conv=>whnf
  refine ⟨8,by decide,⟨rfl,?_,rfl,trivial⟩,rfl,by decide⟩
  show PV.slice 8 (((bigV n).take 7).map byteC++[.int .u8 (IntKind.u8.wrap (ishr .u64 n 0))]) (some 5)=ow ((bigV n).take 8)
  rw [byteC_I]
  rfl
 | 8,_ =>
  conv=>whnf
  refine ⟨fun h=>absurd h (by decide),fun _=>?_⟩
  conv=>whnf
  exact ⟨rfl,rfl⟩
def cur16 (l:List UInt8) (i:Nat):List UInt8:=l.take i++List.replicate (16 - i) 0
theorem cur16_len (l:List UInt8) (i:Nat) (hl:16≤l.length) (hi:i≤16):(cur16 l i).length=16:=by
 unfold cur16
 rw [List.length_append,List.length_take,List.length_replicate];omega
theorem cur16_set (l:List UInt8) (i:Nat) (hl:16≤l.length) (hi:i<16):(cur16 l i).set i (l[i]'(by omega))=cur16 l (i+1):=by
 unfold cur16
 rw [List.set_append_right _ _ (by rw [List.length_take];omega),List.length_take,Nat.min_eq_left (by omega),Nat.sub_self,show 16 - i=(16 - (i+1))+1 by omega,List.replicate_succ,List.set_cons_zero,List.take_succ_eq_append_getElem (by omega),List.append_assoc]
 rfl
theorem get2a (H:PH) (a b:PObj):(H++[a,b])[H.length]? = some a:=by simp
theorem get2b (H:PH) (a b:PObj):(H++[a,b])[H.length+1]? = some b:=by simp
theorem set2a (H:PH) (a b o:PObj):(H++[a,b]).set H.length o=H++[o,b]:=by simp
theorem set2b (H:PH) (a b o:PObj):(H++[a,b]).set (H.length+1) o=H++[a,o]:=by
 rw [List.set_append_right _ _ (by omega),show H.length+1 - H.length=1 by omega];rfl
def B16 (l:List UInt8) (v:Nat):PObj:=⟨221,l.map byteC,v⟩
def D112_5:Draw:={ imp:=[10,12],win:=[(1,0,1),(5,0,1),(6,0,1),(7,0,1),(8,0,1),(11,1,1),(12,1,1)] }
def D112_6:Draw:={ imp:=[2,3],win:=[(1,0,1),(3,1,1)] }
theorem setCells_app0 (cs:List UInt8) (i:Nat) (x:UInt8) (h:i<cs.length):setCells i [byteC x] (cs.map byteC)=(cs.set i x).map byteC:=by
 have:=setCells_app cs [] i x h
 rw [List.append_nil,List.append_nil] at this
 exact this
theorem agg16 (l:List UInt8) (hl:l.length=16):((dropN 0 (l.map byteC)).take 16).map dem=l.map byteC:=by
 rw [dropN_eq,List.drop_zero,List.take_of_length_le (by rw [List.length_map];omega),List.map_map]
 rfl
theorem set16 (l:List UInt8) (hl:l.length=16):setCells 0 (l.map byteC) ((List.replicate 16 (0:UInt8)).map byteC)=l.map byteC:=by
 rw [setCells_eq _ _ _ (by rw [List.length_map,hl];exact Nat.le_refl _),List.take_zero,List.drop_of_length_le (by simp [hl]),List.nil_append,List.append_nil]
theorem oldPs_bytesY (l:List UInt8):oldPs (l.map byteC)=true:=by
 induction l with
 | nil=>rfl
 | cons x l ih=>simp [oldPs,oldP,byteC,ih]
theorem c112x (k:List UInt8) (hk:k.length=32) (H:PH):CallOk prog 112 [.agg (k.map byteC)] H fun r H'=>r=.tup [.agg ((k.take 16).map byteC),.agg ((k.drop 16).map byteC)]∧∃ext,H'=H++ext:=by
 (refine fnS (imm:=imm112) ttQ4_ok func112 ?_;(conv=>whnf))
 obtain ⟨H3,hH3⟩:∃H3:PH,H3=H++[B16 (List.replicate 16 0) 0,B16 (List.replicate 16 0) 0]:=⟨_,rfl⟩
 have hd16:16≤(k.drop 16).length:=by rw [List.length_drop];omega
 refine loopK_of Nat (fun i=>[(1,.elem (k.map byteC)),(2,.ptr (some (H.length,0))),(3,.ptr (some (H.length+1,0))),(4,.ptr (some (H3.length,0))),(5,.ptr (some (H3.length+1,0))),(6,.int .i64 i)]) (fun i=>H3++[B16 (cur16 k i) i,B16 (cur16 (k.drop 16) i) i]) (fun i=>i≤16) (fun i=>16 - i) ⟨0,Nat.zero_le _,⟨rfl,rfl,?_,?_,?_,rfl,trivial⟩,?_⟩ ?_
 ·show PV.ptr (some ((H++[_]).length,0))=_
  simp
 ·show PV.ptr (some ((H++[_]++[_]).length,0))=_
  simp [hH3]
 ·show PV.ptr (some ((H++[_]++[_]++[_]).length,0))=_
  simp [hH3]
 ·subst hH3
  show H++[_]++[_]++[_]++[_]=_
  simp only [List.append_assoc,List.cons_append,List.nil_append]
  rfl
 intro i hi
 conv=>whnf
 refine ⟨fun h=>?_,fun h=>?_⟩
 ·have h:(i:Int)<16:=h
  have hia:i<k.length:=by omega
  have hib:i<(k.drop 16).length:=by omega
  have hib2:16+i<k.length:=by omega
  have hw:IntKind.i64.wrap (16+(i:Int))=((16+i:Nat):Int):=by rw [wrap64 (by omega) (by omega)];omega
  have hgb:(k.drop 16)[i]=k[16+i]:=by rw [List.getElem_drop]
  have lA:=cur16_len k i (by omega) (by omega)
  have lB:=cur16_len (k.drop 16) i hd16 (by omega)
  conv=>whnf
  refine drawK_of2 D112_5 [H3++[B16 (cur16 k i) i,B16 (cur16 (k.drop 16) i) i],H3++[B16 (cur16 k (i+1)) (i+1),B16 (cur16 (k.drop 16) i) i],H3++[B16 (cur16 k (i+1)) (i+1),B16 (cur16 (k.drop 16) (i+1)) (i+1)]] (by kernel_rfl) rfl trivial ?_
  conv=>whnf
  (refine dS ?_;(conv=>whnf))
  (refine dS2 ?_;(conv=>whnf))
  (refine dS ?_;(conv=>whnf))
  refine ⟨.elem [byteC k[i]],⟨⟨by show (0:Int)≤(i:Int);omega,by show (i:Int)<((32:Nat):Int);omega⟩,[byteC k[i]],at1' (k:=(i:Int).toNat*1) (by rw [Int.toNat_natCast,Nat.mul_one,List.getElem?_map,List.getElem?_eq_getElem hia];rfl),rfl,rfl,trivial⟩,?_⟩
  conv=>whnf
  (refine dS ?_;(conv=>whnf))
  (refine dS2 ?_;(conv=>whnf))
  refine ⟨.int .i64 ((16+i:Nat):Int),⟨⟨congrArg (PV.int _) hw,rfl,trivial⟩,⟨congrArg (PV.int _) hw,rfl,trivial⟩⟩,?_⟩
  conv=>whnf
  refine ⟨.elem [byteC k[16+i]],?_,?_⟩
  ·conv=>whnf
   have hq:∀(j:Nat) (c:PV),[byteC k[16+i]][j]? = some c→(k.map byteC)[((16+i:Nat):Int).toNat*1+j]? = some c:=at1' (by rw [Int.toNat_natCast,Nat.mul_one,List.getElem?_map,List.getElem?_eq_getElem hib2];rfl)
   exact ⟨⟨⟨by omega,by show ((16+i:Nat):Int)<((32:Nat):Int);omega⟩,_,hq,rfl,rfl,trivial⟩,⟨⟨by omega,by show ((16+i:Nat):Int)<((32:Nat):Int);omega⟩,_,hq,rfl,rfl,trivial⟩⟩
  conv=>whnf
  (refine dS2 ?_;(conv=>whnf))
  apply Exists.intro
  apply And.intro
  ·conv=>whnf
   refine ⟨⟨by show (0:Int)≤(i:Int);omega,by show (i:Int)<((16:Nat):Int);omega⟩,rfl,rfl,trivial⟩
  conv=>whnf
  apply Exists.intro
  apply And.intro
  ·conv=>whnf
   ((conv in (_[_]?)=>tactic=>exact (get2a H3 _ _));(conv=>whnf))
   ((conv in (Nat.ble _ _)=>tactic=>exact (show Nat.ble (0+(i:Int).toNat*1+1) ((cur16 k i).map byteC).length=true by rw [Nat.ble_eq,List.length_map,lA];omega));(conv=>whnf))
   refine ⟨rfl,?_,trivial⟩
   refine (set2a H3 _ _ _).trans (congrArg (fun o=>H3++[o,_]) ?_)
   show PObj.mk 221 (setCells (0+(i:Int).toNat*1) [byteC k[i]] ((cur16 k i).map byteC)) (i+1)=_
   rw [show 0+(i:Int).toNat*1=i by omega,setCells_app0 _ _ _ (by omega),cur16_set k i (by omega) (by omega)];rfl
  conv=>whnf
  apply Exists.intro
  apply And.intro
  ·conv=>whnf
   refine ⟨⟨by show (0:Int)≤(i:Int);omega,by show (i:Int)<((16:Nat):Int);omega⟩,rfl,rfl,trivial⟩
  conv=>whnf
  apply Exists.intro
  apply And.intro
  ·conv=>whnf
   ((conv in (_[_]?)=>tactic=>exact (get2b H3 _ _));(conv=>whnf))
   ((conv in (Nat.ble _ _)=>tactic=>exact (show Nat.ble (0+(i:Int).toNat*1+1) ((cur16 (k.drop 16) i).map byteC).length=true by rw [Nat.ble_eq,List.length_map,lB];omega));(conv=>whnf))
   refine ⟨rfl,?_,trivial⟩
   refine (set2b H3 _ _ _).trans (congrArg (fun o=>H3++[_,o]) ?_)
   show PObj.mk 221 (setCells (0+(i:Int).toNat*1) [byteC k[16+i]] ((cur16 (k.drop 16) i).map byteC)) (i+1)=_
   rw [show 0+(i:Int).toNat*1=i by omega,setCells_app0 _ _ _ (by omega),←hgb,cur16_set (k.drop 16) i hd16 (by omega)];rfl
  conv=>whnf
  refine ⟨i+1,by omega,⟨rfl,rfl,rfl,rfl,rfl,?_,trivial⟩,rfl,by omega⟩
  show PV.int _ (IntKind.i64.wrap ((i:Int)+1))=PV.int _ _
  rw [wrap64 (by omega) (by omega)];simp
 ·have h:¬(i:Int)<16:=h
  have e:i=16:=by omega
  subst e
  have e1:cur16 k 16=k.take 16:=by unfold cur16;exact List.append_nil _
  have e2:cur16 (k.drop 16) 16=k.drop 16:=by
   unfold cur16
   rw [List.take_of_length_le (by rw [List.length_drop];omega)];exact List.append_nil _
  rw [e1,e2]
  have h1:(k.take 16).length=16:=by rw [List.length_take];omega
  have h2:(k.drop 16).length=16:=by rw [List.length_drop];omega
  have g1:(H3++[B16 (k.take 16) 16,B16 (k.drop 16) 16])[H.length]? = some (B16 (List.replicate 16 0) 0):=by
   rw [List.getElem?_append_left (by rw [hH3];simp),hH3];exact get2a H _ _
  have g2:(H3++[B16 (k.take 16) 16,B16 (k.drop 16) 16])[H.length+1]? = some (B16 (List.replicate 16 0) 0):=by
   rw [List.getElem?_append_left (by rw [hH3];simp),hH3];exact get2b H _ _
  have g3:(H3++[B16 (k.take 16) 16,B16 (k.drop 16) 16])[H3.length]? = some (B16 (k.take 16) 16):=get2a H3 _ _
  have g4:(H3++[B16 (k.take 16) 16,B16 (k.drop 16) 16])[H3.length+1]? = some (B16 (k.drop 16) 16):=get2b H3 _ _
  have b1:Nat.ble 16 (dropN 0 ((k.take 16).map byteC)).length=true:=by rw [Nat.ble_eq,dropN_eq,List.drop_zero,List.length_map,h1];exact Nat.le_refl _
  have b2:Nat.ble 16 (dropN 0 ((k.drop 16).map byteC)).length=true:=by rw [Nat.ble_eq,dropN_eq,List.drop_zero,List.length_map,h2];exact Nat.le_refl _
  have q1:Nat.beq ((k.take 16).map byteC).length 16=true:=by rw [List.length_map,h1];rfl
  have q2:Nat.beq ((k.drop 16).map byteC).length 16=true:=by rw [List.length_map,h2];rfl
  have hlen3:H3.length=H.length+2:=by rw [hH3];simp
  have hXl:(H3++[B16 (k.take 16) 16,B16 (k.drop 16) 16]).length=H3.length+2:=by simp
  have hfr:∀j,j<H.length→(H3++[B16 (k.take 16) 16,B16 (k.drop 16) 16])[j]? = H[j]?:=fun j hj=>by
   rw [List.getElem?_append_left (by omega),hH3,List.getElem?_append_left hj]
  generalize H3++[B16 (k.take 16) 16,B16 (k.drop 16) 16]=X at g1 g2 g3 g4 hXl hfr ⊢
  have g4':(X.set H.length (B16 (k.take 16) 1))[H3.length+1]? = some (B16 (k.drop 16) 16):=by rw [List.getElem?_set_ne (by omega)];exact g4
  have g2':(X.set H.length (B16 (k.take 16) 1))[H.length+1]? = some (B16 (List.replicate 16 0) 0):=by rw [List.getElem?_set_ne (by omega)];exact g2
  conv=>whnf
  refine drawK_of2 D112_6 [X,X.set H.length (B16 (k.take 16) 1),(X.set H.length (B16 (k.take 16) 1)).set (H.length+1) (B16 (k.drop 16) 1)] (by kernel_rfl) rfl trivial ?_
  conv=>whnf
  refine ⟨.agg ((k.take 16).map byteC),?_,?_⟩
  ·conv=>whnf
   ((conv in (_[_]?)=>tactic=>exact g3);(conv=>whnf))
   ((conv in (Nat.ble _ _)=>tactic=>exact b1);(conv=>whnf))
   exact ⟨congrArg PV.agg (agg16 _ h1),rfl,trivial⟩
  conv=>whnf
  refine ⟨.agg ((k.drop 16).map byteC),?_,?_⟩
  ·conv=>whnf
   refine ⟨?_,?_⟩
   ·conv=>whnf
    ((conv in (_[_]?)=>tactic=>exact g4);(conv=>whnf))
    ((conv in (Nat.ble _ _)=>tactic=>exact b2);(conv=>whnf))
    exact ⟨congrArg PV.agg (agg16 _ h2),rfl,trivial⟩
   ·conv=>whnf
    ((conv in (_[_]?)=>tactic=>exact g4');(conv=>whnf))
    ((conv in (Nat.ble _ _)=>tactic=>exact b2);(conv=>whnf))
    exact ⟨congrArg PV.agg (agg16 _ h2),rfl,trivial⟩
  conv=>whnf
  apply Exists.intro
  apply And.intro
  ·conv=>whnf
   ((conv in (_[_]?)=>tactic=>exact g1);(conv=>whnf))
   (conv in (Nat.beq _ _)=>tactic=>exact q1)
   conv=>whnf
   (conv in (List.all _ _)=>tactic=>exact allOne (k.take 16))
   conv=>whnf
   refine ⟨rfl,?_,trivial⟩
   show X.set H.length (PObj.mk 221 (setCells 0 ((k.take 16).map byteC) ((List.replicate 16 (0:UInt8)).map byteC)) (0+1))=_
   rw [set16 _ h1];rfl
  conv=>whnf
  apply Exists.intro
  apply And.intro
  ·conv=>whnf
   ((conv in (_[_]?)=>tactic=>exact g2');(conv=>whnf))
   (conv in (Nat.beq _ _)=>tactic=>exact q2)
   conv=>whnf
   (conv in (List.all _ _)=>tactic=>exact allOne (k.drop 16))
   conv=>whnf
   refine ⟨rfl,?_,trivial⟩
   show (X.set H.length _).set (H.length+1) (PObj.mk 221 (setCells 0 ((k.drop 16).map byteC) ((List.replicate 16 (0:UInt8)).map byteC)) (0+1))=_
   rw [set16 _ h2];rfl
  conv=>whnf
  have r1:((X.set H.length (B16 (k.take 16) 1)).set (H.length+1) (B16 (k.drop 16) 1))[H.length]? = some (B16 (k.take 16) 1):=by
   rw [List.getElem?_set_ne (by omega)];exact get_set g1
  have r2:((X.set H.length (B16 (k.take 16) 1)).set (H.length+1) (B16 (k.drop 16) 1))[H.length+1]? = some (B16 (k.drop 16) 1):=get_set g2'
  ((conv in (_[_]?)=>tactic=>exact r1);(conv=>whnf))
  ((conv in (Nat.ble _ _)=>tactic=>exact b1);(conv=>whnf))
  ((conv in (_[_]?)=>tactic=>exact r2);(conv=>whnf))
  ((conv in (Nat.ble _ _)=>tactic=>exact b2);(conv=>whnf))
  refine ⟨?_,?_⟩
  ·show PV.tup [.agg (((dropN 0 ((k.take 16).map byteC)).take 16).map dem),.agg (((dropN 0 ((k.drop 16).map byteC)).take 16).map dem)]=_
   rw [agg16 _ h1,agg16 _ h2]
  ·refine ext_of (by show H.length≤((X.set _ _).set _ _).length;rw [List.length_set,List.length_set];omega) fun j hj=>?_
   show ((X.set H.length _).set (H.length+1) _)[j]? = _
   rw [List.getElem?_set_ne (by omega),List.getElem?_set_ne (by omega)]
   exact hfr j hj
theorem c112 (k:List UInt8) (hk:k.length=32):Pure prog 112 [.agg (k.map byteC)] (.tup [.agg ((k.take 16).map byteC),.agg ((k.drop 16).map byteC)]) :=
 Pure.of_gc (by show (oldPs ((k.take 16).map byteC)&&(oldPs ((k.drop 16).map byteC)&&true))=true;rw [oldPs_bytesY,oldPs_bytesY];rfl) fun H=>c112x k hk H
theorem agg32 (l:List UInt8) (hl:l.length=32):((dropN 0 (l.map byteC)).take 32).map dem=l.map byteC:=by
 rw [dropN_eq,List.drop_zero,List.take_of_length_le (by rw [List.length_map];omega),List.map_map]
 rfl
theorem gA (H:PH) (a b:PObj):(H++[a]++[b])[H.length]? = some a:=by simp
theorem gB (H:PH) (a b c:PObj):((H++[a]++[b]).set H.length c)[(H++[a]).length]? = some b:=by
 rw [List.getElem?_set_ne (by simp)];exact get_last _ b
def D55:Draw:={ cons:=[(5,[17])] }
theorem c55x (k:List UInt8) (hk:k.length=32) (u:Int) (b:List UInt8) (hb:b.length≤900000) (H:PH):CallOk prog 55 [.agg (k.map byteC),.int .i64 u,sl b] H fun r H'=>r=sl (tagV (k.drop 16) u b)∧∃ext,H'=H++ext:=by
 have h1:(k.take 16).length=16:=by rw [List.length_take];omega
 have h2:(k.drop 16).length=16:=by rw [List.length_drop];omega
 have q1:Nat.beq ((k.take 16).map byteC).length 16=true:=by rw [List.length_map,h1];rfl
 have q2:Nat.beq ((k.drop 16).map byteC).length 16=true:=by rw [List.length_map,h2];rfl
 have b2:Nat.ble 16 (dropN 0 ((k.drop 16).map byteC)).length=true:=by rw [Nat.ble_eq,dropN_eq,List.drop_zero,List.length_map,h2];exact Nat.le_refl _
 have b32:Nat.ble 32 (dropN 0 (k.map byteC)).length=true:=by rw [Nat.ble_eq,dropN_eq,List.drop_zero,List.length_map,hk];exact Nat.le_refl _
 have hs:=set16 (k.drop 16) h2
 have b2':Nat.ble 16 (dropN 0 (setCells 0 ((k.drop 16).map byteC) ((List.replicate 16 (0:UInt8)).map byteC))).length=true:=by rw [hs];exact b2
 have e2:((dropN 0 (setCells 0 ((k.drop 16).map byteC) ((List.replicate 16 (0:UInt8)).map byteC))).take 16).map dem=(k.drop 16).map byteC:=by rw [hs];exact agg16 _ h2
 (refine fnS (imm:=imm55) ttQ4_ok func55 ?_;(conv=>whnf))
 ((conv in (Nat.ble _ _)=>tactic=>exact b32);(conv=>whnf))
 refine callK_args (congrArg (fun z=>[PV.agg z]) (agg32 k hk)) (callK_pure (c112 k hk) ?_)
 conv=>whnf
 ((conv in (_[_]?)=>tactic=>exact (gA H _ _));(conv=>whnf))
 (conv in (Nat.beq _ _)=>tactic=>exact q1)
 conv=>whnf
 (conv in (List.all _ _)=>tactic=>exact allOne (k.take 16))
 conv=>whnf
 ((conv in (_[_]?)=>tactic=>exact (gB H _ _ _));(conv=>whnf))
 (conv in (Nat.beq _ _)=>tactic=>exact q2)
 conv=>whnf
 (conv in (List.all _ _)=>tactic=>exact allOne (k.drop 16))
 conv=>whnf
 refine drawK_of2 D55 [_] (by kernel_rfl) rfl trivial ?_
 conv=>whnf
 refine ⟨.agg ((k.drop 16).map byteC),?_,?_⟩
 ·conv=>whnf
  ((conv in (_[_]?)=>tactic=>exact (get_set (gB H _ _ _)));(conv=>whnf))
  ((conv in (Nat.ble _ _)=>tactic=>exact b2');(conv=>whnf))
  exact ⟨congrArg PV.agg e2,rfl,trivial⟩
 conv=>whnf
 iterate 4 (refine dS ?_;(conv=>whnf))
 apply Exists.intro
 apply And.intro
 ·conv=>whnf
  refine ⟨⟨by show (1+b.length)*1≤140737488355328;omega,by rw [List.length_map,Nat.mul_one],allOne b⟩,?_⟩
  conv=>whnf
  exact ⟨rfl,rfl,trivial⟩
 conv=>whnf
 have ea:PV.slice (1+b.length) ([PV.int .u8 (IntKind.u8.wrap u)]++b.map byteC) none=sl (byteI u::b):=by
  rw [byteC_I,Nat.add_comm];rfl
 refine ⟨_,callK_args (congrArg (fun z=>[PV.agg ((k.drop 16).map byteC),z]) ea) (callK_pure (c113 (k.drop 16) h2 (byteI u::b) (by show b.length+1≤_;omega)) ⟨rfl,rfl,trivial⟩),?_⟩
 conv=>whnf
 refine ⟨_,callK_pure (c85 _) ⟨rfl,rfl,trivial⟩,?_⟩
 conv=>whnf
 (refine dS ?_;(conv=>whnf))
 exact ⟨rfl,(((Ext.refl H).push _).push _).set (Nat.le_refl _) _ |>.set (by simp) _⟩
theorem c55 (k:List UInt8) (hk:k.length=32) (u:Int) (b:List UInt8) (hb:b.length≤900000):Pure prog 55 [.agg (k.map byteC),.int .i64 u,sl b] (sl (tagV (k.drop 16) u b)) :=
 Pure.of_gc (by show oldPs _=true;exact oldPs_bytesY _) fun H=>c55x k hk u b hb H
def D56_7:Draw:={ cons:=[(11,[12]),(12,[46])],fs:=[(0,11,.slot 12)],looks:=[(0,12)] }
theorem xorL_take (p st:List UInt8) (i:Nat) (h:st.length=p.length) (hi:i<p.length):(xorL p st).take (i+1)=(xorL p st).take i++[p[i] ^^^ st[i]]:=by
 have hx:i<(xorL p st).length:=by rw [xorL_len p st h];exact hi
 rw [List.take_succ_eq_append_getElem hx]
 have:∀(a b:List UInt8) (h:i<(List.zipWith (· ^^^ ·) a b).length) (ha:i<a.length) (hb:i<b.length),(List.zipWith (· ^^^ ·) a b)[i]=a[i] ^^^ b[i]:=fun a b h ha hb=>by simp
 rw [show (xorL p st)[i]=p[i] ^^^ st[i] from this p st hx hi (by omega)]
theorem gC (H:PH) (a b c d:PObj):(((H++[a]++[b]).set H.length c).set (H++[a]).length d)[H.length]? = some c:=by
 rw [List.getElem?_set_ne (by simp),List.getElem?_set_self (by simp)]
theorem c56x (k:List UInt8) (hk:k.length=32) (u nn:Int) (p:List UInt8) (hp:p.length≤900000) (H:PH):CallOk prog 56 [.agg (k.map byteC),.int .i64 u,.int .u64 nn,sl p] H fun r H'=>r=sl (xorL p (streamV (k.take 16) (mixN nn u) p.length))∧∃ext,H'=H++ext:=by
 have h1:(k.take 16).length=16:=by rw [List.length_take];omega
 have h2:(k.drop 16).length=16:=by rw [List.length_drop];omega
 have q1:Nat.beq ((k.take 16).map byteC).length 16=true:=by rw [List.length_map,h1];rfl
 have q2:Nat.beq ((k.drop 16).map byteC).length 16=true:=by rw [List.length_map,h2];rfl
 have b1:Nat.ble 16 (dropN 0 ((k.take 16).map byteC)).length=true:=by rw [Nat.ble_eq,dropN_eq,List.drop_zero,List.length_map,h1];exact Nat.le_refl _
 have b32:Nat.ble 32 (dropN 0 (k.map byteC)).length=true:=by rw [Nat.ble_eq,dropN_eq,List.drop_zero,List.length_map,hk];exact Nat.le_refl _
 have hs:=set16 (k.take 16) h1
 have b1':Nat.ble 16 (dropN 0 (setCells 0 ((k.take 16).map byteC) ((List.replicate 16 (0:UInt8)).map byteC))).length=true:=by rw [hs];exact b1
 have e1:((dropN 0 (setCells 0 ((k.take 16).map byteC) ((List.replicate 16 (0:UInt8)).map byteC))).take 16).map dem=(k.take 16).map byteC:=by rw [hs];exact agg16 _ h1
 (refine fnS (imm:=imm56) ttQ4_ok func56 ?_;(conv=>whnf))
 ((conv in (Nat.ble _ _)=>tactic=>exact b32);(conv=>whnf))
 refine callK_args (congrArg (fun z=>[PV.agg z]) (agg32 k hk)) (callK_pure (c112 k hk) ?_)
 conv=>whnf
 ((conv in (_[_]?)=>tactic=>exact (gA H _ _));(conv=>whnf))
 (conv in (Nat.beq _ _)=>tactic=>exact q1)
 conv=>whnf
 (conv in (List.all _ _)=>tactic=>exact allOne (k.take 16))
 conv=>whnf
 ((conv in (_[_]?)=>tactic=>exact (gB H _ _ _));(conv=>whnf))
 (conv in (Nat.beq _ _)=>tactic=>exact q2)
 conv=>whnf
 (conv in (List.all _ _)=>tactic=>exact allOne (k.drop 16))
 conv=>whnf
 ((conv in (_[_]?)=>tactic=>exact (gC H _ _ _ _));(conv=>whnf))
 ((conv in (Nat.ble _ _)=>tactic=>exact b1');(conv=>whnf))
 refine callK_args (congrArg (fun z=>[PV.agg z]) e1) (callK_pure (c115 (k.take 16) h1) ?_)
 conv=>whnf
 refine callK_args rfl (callK_pure (c114 (k.take 16) (mixN nn u) p.length (by omega)) ?_)
 conv=>whnf
 generalize hst:streamV (k.take 16) (mixN nn u) p.length=st
 have hl:st.length=p.length:=by rw [←hst,streamV_len]
 refine loopK_of Nat (fun i=>[(3,sl p),(11,sl st),(12,ow ((xorL p st).take i)),(13,.int .i64 i)]) (fun _=>_) (fun i=>i≤p.length) (fun i=>p.length - i) ⟨0,Nat.zero_le _,⟨rfl,rfl,rfl,rfl,trivial⟩,rfl⟩ ?_
 intro i hi
 conv=>whnf
 refine ⟨fun h=>?_,fun h=>?_⟩
 ·have h:(i:Int)<p.length:=h
  have hip:i<p.length:=by omega
  have his:i<st.length:=by omega
  conv=>whnf
  refine drawK_of2 D56_7 [_] (by kernel_rfl) rfl ⟨trivial,trivial⟩ ?_
  conv=>whnf
  apply Exists.intro
  apply And.intro
  ·conv=>whnf
   exact ⟨rfl,rfl,rfl,trivial⟩
  conv=>whnf
  iterate 2 (refine dS ?_;(conv=>whnf))
  refine ⟨.elem [byteC p[i]],⟨⟨by show (0:Int)≤(i:Int);omega,h⟩,[byteC p[i]],at1' (k:=(i:Int).toNat*1) (by rw [Int.toNat_natCast,Nat.mul_one,List.getElem?_map,List.getElem?_eq_getElem hip];rfl),rfl,rfl,trivial⟩,?_⟩
  conv=>whnf
  iterate 3 (refine dS ?_;(conv=>whnf))
  refine ⟨.elem [byteC st[i]],⟨⟨by show (0:Int)≤(i:Int);omega,by show (i:Int)<(st.length:Int);omega⟩,[byteC st[i]],at1' (k:=(i:Int).toNat*1) (by rw [Int.toNat_natCast,Nat.mul_one,List.getElem?_map,List.getElem?_eq_getElem his];rfl),rfl,rfl,trivial⟩,?_⟩
  conv=>whnf
  iterate 3 (refine dS ?_;(conv=>whnf))
  have hlt:((xorL p st).take i).length=i:=by rw [List.length_take,xorL_len p st hl];omega
  apply Exists.intro
  apply And.intro
  ·conv=>whnf
   refine ⟨⟨by show (((xorL p st).take i).length+1)*1≤140737488355328;omega,rfl,rfl⟩,?_⟩
   conv=>whnf
   exact ⟨rfl,rfl,trivial⟩
  conv=>whnf
  (refine dS ?_;(conv=>whnf))
  refine ⟨i+1,by omega,⟨rfl,rfl,?_,?_,trivial⟩,rfl,by omega⟩
  ·show PV.slice (((xorL p st).take i).length+1) (((xorL p st).take i).map byteC++[.int .u8 (ibits .xor .u8 (p[i].toNat:Int) (st[i].toNat:Int))]) (some 5)=ow ((xorL p st).take (i+1))
   rw [xor8,xorL_take p st i hl hip,←ow_app]
   rfl
  ·show PV.int _ (IntKind.i64.wrap ((i:Int)+1))=PV.int _ _
   rw [wrap64 (by omega) (by omega)];simp
 ·have h:¬(i:Int)<p.length:=h
  have e:(xorL p st).take i=xorL p st:=List.take_of_length_le (by rw [xorL_len p st hl];omega)
  rw [e]
  conv=>whnf
  exact ⟨rfl,((((Ext.refl H).push _).push _).set (Nat.le_refl _) _).set (by simp) _⟩
theorem c56 (k:List UInt8) (hk:k.length=32) (u nn:Int) (p:List UInt8) (hp:p.length≤900000):Pure prog 56 [.agg (k.map byteC),.int .i64 u,.int .u64 nn,sl p] (sl (xorL p (streamV (k.take 16) (mixN nn u) p.length))) :=
 Pure.of_gc (by show oldPs _=true;exact oldPs_bytesY _) fun H=>c56x k hk u nn p hp H
def D34:Draw:={ cons:=[(9,[32]),(10,[39])] }
theorem c34 (k:List UInt8) (hk:k.length=32) (u n:Int) (hu:isUseB u=true) (hn0:0≤n) (hn1:n≤1099511627776) (p:List UInt8) (hp:p.length≤784) :
  Pure prog 34 [.agg (k.map byteC),.int .i64 u,.int .i64 n,sl p] (.tup [ow (sealV (k.drop 16) u (IntKind.u64.wrap n) p (streamV (k.take 16) (mixN (IntKind.u64.wrap n) u) p.length)),.int .i64 0]):=by
 intro H
 have hu':0≤u∧u≤255:=by
  unfold isUseB at hu
  rw [Bool.and_eq_true] at hu
  exact ⟨of_decide_eq_true hu.1,of_decide_eq_true hu.2⟩
 have b32:Nat.ble 32 (dropN 0 (k.map byteC)).length=true:=by rw [Nat.ble_eq,dropN_eq,List.drop_zero,List.length_map,hk];exact Nat.le_refl _
 (refine fnS (imm:=imm34) ttQ4_ok func34 ?_;(conv=>whnf))
 refine ⟨fun h=>absurd h (by omega),fun _=>?_⟩
 conv=>whnf
 refine ⟨fun h=>absurd h (by omega),fun _=>?_⟩
 conv=>whnf
 refine ⟨fun h=>absurd h (by omega),fun _=>?_⟩
 conv=>whnf
 refine ⟨fun h=>absurd h (by omega),fun _=>?_⟩
 conv=>whnf
 refine ⟨fun h=>absurd (show (784:Int)<p.length from h) (by omega),fun _=>?_⟩
 conv=>whnf
 generalize hst:streamV (k.take 16) (mixN (IntKind.u64.wrap n) u) p.length=st
 have hl:st.length=p.length:=by rw [←hst,streamV_len]
 have hx:=xorL_len p st hl
 refine drawK_of2 D34 [H] (by kernel_rfl) rfl trivial ?_
 conv=>whnf
 iterate 2 (refine dS ?_;(conv=>whnf))
 refine ⟨_,callK_pure (c85 _) ⟨rfl,rfl,trivial⟩,?_⟩
 conv=>whnf
 refine ⟨.agg (k.map byteC),?_,?_⟩
 ·conv=>whnf
  ((conv in (Nat.ble _ _)=>tactic=>exact b32);(conv=>whnf))
  exact ⟨congrArg PV.agg (agg32 k hk),rfl,trivial⟩
 conv=>whnf
 iterate 4 (refine dS ?_;(conv=>whnf))
 refine ⟨sl (xorL p st),callK_pure ((c56 k hk u (IntKind.u64.wrap n) p (by omega)).of_eq (by rw [hst])) ⟨rfl,rfl,trivial⟩,?_⟩
 conv=>whnf
 apply Exists.intro
 apply And.intro
 ·conv=>whnf
  refine ⟨⟨by show ((8+(xorL p st).length)*1≤_);omega,by simp,allOne _⟩,?_⟩
  conv=>whnf
  exact ⟨rfl,rfl,trivial⟩
 conv=>whnf
 (refine dS ?_;(conv=>whnf))
 ((conv in (Nat.ble _ _)=>tactic=>exact b32);(conv=>whnf))
 have ha:(bigV (IntKind.u64.wrap n)++xorL p st).length≤900000:=by rw [List.length_append,bigV_len];omega
 refine callK_args (args':=[.agg (k.map byteC),.int .i64 u,sl (bigV (IntKind.u64.wrap n)++xorL p st)]) ?_ (callK_pure (c55 k hk u _ ha) ?_)
 ·have ek:((k.map byteC).take 32).map dem=k.map byteC:=agg32 k hk
  show [PV.agg (((k.map byteC).take 32).map dem),PV.int .i64 u,PV.slice ((bigV (IntKind.u64.wrap n)).length+(xorL p st).length) ((bigV (IntKind.u64.wrap n)).map byteC++(xorL p st).map byteC) none]=_
  rw [ek]
  unfold sl
  rw [List.length_append,List.map_append]
 conv=>whnf
 refine ⟨⟨by show ((8+(xorL p st).length+8)*1≤_);omega,by simp,allOne _⟩,?_⟩
 conv=>whnf
 refine ⟨?_,rfl⟩
 show PV.tup [.slice ((bigV (IntKind.u64.wrap n)).length+(xorL p st).length+(tagV (k.drop 16) u (bigV (IntKind.u64.wrap n)++xorL p st)).length) (((bigV (IntKind.u64.wrap n)).map byteC++(xorL p st).map byteC)++(tagV (k.drop 16) u (bigV (IntKind.u64.wrap n)++xorL p st)).map byteC) (some 5),.int .i64 0]=_
 rw [←List.length_append,←List.map_append,ow_app]
 rfl
set_option maxHeartbeats 1000000
/-! How the heap goes on while boxes seal and open. -/
theorem byteC_inj {a b:UInt8} (h:byteC a=byteC b):a=b:=by
 have h:PV.int .u8 (a.toNat:Int)=PV.int .u8 (b.toNat:Int):=h
 injection h with _ h
 exact (byte_int a b).1 h
theorem map_byteC_inj:∀{a b:List UInt8},a.map byteC=b.map byteC→a=b
 | [],[],_=>rfl
 | [],_::_,h=>by simp at h
 | _::_,[],h=>by simp at h
 | x::a,y::b,h=>by
  rw [List.map_cons,List.map_cons] at h
  injection h with h1 h2
  rw [byteC_inj h1,map_byteC_inj h2]
theorem keyO_take {k:List UInt8} (hk:k.length=16) (d m s:Int) (l:List Int) (md:Int) (v:Nat):(keyO k d m s l md v).cs.take 16=k.map byteC:=by
 show List.take 16 ((k.map byteC++[.int .u32 d,.int .i32 m,.int .u32 s])++l.map u32C++[.int .u32 md])=_
 rw [List.append_assoc,List.append_assoc,List.take_append_of_le_length (by simp [hk]),List.take_of_length_le (by simp [hk])]
theorem KeySt.take {k:List UInt8} {o:PObj} (h:KeySt k o) (hk:k.length=16):o.cs.take 16=k.map byteC:=by
 rcases h with ⟨v,rfl⟩ | ⟨v,rfl⟩
 ·exact keyO_take hk ..
 ·exact keyO_take hk ..
def keyT:Nat:=(keyO [] 0 0 0 [] 0 0).T
def boxT:Nat:=(boxS 0 [] 0 0 0 0).T
theorem KeySt.T {k:List UInt8} {o:PObj} (h:KeySt k o):o.T=keyT:=by rcases h with ⟨v,rfl⟩ | ⟨v,rfl⟩ <;> rfl
theorem key_box:keyT≠boxT:=by decide
theorem boxS_inj {sid sid':Nat} {sp sp':List UInt8} {s o r s' o' r':Int} {v v':Nat} (h:boxS sid sp s o r v=boxS sid' sp' s' o' r' v'):sid=sid'∧sp=sp':=by
 have h:[PV.ptr (some (sid,0))]++sp.map byteC++[.int .i64 s,.int .i64 o,.int .i64 r]=[PV.ptr (some (sid',0))]++sp'.map byteC++[.int .i64 s',.int .i64 o',.int .i64 r']:=congrArg PObj.cs h
 have h1:=(List.append_inj' h rfl).1
 have h2:PV.ptr (some (sid,0))::sp.map byteC=PV.ptr (some (sid',0))::sp'.map byteC:=h1
 injection h2 with h3 h4
 injection h3 with h3
 injection h3 with h3
 injection h3 with h3 _
 exact ⟨h3,map_byteC_inj h4⟩
def BoxAt (H:PH) (bid:Nat) (key:List UInt8):Prop:=key.length=32∧∃sid s o r v so,H[bid]? = some (boxS sid (key.drop 16) s o r v)∧H[sid]? = some so∧KeySt (key.take 16) so
structure Evo (S:Nat→Prop) (H H':PH):Prop where
 len:H.length≤H'.length
 box:∀bid key,BoxAt H bid key→BoxAt H' bid key
 same:∀(id:Nat) (o:PObj),H[id]? = some o→¬S id→o.T≠keyT→o.T≠boxT→H'[id]? = some o
theorem Evo.refl {S:Nat→Prop} (H:PH):Evo S H H:=⟨Nat.le_refl _,fun _ _ h=>h,fun _ _ h _ _ _=>h⟩
theorem Evo.trans {S:Nat→Prop} {H H1 H2:PH} (h:Evo S H H1) (k:Evo S H1 H2):Evo S H H2 :=
 ⟨Nat.le_trans h.len k.len,fun b key hb=>k.box b key (h.box b key hb),fun id o ho hs h1 h2=>k.same id o (h.same id o ho hs h1 h2) hs h1 h2⟩
theorem Evo.mono {S S':Nat→Prop} {H H':PH} (h:Evo S H H') (hs:∀id,S id→S' id):Evo S' H H':=⟨h.len,h.box,fun id o ho hn=>h.same id o ho fun hh=>hn (hs id hh)⟩
theorem Evo.app {S:Nat→Prop} (H l:PH):Evo S H (H++l) :=
 have g:∀(id:Nat) (o:PObj),H[id]? = some o→(H++l)[id]? = some o:=fun id o h=>by rw [List.getElem?_append_left (List.getElem?_eq_some_iff.1 h).1];exact h
 ⟨by simp,fun b key ⟨hk,sid,s,o,r,v,so,h1,h2,h3⟩=>⟨hk,sid,s,o,r,v,so,g _ _ h1,g _ _ h2,h3⟩,fun id o h _ _ _=>g id o h⟩
theorem Evo.setBox {S:Nat→Prop} {H:PH} {bid sid:Nat} {sp:List UInt8} {s o r:Int} {v:Nat} (h:H[bid]? = some (boxS sid sp s o r v)) (s' o' r':Int) (v':Nat):Evo S H (H.set bid (boxS sid sp s' o' r' v')):=by
 refine ⟨by simp,fun b key ⟨hk,sid2,s2,o2,r2,v2,so,h1,h2,h3⟩=>?_,fun id x hx _ _ hb=>?_⟩
 ·have hne:bid≠sid2:=fun e=>by
   subst e
   rw [h] at h2;cases h2
   exact key_box h3.T.symm
  by_cases e:bid=b
  ·subst e
   rw [h] at h1
   obtain ⟨rfl,rfl⟩:=boxS_inj (Option.some.inj h1)
   exact ⟨hk,sid,s',o',r',v',so,get_set h,by rw [List.getElem?_set_ne hne];exact h2,h3⟩
  ·exact ⟨hk,sid2,s2,o2,r2,v2,so,by rw [List.getElem?_set_ne e];exact h1,by rw [List.getElem?_set_ne hne];exact h2,h3⟩
 ·have e:bid≠id:=fun e=>by
   subst e
   rw [h] at hx;cases hx
   exact hb rfl
  rw [List.getElem?_set_ne e];exact hx
theorem Evo.setKey {S:Nat→Prop} {H:PH} {sid:Nat} {k:List UInt8} {so so':PObj} (h:H[sid]? = some so) (hk:k.length=16) (h1:KeySt k so) (h2:KeySt k so'):Evo S H (H.set sid so'):=by
 refine ⟨by simp,fun b key ⟨hkl,sid2,s2,o2,r2,v2,so2,g1,g2,g3⟩=>?_,fun id x hx _ hb _=>?_⟩
 ·have hne:sid≠b:=fun e=>by
   subst e
   rw [h] at g1;cases g1
   exact key_box h1.T.symm
  by_cases e:sid=sid2
  ·subst e
   rw [h] at g2;cases g2
   have e2:k=key.take 16:=map_byteC_inj ((h1.take hk).symm.trans (g3.take (by simp [hkl])))
   subst e2
   exact ⟨hkl,sid,s2,o2,r2,v2,so',by rw [List.getElem?_set_ne hne];exact g1,get_set h,h2⟩
  ·exact ⟨hkl,sid2,s2,o2,r2,v2,so2,by rw [List.getElem?_set_ne hne];exact g1,by rw [List.getElem?_set_ne e];exact g2,g3⟩
 ·have e:sid≠id:=fun e=>by
   subst e
   rw [h] at hx;cases hx
   exact hb h1.T
  rw [List.getElem?_set_ne e];exact hx
theorem Evo.setOther {S:Nat→Prop} {H:PH} {id:Nat} {o o':PObj} (h:H[id]? = some o) (hs:S id) (h1:o.T≠keyT) (h2:o.T≠boxT):Evo S H (H.set id o'):=by
 refine ⟨by simp,fun b key ⟨hkl,sid2,s2,o2,r2,v2,so2,g1,g2,g3⟩=>?_,fun id2 x hx hn _ _=>?_⟩
 ·have e1:id≠b:=fun e=>by
   subst e
   rw [h] at g1;cases g1
   exact h2 rfl
  have e2:id≠sid2:=fun e=>by
   subst e
   rw [h] at g2;cases g2
   exact h1 g3.T
  exact ⟨hkl,sid2,s2,o2,r2,v2,so2,by rw [List.getElem?_set_ne e1];exact g1,by rw [List.getElem?_set_ne e2];exact g2,g3⟩
 ·have e:id≠id2:=fun e=>hn (e▸hs)
  rw [List.getElem?_set_ne e];exact hx
/-! What is sealed, and opened. -/
def sealK (key:List UInt8) (u n:Int) (p:List UInt8):List UInt8:=sealV (key.drop 16) u (IntKind.u64.wrap n) p (streamV (key.take 16) (mixN (IntKind.u64.wrap n) u) p.length)
def openK (key:List UInt8) (u:Int) (b:List UInt8):Option (List UInt8):=match openB (key.drop 16) u b with
 | true=>some (xorL ((b.take (b.length - 8)).drop 8) (streamV (key.take 16) (mixN (beN (b.take 8):Nat) u) (b.length - 16)))
 | false=>none
def openV (key:List UInt8) (u:Int) (b:List UInt8):PV:=match openK key u b with
 | some p=>.tup [sl p,.int .i64 0]
 | none=>.tup [sl [],.int .i64 3]
theorem sealAt {H:PH} {bid:Nat} {key:List UInt8} (hb:BoxAt H bid key) (u n:Int) (hu:isUseB u=true) (hn0:0≤n) (hn1:n≤1099511627776) (p:List UInt8) (hp:p.length≤784) :
  CallOk prog 108 [.ptr (some (bid,0)),.int .i64 u,.int .i64 n,sl p] H fun x H'=>x=.tup [ow (sealK key u n p),.int .i64 0]∧Evo (fun _=>False) H H'∧H'.length=H.length:=by
 obtain ⟨hk,sid,s,o,r,v,so,h1,h2,h3⟩:=hb
 have hne:bid≠sid:=fun e=>by
  subst e
  rw [h1] at h2;cases h2
  exact key_box h3.T.symm
 have hk16:(key.take 16).length=16:=by simp [hk]
 refine (c108 (KeySt (key.take 16)) (fun o' h=>h.flat) so sid n u hu hn0 hn1 p (streamV (key.take 16) (mixN (IntKind.u64.wrap n) u) p.length) (streamV_len _ _ _) hp
  (fun H' hs=>c225 wordsOk (key.take 16) hk16 sid _ p.length (by omega) so h3 H' hs) (key.drop 16) (by simp [hk]) s o r v bid H h1 h2 hne).mono fun x H' hh=>?_
 obtain ⟨rfl,o',ho',rfl⟩:=hh
 refine ⟨rfl,(Evo.setBox h1 (IntKind.i64.wrap (s+1)) o r (v+1)).trans (Evo.setKey (k:=key.take 16) (so:=so) (by rw [List.getElem?_set_ne hne];exact h2) hk16 h3 ho'),by simp⟩
theorem openAt {H:PH} {bid:Nat} {key:List UInt8} (hb:BoxAt H bid key) (u:Int) (hu:isUseB u=true) (b:List UInt8) :
  CallOk prog 123 [.ptr (some (bid,0)),.int .i64 u,sl b] H fun x H'=>x=openV key u b∧Evo (fun _=>False) H H'∧H'.length=H.length:=by
 obtain ⟨hk,sid,s,o,r,v,so,h1,h2,h3⟩:=hb
 have hne:bid≠sid:=fun e=>by
  subst e
  rw [h1] at h2;cases h2
  exact key_box h3.T.symm
 have hk16:(key.take 16).length=16:=by simp [hk]
 unfold openV openK
 by_cases hl:16≤b.length∧b.length≤800
 ·refine (c123o (key.take 16) hk16 so h3 sid u hu b (key.drop 16) (by simp [hk]) s o r v bid H h1 h2 hne hl.1 hl.2).demT fun x H' hh=>?_
  cases e:openB (key.drop 16) u b
  ·rw [e] at hh
   obtain ⟨rfl,rfl⟩:=hh
   exact ⟨_,rfl,rfl,Evo.setBox h1 _ _ _ _,by simp⟩
  ·rw [e] at hh
   obtain ⟨rfl,o',ho',rfl⟩:=hh
   exact ⟨_,rfl,rfl,(Evo.setBox h1 s (IntKind.i64.wrap (o+1)) r (v+1)).trans (Evo.setKey (k:=key.take 16) (so:=so) (by rw [List.getElem?_set_ne hne];exact h2) hk16 h3 ho'),by simp⟩
 ·have e:openB (key.drop 16) u b=false:=by
   unfold openB
   by_cases h16:16≤b.length
   ·rw [decide_eq_false (p:=b.length≤800) (fun h=>hl ⟨h16,h⟩),Bool.and_false,Bool.false_and,Bool.false_and]
   ·rw [decide_eq_false h16,Bool.false_and,Bool.false_and,Bool.false_and]
  rw [e]
  refine (c123z u hu b (by omega) sid (key.drop 16) (by simp [hk]) s o r v bid H h1).demT fun x H' hh=>?_
  obtain ⟨rfl,rfl⟩:=hh
  exact ⟨_,rfl,rfl,Evo.setBox h1 _ _ _ _,by simp⟩
theorem beN_bigV (n:Nat) (hn:n≤1099511627776):beN (bigV (n:Int))=n:=by
 have e:∀k:Nat,k≤56→(byteI (ishr .u64 (n:Int) k)).toNat=n / 2 ^ k % 256:=fun k hk=>by
  have h1:ishr .u64 (n:Int) k=((n / 2 ^ k:Nat):Int):=by
   show Int.fdiv (n:Int) (2 ^ (min (k:Int).toNat 64))=_
   rw [Int.toNat_natCast,Nat.min_eq_left (by omega),show ((2:Int) ^ k)=((2 ^ k:Nat):Int) by push_cast;rfl]
   rw [Int.fdiv_eq_ediv_of_nonneg _ (Int.natCast_nonneg _)]
   rfl
  rw [h1]
  unfold byteI
  rw [UInt8.toNat_ofNat']
  omega
 have e56:=e 56 (by decide)
 have e48:=e 48 (by decide)
 have e40:=e 40 (by decide)
 have e32:=e 32 (by decide)
 have e24:=e 24 (by decide)
 have e16:=e 16 (by decide)
 have e8:=e 8 (by decide)
 have e0:=e 0 (by decide)
 show ((((((((0*256+(byteI (ishr .u64 (n:Int) 56)).toNat)*256+(byteI (ishr .u64 (n:Int) 48)).toNat)*256+(byteI (ishr .u64 (n:Int) 40)).toNat)*256+(byteI (ishr .u64 (n:Int) 32)).toNat)*256+(byteI (ishr .u64 (n:Int) 24)).toNat)*256+(byteI (ishr .u64 (n:Int) 16)).toNat)*256+(byteI (ishr .u64 (n:Int) 8)).toNat)*256+(byteI (ishr .u64 (n:Int) 0)).toNat)=n
 simp only [show ((56:Nat):Int)=56 from rfl,show ((48:Nat):Int)=48 from rfl,show ((40:Nat):Int)=40 from rfl,show ((32:Nat):Int)=32 from rfl,show ((24:Nat):Int)=24 from rfl,show ((16:Nat):Int)=16 from rfl,show ((8:Nat):Int)=8 from rfl,show ((0:Nat):Int)=0 from rfl] at e56 e48 e40 e32 e24 e16 e8 e0
 rw [e56,e48,e40,e32,e24,e16,e8,e0]
 omega
theorem xorL_xorL:∀(p st:List UInt8),st.length=p.length→xorL (xorL p st) st=p
 | [],_,_=>by simp [xorL]
 | x::p,[],h=>by simp at h
 | x::p,y::st,h=>by
  have ih:=xorL_xorL p st (by simpa using h)
  show ((x ^^^ y) ^^^ y)::xorL (xorL p st) st=x::p
  rw [ih]
  congr 1
  rw [UInt8.xor_assoc,UInt8.xor_self,UInt8.xor_zero]
theorem sealV_len (sp:List UInt8) (u nn:Int) (p st:List UInt8) (h:st.length=p.length):(sealV sp u nn p st).length=p.length+16:=by
 unfold sealV tagV
 rw [List.length_append,List.length_append,bigV_len,bigV_len,xorL_len p st h];omega
theorem sealK_len (key:List UInt8) (u n:Int) (p:List UInt8):(sealK key u n p).length=p.length+16:=sealV_len _ _ _ _ _ (streamV_len _ _ _)
theorem sealK_head (key:List UInt8) (u n:Int) (p:List UInt8):(sealK key u n p).take 8=bigV (IntKind.u64.wrap n):=by
 unfold sealK sealV
 rw [List.append_assoc,List.take_append_of_le_length (by rw [bigV_len];omega),List.take_of_length_le (by rw [bigV_len];omega)]
theorem open_seal (key:List UInt8) (u n:Int) (p:List UInt8) (hn0:0≤n) (hn1:n≤1099511627776) (hp:p.length≤784):openK key u (sealK key u n p)=some p:=by
 obtain ⟨m,rfl⟩:∃m:Nat,n=m:=⟨n.toNat,by omega⟩
 have hw:IntKind.u64.wrap (m:Int)=(m:Int):=wrapU64 (by omega)
 have hlen:=sealK_len key u m p
 have hhead:=sealK_head key u m p
 rw [hw] at hhead
 have hst:=streamV_len (key.take 16) (mixN (IntKind.u64.wrap (m:Int)) u) p.length
 generalize hS:streamV (key.take 16) (mixN (IntKind.u64.wrap (m:Int)) u) p.length=st at hst
 have hx:=xorL_len p st hst
 have hbody:(sealK key u m p).take ((sealK key u m p).length - 8)=bigV (m:Int)++xorL p st:=by
  rw [hlen]
  unfold sealK sealV
  rw [hw] at hS ⊢
  rw [hS,List.take_append_of_le_length (by rw [List.length_append,bigV_len];omega),List.take_of_length_le (by rw [List.length_append,bigV_len];omega)]
 have htag:(sealK key u m p).drop ((sealK key u m p).length - 8)=tagV (key.drop 16) u (bigV (m:Int)++xorL p st):=by
  rw [hlen]
  unfold sealK sealV
  rw [hw] at hS ⊢
  rw [hS]
  have e:p.length+16 - 8=(bigV (m:Int)++xorL p st).length:=by rw [List.length_append,bigV_len];omega
  rw [e,List.drop_left]
 have hop:openB (key.drop 16) u (sealK key u m p)=true:=by
  unfold openB
  rw [hhead,hbody,htag,decide_eq_true (by omega),decide_eq_true (by omega),beN_bigV m (by omega),decide_eq_true (by omega),decide_eq_true rfl];rfl
 unfold openK
 rw [hop]
 show some _=some p
 rw [hbody,hhead,hlen,beN_bigV m (by omega)]
 rw [hw] at hS
 have e8:(bigV (m:Int)++xorL p st).drop 8=xorL p st:=by
  rw [List.drop_append_of_le_length (by rw [bigV_len];omega),List.drop_eq_nil_of_le (by rw [bigV_len];omega),List.nil_append]
 rw [e8,show p.length+16 - 16=p.length by omega,hS,xorL_xorL p st hst]
theorem speck_key (k:List UInt8):KeySt k (speckO k):=by
 refine .inl ⟨0,?_⟩
 show PObj.mk _ (k.map byteC++([.int .u32 0,.int .i32 0]++List.replicate 29 (.int .u32 0))) 0=PObj.mk _ ((k.map byteC++[.int .u32 0,.int .i32 0,.int .u32 0])++(List.replicate 27 (0:Int)).map u32C++[.int .u32 0]) 0
 rw [List.append_assoc,List.append_assoc]
 rfl
theorem ringT (l:List Ent) (v:Nat):(ringO l v).T≠keyT∧(ringO l v).T≠boxT:=⟨fun h=>absurd (show (ringO [] 0).T=keyT from h) (by decide),fun h=>absurd (show (ringO [] 0).T=boxT from h) (by decide)⟩
structure Adds (H:PH) (rid:Nat) (l:List Ent) (r n key:List UInt8) (H':PH):Prop where
 ex:∃(e:Ent) (v':Nat),e.r=r∧e.n=n∧e.kv=nextKv (lastE (isP r n) l)∧e.key=key∧H'[rid]? = some (ringO (l++[e]) v')∧BoxAt H' e.box key
 evo:Evo (·=rid) H H'
def addB (l:List Ent) (r n:List UInt8):Bool:=isPrincB r n&&!decide (40≤l.length∨255<nextKv (lastE (isP r n) l))
structure RingAt (H:PH) (rid:Nat) (l:List Ent):Prop where
 ex:∃v,H[rid]? = some (ringO l v)
 box:∀e∈l,BoxAt H e.box e.key
theorem RingAt.klen {H:PH} {rid:Nat} {l:List Ent} (h:RingAt H rid l):∀e∈l,e.key.length=32:=fun e he=>(h.box e he).1
theorem RingAt.evo {S:Nat→Prop} {H H':PH} {rid:Nat} {l:List Ent} (h:RingAt H rid l) (k:Evo S H H') (hs:¬S rid):RingAt H' rid l:=by
 obtain ⟨⟨v,h1⟩,h2⟩:=h
 exact ⟨⟨v,k.same _ _ h1 hs (ringT _ _).1 (ringT _ _).2⟩,fun e he=>k.box _ _ (h2 e he)⟩
theorem RingAt.add {H H':PH} {rid:Nat} {l:List Ent} {r n key:List UInt8} (h:RingAt H rid l) (k:Adds H rid l r n key H'):∃e,e.r=r∧e.n=n∧e.kv=nextKv (lastE (isP r n) l)∧e.key=key∧RingAt H' rid (l++[e]):=by
 obtain ⟨⟨e,v',h1,h2,h3,h4,h5,h6⟩,h7⟩:=k
 refine ⟨e,h1,h2,h3,h4,⟨v',h5⟩,fun x hx=>?_⟩
 rcases List.mem_append.1 hx with hx | hx
 ·exact h7.box _ _ (h.box x hx)
 ·have:x=e:=by simpa using hx
  subst this
  rw [h4];exact h6
theorem lastE_mem {f:Ent→Bool} {l:List Ent} {e:Ent} (h:lastE f l=some e):e∈l:=List.mem_reverse.1 (List.mem_of_find?_eq_some h)
theorem boxGet {H:PH} {rid:Nat} {l:List Ent} (h:RingAt H rid l) (hl:l.length≤1000) (r n:List UInt8) (k:Int) :
  CallOk prog 122 [.ptr (some (rid,0)),.agg [.str r,.str n],.int .i64 k] H fun x H'=>x=boxR (lastE (isK r n k) l)∧H'=H:=by
 obtain ⟨v,hv⟩:=h.ex
 exact c122 hv hl h.klen r n k
theorem lastGet {H:PH} {rid:Nat} {l:List Ent} (h:RingAt H rid l) (hl:l.length≤1000) (r n:List UInt8) :
  CallOk prog 49 [.ptr (some (rid,0)),.agg [.str r,.str n]] H fun x H'=>x=lastR (lastE (isP r n) l)∧H'=H:=by
 obtain ⟨v,hv⟩:=h.ex
 exact c49 hv hl h.klen r n
theorem newRing {H:PH}:RingAt (H++[ringO [] 0]) H.length []:=⟨⟨0,by simp⟩,fun e he=>by cases he⟩
theorem partL_784 {p:Prt} (h:isPartB p=true):(partL p).length≤784:=by
 have h0:=part_len p
 unfold isPartB at h
 simp only [Bool.and_eq_true] at h
 have gp:=princ_len h.1.1
 have gt:=isText_len h.1.2
 have g_st:=inZ_le h.2.1
 have g_en:=inZ_le h.2.2
 omega
theorem rptL_784 {p:Rpt} (h:isRptB p=true):(rptL p).length≤784:=by
 have h0:=rpt_len p
 unfold isRptB at h
 simp only [Bool.and_eq_true] at h
 have gp:=princ_len h.1.1
 have g_st:=inZ_le h.1.2.1
 have g_en:=inZ_le h.1.2.2
 have g_nc:=inZ_le h.2
 omega
structure RepO where
 cr:List UInt8
 cn:List UInt8
 sr:List UInt8
 sn:List UInt8
 kv:Int
 tb:List UInt8
 bl:List UInt8
def RepO.cells (r:RepO):List PV:=[.str r.cr,.str r.cn,.str r.sr,.str r.sn,.int .i64 r.kv,sl r.tb,sl r.bl]
def repZ:RepO:=⟨[],[],[],[],0,[],[]⟩
def rptOf (p:Prt) (sr sn:List UInt8) (nonce:Int):Rpt:=⟨p.k,sr,sn,p.st,p.en,nonce⟩
def makeV (l:List Ent) (n:Int) (sr sn:List UInt8) (p:Prt) (nonce:Int) (bkey:List UInt8) (u:Int):RepO×Int:=match lastE (isP sr sn) l with
 | none=>(repZ,4)
 | some e=>match isPartB p&&isRptB (rptOf p sr sn nonce) with
  | true=>(⟨p.r,p.n,sr,sn,e.kv,sealK e.key 2 (n+1) (partL p),sealK bkey u (n+2) (rptL (rptOf p sr sn nonce))⟩,0)
  | false=>(repZ,2)
structure AsQ where
 cr:List UInt8
 cn:List UInt8
 sr:List UInt8
 sn:List UInt8
 till:Int
 nonce:Int
def AsQ.cells (q:AsQ):List PV:=[.str q.cr,.str q.cn,.str q.sr,.str q.sn,.int .i64 q.till,.int .i64 q.nonce]
def AsQ.ok (q:AsQ):Bool:=isPrincB q.cr q.cn&&isPrincB q.sr q.sn&&inZ q.till 0 1073741824&&inZ q.nonce 0 1073741824
def lateB (now:Int):Bool:=decide (now<0)||decide (1073741824<now)
def krb (r:List UInt8):List UInt8:=krbB++r
def asPart (q:AsQ) (now:Int) (draw:Nat→UInt8):Prt:=⟨q.cr,q.cn,draw,[],now,min q.till (now+1000)⟩
def asV (realm:List UInt8) (l:List Ent) (n:Int) (q:AsQ) (now:Int) (draw:Nat→UInt8):RepO×Int:=match lateB now||!q.ok with
 | true=>(repZ,1)
 | false=>match lastE (isP q.cr q.cn) l with
  | none=>(repZ,5)
  | some c=>match decide (q.cr=realm) with
   | false=>(repZ,5)
   | true=>match lastE (isP q.sr q.sn) l with
    | none=>(repZ,6)
    | some s=>match decide (q.sr=realm∧q.sn=krb realm) with
     | false=>(repZ,6)
     | true=>match decide (q.till<now) with
      | true=>(repZ,7)
      | false=>makeV l n q.sr q.sn (asPart q now draw) q.nonce c.key 3
set_option maxHeartbeats 2000000
def ttXr:TT:=[(3,⟨.int .i64,1,8,[.int .i64 0]⟩),(4,⟨.bool,1,1,[.bool false]⟩),(5,⟨.int .u8,1,1,[.int .u8 0]⟩),(9,⟨.str,1,16,[.str []]⟩),(25,⟨.strct [(9,0),(9,1)],2,32,[.str [],.str []]⟩),(43,⟨.arr 32 5,32,32,List.replicate 32 (.int .u8 0)⟩),(77,⟨.fn,1,8,[.nilF]⟩),(93,⟨.ptr,1,8,[.ptr none]⟩),(113,⟨.slice 210,1,24,[.slice 0 [] (some 210)]⟩),(115,⟨.strct [(113,0)],1,24,[.slice 0 [] (some 210)]⟩),(86,⟨.fn,1,8,[.nilF]⟩),(210,⟨.strct [(25,0),(3,2),(43,3)],35,72,[.str [],.str [],.int .i64 0]++List.replicate 32 (.int .u8 0)⟩)]
theorem ttXr_ok:ttOk prog ttXr=true:=by kernel_rfl
def imm99:List Nat:=[3]
def imm45:List Nat:=[4,5]
def Ent.xcells (e:Ent):List PV:=[.str e.r,.str e.n,.int .i64 e.kv]++e.key.map byteC
def xringO (l:List Ent) (v:Nat):PObj:=⟨115,[.slice l.length (l.flatMap Ent.xcells) (some 210)],v⟩
theorem xcells_len {e:Ent} (h:e.key.length=32):e.xcells.length=35:=by simp [Ent.xcells,h]
theorem xflat_at {l:List Ent} (hk:∀e∈l,e.key.length=32) {i:Nat} (hi:i<l.length) (j:Nat) (c:PV) (h:l[i].xcells[j]? = some c):(l.flatMap Ent.xcells)[i*35+j]? = some c:=by
 induction l generalizing i with
 | nil=>simp at hi
 | cons e l ih =>
  rw [List.flatMap_cons]
  have he:=xcells_len (hk e List.mem_cons_self)
  cases i with
  | zero =>
   have hj:j<e.xcells.length:=(List.getElem?_eq_some_iff.1 h).1
   rw [Nat.zero_mul,Nat.zero_add,List.getElem?_append_left hj];exact h
  | succ i =>
   rw [List.getElem?_append_right (by omega),show (i+1)*35+j - e.xcells.length=i*35+j by omega]
   exact ih (fun e he=>hk e (List.mem_cons_of_mem _ he)) (by simpa using hi) h
theorem fitXr (a b:List UInt8):FitP ttXr 6 25 [.str a,.str b]:=⟨rfl,⟨by show 1≤2;omega,a,rfl⟩,rfl,⟨by show 1≤1;omega,b,rfl⟩,rfl⟩
theorem pair_eq {a b c d:List UInt8}:([PV.str a,PV.str b]=[PV.str c,PV.str d])↔(a=c∧b=d):=by
 constructor
 ·intro h
  injection h with h1 h2
  injection h1 with h1
  injection h2 with h2 _
  injection h2 with h2
  exact ⟨h1,h2⟩
 ·rintro ⟨rfl,rfl⟩;rfl
theorem lastE_take (f:Ent→Bool) (l:List Ent) {m:Nat} (hm:m<l.length):lastE f (l.take (m+1))=if f l[m] then some l[m] else lastE f (l.take m):=by
 rw [List.take_succ_eq_append_getElem hm];exact lastE_snoc f _ _
def kvOf:Option Ent→Nat
 | none=>0
 | some e=>e.kv
theorem c99 {H:PH} {rid v:Nat} {l:List Ent} (hid:H[rid]? = some (xringO l v)) (hl:l.length≤1000) (hk:∀e∈l,e.key.length=32) (r n:List UInt8) :
  CallOk prog 99 [.ptr (some (rid,0)),.agg [.str r,.str n]] H fun x H'=>x=.int .i64 (kvOf (lastE (isP r n) l))∧H'=H:=by
 (refine fnS (imm:=imm99) ttXr_ok func99 ?_;(conv=>whnf))
 refine loopK_of FiS (fun x=>[(0,.ptr (some (rid,0))),(3,.elem [.str r,.str n]),(5,.int .i64 (kvOf (lastE (isP r n) (l.take x.k)))),(6,.int .i64 x.k)]) (fun _=>H) (fun x=>x.k≤l.length) (fun x=>l.length - x.k)
  ⟨⟨0⟩,Nat.zero_le _,⟨rfl,rfl,rfl,rfl,trivial⟩,rfl⟩ ?_
 rintro ⟨k⟩ hkl
 replace hkl:k≤l.length:=hkl
 conv=>whnf
 ((conv in (_[_]?)=>tactic=>exact hid);(conv=>whnf))
 refine ⟨fun h=>?_,fun h=>?_⟩
 ·have h:(k:Int)<l.length:=h
  have hi:k<l.length:=by omega
  have hkey:=hk _ (List.getElem_mem hi)
  have hlast:=lastE_take (isP r n) l hi
  have hat:=fun j c hj=>xflat_at hk hi j c hj
  generalize l[k]=e at hkey hlast hat
  obtain ⟨er,en,kv,key,box⟩:=e
  match key,hkey with
  | [a0,a1,a2,a3,a4,a5,a6,a7,a8,a9,a10,a11,a12,a13,a14,a15,b0,b1,b2,b3,b4,b5,b6,b7,b8,b9,b10,b11,b12,b13,b14,b15],_ =>
   conv=>whnf
   refine drawK_pure2 (by kernel_rfl) ?_
   conv=>whnf
   iterate 3 (refine dS ?_;(conv=>whnf))
   apply Exists.intro
   apply And.intro
   ·conv=>whnf
    ((conv in (_[_]?)=>tactic=>exact hid);(conv=>whnf))
    exact ⟨rfl,rfl,trivial⟩
   conv=>whnf
   (refine dS ?_;(conv=>whnf))
   refine ⟨.elem (Ent.mk er en kv [a0,a1,a2,a3,a4,a5,a6,a7,a8,a9,a10,a11,a12,a13,a14,a15,b0,b1,b2,b3,b4,b5,b6,b7,b8,b9,b10,b11,b12,b13,b14,b15] box).xcells,⟨⟨by omega,h⟩,(Ent.mk er en kv [a0,a1,a2,a3,a4,a5,a6,a7,a8,a9,a10,a11,a12,a13,a14,a15,b0,b1,b2,b3,b4,b5,b6,b7,b8,b9,b10,b11,b12,b13,b14,b15] box).xcells,hat,rfl,rfl,trivial⟩,?_⟩
   conv=>whnf
   iterate 3 (refine dS ?_;(conv=>whnf))
   by_cases hp:er=r∧en=n
   ·have hpt:isP r n ⟨er,en,kv,[a0,a1,a2,a3,a4,a5,a6,a7,a8,a9,a10,a11,a12,a13,a14,a15,b0,b1,b2,b3,b4,b5,b6,b7,b8,b9,b10,b11,b12,b13,b14,b15],box⟩=true:=decide_eq_true hp
    rw [if_pos hpt] at hlast
    refine ⟨.bool true,?_,?_⟩
    ·conv=>whnf
     refine ⟨⟨fitXr _ _,fitXr _ _⟩,?_⟩
     conv=>whnf
     exact ⟨fun _=>⟨rfl,rfl,trivial⟩,fun h=>absurd (pair_eq.2 hp) h⟩
    conv=>whnf
    ((conv in (_[_]?)=>tactic=>exact hid);(conv=>whnf))
    refine ⟨⟨by omega,h⟩,(Ent.mk er en kv [a0,a1,a2,a3,a4,a5,a6,a7,a8,a9,a10,a11,a12,a13,a14,a15,b0,b1,b2,b3,b4,b5,b6,b7,b8,b9,b10,b11,b12,b13,b14,b15] box).xcells,hat,?_⟩
    conv=>whnf
    refine ⟨⟨k+1⟩,by show k+1≤l.length;omega,⟨rfl,rfl,?_,?_,trivial⟩,rfl,by show l.length - (k+1)<l.length - k;omega⟩
    ·show PV.int .i64 kv=_
     rw [hlast];rfl
    ·show PV.int _ (IntKind.i64.wrap ((k:Int)+1))=PV.int _ _
     rw [wrap64 (by omega) (by omega)];simp
   ·have hpt:¬isP r n ⟨er,en,kv,[a0,a1,a2,a3,a4,a5,a6,a7,a8,a9,a10,a11,a12,a13,a14,a15,b0,b1,b2,b3,b4,b5,b6,b7,b8,b9,b10,b11,b12,b13,b14,b15],box⟩=true:=by
     unfold isP
     rw [decide_eq_false hp];exact Bool.false_ne_true
    rw [if_neg hpt] at hlast
    refine ⟨.bool false,?_,?_⟩
    ·conv=>whnf
     refine ⟨⟨fitXr _ _,fitXr _ _⟩,?_⟩
     conv=>whnf
     exact ⟨fun h=>absurd (pair_eq.1 h) hp,fun _=>⟨rfl,rfl,trivial⟩⟩
    conv=>whnf
    refine ⟨⟨k+1⟩,by show k+1≤l.length;omega,⟨rfl,rfl,?_,?_,trivial⟩,rfl,by show l.length - (k+1)<l.length - k;omega⟩
    ·rw [hlast];rfl
    ·show PV.int _ (IntKind.i64.wrap ((k:Int)+1))=PV.int _ _
     rw [wrap64 (by omega) (by omega)];simp
 ·have h:¬(k:Int)<l.length:=h
  have e:l.take k=l:=List.take_of_length_le (by omega)
  rw [e]
  conv=>whnf
  exact ⟨rfl,rfl⟩
def xaddH (H:PH) (rid v:Nat) (l:List Ent) (e:Ent):PH:=match addB l e.r e.n with
 | true=>H.set rid (xringO (l++[e]) (v+2))
 | false=>H
def D45 (rid:Nat):Draw:={ cons:=[(14,[36])],imp:=[11,14],win:=[(0,0,1),(12,1,1),(13,1,1),(14,1,1)],fs:=[(4,11,.cell rid 0)] }
theorem c45 {H:PH} {rid v:Nat} {l:List Ent} (hid:H[rid]? = some (xringO l v)) (hl:l.length≤1000) (hk:∀e∈l,e.key.length=32∧e.kv≤1000) (e:Ent) (hkey:e.key.length=32) (hkv:e.kv=nextKv (lastE (isP e.r e.n) l))
  (hr:e.r.length≤1099511627775) (hn:e.n.length≤1099511627775) :
  CallOk prog 45 [.ptr (some (rid,0)),.agg [.str e.r,.str e.n],.agg (e.key.map byteC)] H fun x H'=>x=addR l e.r e.n∧H'=xaddH H rid v l e:=by
 have hkvB:kvOf (lastE (isP e.r e.n) l)≤1000:=by
  cases he:lastE (isP e.r e.n) l with
  | none=>exact Nat.zero_le _
  | some x=>exact (hk x (lastE_mem he)).2
 have hN:nextKv (lastE (isP e.r e.n) l)=kvOf (lastE (isP e.r e.n) l)+1:=by cases lastE (isP e.r e.n) l <;> rfl
 unfold addR xaddH addB
 generalize hL:kvOf (lastE (isP e.r e.n) l)=N at hkvB hN
 rw [hN] at hkv ⊢
 obtain ⟨r,n,kv,key,box⟩:=e
 replace hkv:kv=N+1:=hkv
 match key,hkey with
 | [a0,a1,a2,a3,a4,a5,a6,a7,a8,a9,a10,a11,a12,a13,a14,a15,b0,b1,b2,b3,b4,b5,b6,b7,b8,b9,b10,b11,b12,b13,b14,b15],hkey =>
  (refine fnS (imm:=imm45) ttXr_ok func45 ?_;(conv=>whnf))
  refine callK_pure (c32 r n hr hn) ?_
  cases hp:isPrincB r n
  ·conv=>whnf
   exact ⟨rfl,rfl⟩
  ·conv=>whnf
   refine callK_of (c99 hid hl (fun e he=>(hk e he).1) r n) ?_
   rintro x H' ⟨hx,hH⟩
   rw [hx,hH];clear hx hH
   rw [hL]
   conv=>whnf
   ((conv in (_[_]?)=>tactic=>exact hid);(conv=>whnf))
   refine ⟨fun h40=>?_,fun h40=>?_⟩
   ·have h40:(l.length:Int) ≥ 40:=h40
    have hc:40≤l.length∨255<N+1:=by omega
    simp only [if_pos hc,decide_eq_true hc]
    conv=>whnf
    exact ⟨rfl,rfl⟩
   have h40:¬(l.length:Int) ≥ 40:=h40
   conv=>whnf
   refine ⟨fun h255=>?_,fun h255=>?_⟩
   ·have h255:(N:Int) ≥ 255:=h255
    have hc:40≤l.length∨255<N+1:=by omega
    simp only [if_pos hc,decide_eq_true hc]
    conv=>whnf
    exact ⟨rfl,rfl⟩
   have h255:¬(N:Int) ≥ 255:=h255
   have hc:¬(40≤l.length∨255<N+1):=by omega
   simp only [if_neg hc,decide_eq_false hc]
   conv=>whnf
   have h2:(H.set rid ⟨115,[.slice l.length (l.flatMap Ent.xcells) none],v+1⟩)[rid]? = some ⟨115,[.slice l.length (l.flatMap Ent.xcells) none],v+1⟩:=get_set hid
   refine drawK_of2 (D45 rid) [H,H.set rid ⟨115,[.slice l.length (l.flatMap Ent.xcells) none],v+1⟩,H.set rid (xringO (l++[⟨r,n,kv,[a0,a1,a2,a3,a4,a5,a6,a7,a8,a9,a10,a11,a12,a13,a14,a15,b0,b1,b2,b3,b4,b5,b6,b7,b8,b9,b10,b11,b12,b13,b14,b15],box⟩]) (v+2))] (by kernel_rfl) rfl ?_ ?_
   ·refine ⟨fun k h3 h4=>?_,trivial⟩
    exact absurd h4 (by show ¬k<0;omega)
   conv=>whnf
   (refine dS2 ?_;(conv=>whnf))
   iterate 3 (refine dS ?_;(conv=>whnf))
   apply Exists.intro
   apply And.intro
   ·conv=>whnf
    ((conv in (_[_]?)=>tactic=>exact hid);(conv=>whnf))
    exact ⟨rfl,rfl,rfl,trivial⟩
   conv=>whnf
   iterate 6 (refine dS ?_;(conv=>whnf))
   apply Exists.intro
   apply And.intro
   ·conv=>whnf
    ((conv in (_[_]?)=>tactic=>exact hid);(conv=>whnf))
    refine ⟨⟨by show (l.length+1)*72≤_;omega,rfl,rfl⟩,?_⟩
    conv=>whnf
    exact ⟨rfl,rfl,trivial⟩
   conv=>whnf
   iterate 2 (refine dS ?_;(conv=>whnf))
   have hw:IntKind.i64.wrap ((N:Int)+1)=(kv:Int):=by rw [wrap64 (by omega) (by omega),hkv];rfl
   apply Exists.intro
   apply And.intro
   ·conv=>whnf
    ((conv in (_[_]?)=>tactic=>exact h2);(conv=>whnf))
    refine ⟨rfl,?_,trivial⟩
    show (List.set H rid ⟨115,[.slice l.length (l.flatMap Ent.xcells) none],v+1⟩).set rid ⟨115,[PV.slice (l.length+1) (l.flatMap Ent.xcells++([.str r,.str n,.int .i64 (IntKind.i64.wrap ((N:Int)+1))]++[a0,a1,a2,a3,a4,a5,a6,a7,a8,a9,a10,a11,a12,a13,a14,a15,b0,b1,b2,b3,b4,b5,b6,b7,b8,b9,b10,b11,b12,b13,b14,b15].map byteC)) (some 210)],v+1+1⟩=List.set H rid (xringO (l++[⟨r,n,kv,[a0,a1,a2,a3,a4,a5,a6,a7,a8,a9,a10,a11,a12,a13,a14,a15,b0,b1,b2,b3,b4,b5,b6,b7,b8,b9,b10,b11,b12,b13,b14,b15],box⟩]) (v+2))
    rw [List.set_set,hw]
    unfold xringO
    rw [List.flatMap_append,List.length_append]
    rfl
   conv=>whnf
   refine ⟨?_,rfl⟩
   show PV.tup [.int .i64 (IntKind.i64.wrap ((N:Int)+1)),.int .i64 0]=PV.tup [.int .i64 ((N+1:Nat):Int),.int .i64 0]
   rw [hw,hkv]
def Inc (l:List Ent):Prop:=(∀(i j:Nat) (e f:Ent),i<j→l[i]? = some e→l[j]? = some f→e.r=f.r→e.n=f.n→e.kv<f.kv)∧∀e∈l,1≤e.kv
theorem Inc.nil:Inc []:=⟨fun i j e f _ h=>by simp at h,fun e h=>by cases h⟩
theorem lastE_none {f:Ent→Bool} {l:List Ent}:lastE f l=none↔∀e∈l,f e=false:=by
 unfold lastE
 rw [List.find?_eq_none]
 simp
theorem lastE_ok {f:Ent→Bool} {l:List Ent} {e:Ent} (h:lastE f l=some e):f e=true:=List.find?_some h
theorem lastE_last {f:Ent→Bool}:∀{l:List Ent} {e:Ent},lastE f l=some e→∃i:Nat,l[i]? = some e∧∀(j:Nat) (x:Ent),i<j→l[j]? = some x→f x=false:=by
 intro l
 induction h:l.length generalizing l with
 | zero =>
  intro e he
  rw [List.length_eq_zero_iff.1 h] at he;cases he
 | succ n ih =>
  intro e he
  have hne:l≠[]:=by rintro rfl;simp at h
  have hd:=List.dropLast_concat_getLast hne
  have hdl:l.dropLast.length=n:=by simp [h]
  rw [←hd,lastE_snoc] at he
  by_cases hf:f (l.getLast hne)=true
  ·rw [if_pos hf] at he;cases he
   refine ⟨n,by rw [List.getLast_eq_getElem,List.getElem?_eq_getElem (by omega)];congr 1;congr 1;omega,fun j x hj hx=>?_⟩
   have:=(List.getElem?_eq_some_iff.1 hx).1
   omega
  ·rw [if_neg hf] at he
   obtain ⟨i,h1,h2⟩:=ih hdl he
   have hi:i<n:=by have:=(List.getElem?_eq_some_iff.1 h1).1;omega
   refine ⟨i,by rw [←hd,List.getElem?_append_left (by omega)];exact h1,fun j x hj hx=>?_⟩
   rw [←hd] at hx
   by_cases hjn:j<n
   ·rw [List.getElem?_append_left (by omega)] at hx
    exact h2 j x hj hx
   ·have e0:j=n:=by
     have:=(List.getElem?_eq_some_iff.1 hx).1
     rw [List.length_append,hdl] at this
     simp at this;omega
    subst e0
    rw [List.getElem?_append_right (by omega),hdl,Nat.sub_self] at hx
    have:l.getLast hne=x:=by simpa using hx
    subst this
    simpa using hf
theorem isP_iff {r n:List UInt8} {e:Ent}:isP r n e=true↔e.r=r∧e.n=n:=by unfold isP;exact decide_eq_true_iff
theorem Inc.snoc {l:List Ent} (h:Inc l) {e:Ent} (he:e.kv=nextKv (lastE (isP e.r e.n) l)):Inc (l++[e]):=by
 refine ⟨fun i j x y hij hi hj hr hn=>?_,fun x hx=>?_⟩
 ·by_cases hjl:j<l.length
  ·rw [List.getElem?_append_left hjl] at hj
   rw [List.getElem?_append_left (by omega)] at hi
   exact h.1 i j x y hij hi hj hr hn
  ·have e0:j=l.length:=by
    have:=(List.getElem?_eq_some_iff.1 hj).1
    simp at this;omega
   subst e0
   rw [List.getElem?_append_right (by omega),Nat.sub_self] at hj
   rw [List.getElem?_append_left hij] at hi
   have:e=y:=by simpa using hj
   subst this
   have hx:x∈l:=List.mem_of_getElem? hi
   cases hg:lastE (isP e.r e.n) l with
   | none =>
    have:=lastE_none.1 hg x hx
    rw [isP_iff.2 ⟨hr,hn⟩] at this;cases this
   | some f =>
    rw [hg] at he
    have he:e.kv=f.kv+1:=he
    obtain ⟨b1,b2⟩:=isP_iff.1 (lastE_ok hg)
    obtain ⟨q,hq,hlast⟩:=lastE_last hg
    rcases Nat.lt_trichotomy i q with c | c | c
    ·have:=h.1 i q x f c hi hq (hr.trans b1.symm) (hn.trans b2.symm);omega
    ·subst c;rw [hi] at hq;cases hq;omega
    ·have:=hlast i x c hi
     rw [isP_iff.2 ⟨hr,hn⟩] at this;cases this
 ·rcases List.mem_append.1 hx with hx | hx
  ·exact h.2 x hx
  ·have:x=e:=by simpa using hx
   subst this
   rw [he]
   cases lastE (isP x.r x.n) l with
   | none=>exact Nat.le_refl _
   | some f=>show 1≤f.kv+1;omega
end Go.Proofs.Tryz
/- PSem, part 33: counts of writes are ours to name. -/
namespace Ps
open Go
theorem CallOk.ver {P:Program} {f:Nat} {args:List PV} {H:PH} {Q R:PV→PH→Prop} {kid:Nat} (h:CallOk P f args H Q)
  (hq:∀r H',Q r H'→∃o' V,H'[kid]? = some o'∧(∀o,H[kid]? = some o→o.ver<V)∧R r (H'.set kid ⟨o'.T,o'.cs,V⟩)):CallOk P f args H R:=fun g w vs hs hr=>by
 refine (h g w vs hs hr).mono ?_
 rintro e w' ⟨v,r,H',g',he,q,hr',st,ho,hc⟩
 obtain ⟨o',V,h1,h2,h3⟩:=hq r H' q
 have hlt:kid<H'.length:=(List.getElem?_eq_some_iff.1 h1).1
 have hget:∀(id:Nat) (o:PObj),(H'.set kid ⟨o'.T,o'.cs,V⟩)[id]? = some o→∃o0,H'[id]? = some o0∧o0.T=o.T∧o0.cs=o.cs:=fun id o ho=>by
  by_cases e:kid=id
  ·subst e
   rw [List.getElem?_set_self hlt] at ho
   cases ho
   exact ⟨o',h1,rfl,rfl⟩
  ·rw [List.getElem?_set_ne e] at ho
   exact ⟨o,ho,rfl,rfl⟩
 have hcell:∀id j b,cellOwnAt g' w' (H'.set kid ⟨o'.T,o'.cs,V⟩) id j b→cellOwnAt g' w' H' id j b:=fun id j b ⟨o,c,b0,u,k1,k2,k3,k4,k5,k6⟩=>by
  obtain ⟨o0,z1,z2,z3⟩:=hget id o k1
  exact ⟨o0,c,b0,u,z1,by rw [z3];exact k2,k3,k4,k5,k6⟩
 refine ⟨v,r,_,g',he,h3,⟨⟨by rw [List.length_set];exact hr'.h.len,hr'.h.inj,hr'.h.full,fun id b o k1 k2=>?_,hr'.h.imm⟩,hr'.e,hr'.ss,fun t i b k1 ⟨id,j,k2⟩=>hr'.sc t i b k1 ⟨id,j,hcell _ _ _ k2⟩,
  fun id j id' j' b k1 k2=>hr'.cc id j id' j' b (hcell _ _ _ k1) (hcell _ _ _ k2)⟩,⟨⟨fun id o k1=>?_,fun id b o o2 hi k1 k2 hv=>?_⟩,st.os,st.tape,st.output,st.size,st.keeps,st.ι,st.far,st.nil⟩,ho,fun b ⟨id,j,k⟩=>hc b ⟨id,j,hcell _ _ _ k⟩⟩
 ·obtain ⟨o0,z1,z2,z3⟩:=hget id o k1
  rw [←z2,←z3]
  exact hr'.h.obj id b o0 z1 k2
 ·by_cases e:kid=id
  ·subst e
   exact ⟨_,List.getElem?_set_self hlt,Nat.le_of_lt (h2 o k1)⟩
  ·obtain ⟨o2,k2,k3⟩:=st.fr.more id o k1
   exact ⟨o2,by rw [List.getElem?_set_ne e];exact k2,k3⟩
 ·by_cases e:kid=id
  ·subst e
   rw [List.getElem?_set_self hlt] at k2
   cases k2
   have:=h2 o k1
   have hv:V=o.ver:=hv
   omega
  ·rw [List.getElem?_set_ne e] at k2
   exact st.fr.same id b o o2 hi k1 k2 hv
end Ps
set_option maxHeartbeats 1000000
namespace Go.Proofs.Tryz
open Go Ps
def Made (k:List UInt8) (o:PObj):Prop:=∃v,o=keyO k 1 0 0 (spW k) 1 v
theorem Made.st {k:List UInt8} {o:PObj} (h:Made k o):KeySt k o:=.inr h
theorem c225m (hw:WordsOk) (k:List UInt8) (hk:k.length=16) (kid:Nat) (nn:Int) (n:Nat) (hn:n≤1000000) (h0:0<n) (so:PObj) (hso:KeySt k so) (H:PH) (hid:H[kid]? = some so) :
  CallOk prog 225 [.ptr (some (kid,0)),.int .u64 nn,.int .i64 n] H fun r H'=>r=sl (streamV k nn n)∧∃o',Made k o'∧H'=H.set kid o':=by
 have hlt:kid<H.length:=(List.getElem?_eq_some_iff.1 hid).1
 (refine fnS (imm:=imm225) ttS_ok func225 ?_;(conv=>whnf))
 refine ⟨fun h=>absurd h (by omega),fun _=>?_⟩
 conv=>whnf
 have hw8:IntKind.i64.wrap ((n:Int)+8)=(n:Int)+8:=wrap64 (by omega) (by omega)
 refine ⟨⟨by decide,by rw [hw8];omega,by rw [hw8];show ((n:Int)+8)*((1:Nat):Int)≤_;omega⟩,?_⟩
 conv=>whnf
 refine loopK_of StS (fun x=>[(0,.ptr (some (kid,0))),(1,.int .u64 nn),(2,.int .i64 n),(7,ow (strN k nn x.i)),(8,.int .u32 x.i)]) (fun x=>H.set kid x.o) (fun x=>x.i≤(n+7) / 8∧KeySt k x.o∧(0<x.i→Made k x.o)) (fun x=>(n+7) / 8 - x.i) ⟨⟨0,so⟩,⟨Nat.zero_le _,hso,fun h=>absurd h (Nat.lt_irrefl 0)⟩,⟨rfl,rfl,rfl,rfl,rfl,trivial⟩,(set_self hid).symm⟩ ?_
 rintro ⟨i,o⟩ ⟨hi,ho,hm⟩
 replace hi:i≤(n+7) / 8:=hi
 replace ho:KeySt k o:=ho
 replace hm:0<i→Made k o:=hm
 have hsl:=strN_len k nn i
 conv=>whnf
 refine ⟨fun h=>?_,fun h=>?_⟩
 ·have h:((strN k nn i).length:Int)<n:=h
  rw [hsl] at h
  conv=>whnf
  refine ⟨by decide,?_⟩
  conv=>whnf
  have hst:(∃v,(H.set kid o)[kid]? = some (keyO k 0 0 0 (List.replicate 27 0) 0 v))∨(∃v,(H.set kid o)[kid]? = some (keyO k 1 0 0 (spW k) 1 v)):=by
   rw [List.getElem?_set_self hlt]
   rcases ho with ⟨v,rfl⟩ | ⟨v,rfl⟩
   ·exact .inl ⟨v,rfl⟩
   ·exact .inr ⟨v,rfl⟩
  refine callK_of (Q:=fun r H'=>r=.tup [.int .u32 (blkP k nn i).1,.int .u32 (blkP k nn i).2]∧∃v',H'=H.set kid (keyO k 1 0 0 (spW k) 1 v')) ((c257 hw k hk kid (H.set kid o) hst _ _).mono fun r H' hh=>?_) ?_
  ·obtain ⟨h1,v',h2⟩:=hh
   exact ⟨h1,v',by rw [h2,List.set_set]⟩
  rintro _ _ ⟨rfl,v',rfl⟩
  conv=>whnf
  generalize hx:(blkP k nn i).1=x
  generalize hy:(blkP k nn i).2=y
  refine loopK_of Nat (fun j=>[(0,.ptr (some (kid,0))),(1,.int .u64 nn),(2,.int .i64 n),(7,ow (strN k nn i++(le4 x++le4 y).take (4*j))),(8,.int .u32 i),(42,.slice 2 [.int .u32 x,.int .u32 y] (some 226)),(43,.int .i64 2),(44,.int .i64 j)]) (fun _=>H.set kid (keyO k 1 0 0 (spW k) 1 v')) (fun j=>j≤2) (fun j=>2 - j) ⟨0,Nat.zero_le _,⟨rfl,rfl,rfl,?_,rfl,rfl,rfl,rfl,trivial⟩,rfl⟩ ?_
  ·show ow (strN k nn i)=ow (strN k nn i++[])
   rw [List.append_nil]
  intro j hj
  have happ:∀(a b:List UInt8),b.length=4→a.length≤2000000→(a.length+4)*1≤140737488355328∧(b.map byteC).length=4*1∧(b.map byteC).all oneP=true:=fun a b hb ha=>⟨by omega,by simp [hb],allOne b⟩
  match j,hj with
  | 0,_ =>
   conv=>whnf
   refine ⟨fun _=>?_,fun h=>absurd (show ((0:Nat):Int)<2 by decide) h⟩
   conv=>whnf
   refine ⟨⟨by decide,by decide⟩,[.int .u32 x],at1' (k:=0) rfl,?_⟩
   conv=>whnf
   refine ⟨by decide,?_⟩
   conv=>whnf
   refine ⟨by decide,?_⟩
   conv=>whnf
   refine ⟨by decide,?_⟩
   conv=>whnf
   refine ⟨⟨by show ((strN k nn i++(le4 x++le4 y).take (4*0)).length+4)*1≤_;rw [List.length_append,hsl];simp;omega,rfl,rfl⟩,?_⟩
   conv=>whnf
   refine ⟨1,by decide,⟨rfl,rfl,rfl,?_,rfl,rfl,rfl,rfl,trivial⟩,rfl,by decide⟩
   show PV.slice ((strN k nn i++(le4 x++le4 y).take (4*0)).length+4) ((strN k nn i++(le4 x++le4 y).take (4*0)).map byteC++[PV.int .u8 (IntKind.u8.wrap x),.int .u8 (IntKind.u8.wrap (ishr .u32 x 8)),.int .u8 (IntKind.u8.wrap (ishr .u32 x 16)),.int .u8 (IntKind.u8.wrap (ishr .u32 x 24))]) (some 5)=ow (strN k nn i++(le4 x++le4 y).take (4*1))
   rw [le4_cells,ow_app' _ (le4 x) (n:=4) rfl,List.append_assoc]
   rfl
  | 1,_ =>
   conv=>whnf
   refine ⟨fun _=>?_,fun h=>absurd (show ((1:Nat):Int)<2 by decide) h⟩
   conv=>whnf
   refine ⟨⟨by decide,by decide⟩,[.int .u32 y],at1' (k:=1) rfl,?_⟩
   conv=>whnf
   refine ⟨by decide,?_⟩
   conv=>whnf
   refine ⟨by decide,?_⟩
   conv=>whnf
   refine ⟨by decide,?_⟩
   conv=>whnf
   refine ⟨⟨by show ((strN k nn i++(le4 x++le4 y).take (4*1)).length+4)*1≤_;rw [List.length_append,hsl];simp;omega,rfl,rfl⟩,?_⟩
   conv=>whnf
   refine ⟨2,by decide,⟨rfl,rfl,rfl,?_,rfl,rfl,rfl,rfl,trivial⟩,rfl,by decide⟩
   show PV.slice ((strN k nn i++(le4 x++le4 y).take (4*1)).length+4) ((strN k nn i++(le4 x++le4 y).take (4*1)).map byteC++[PV.int .u8 (IntKind.u8.wrap y),.int .u8 (IntKind.u8.wrap (ishr .u32 y 8)),.int .u8 (IntKind.u8.wrap (ishr .u32 y 16)),.int .u8 (IntKind.u8.wrap (ishr .u32 y 24))]) (some 5)=ow (strN k nn i++(le4 x++le4 y).take (4*2))
   rw [le4_cells,ow_app' _ (le4 y) (n:=4) rfl,List.append_assoc]
   rfl
  | 2,_ =>
   conv=>whnf
   refine ⟨fun h=>absurd h (by decide),fun _=>?_⟩
   conv=>whnf
   refine ⟨⟨i+1,keyO k 1 0 0 (spW k) 1 v'⟩,⟨by show i+1≤(n+7) / 8;omega,.inr ⟨v',rfl⟩,fun _=>⟨v',rfl⟩⟩,⟨rfl,rfl,rfl,?_,?_,trivial⟩,rfl,by show (n+7) / 8 - (i+1)<(n+7) / 8 - i;omega⟩
   ·subst hx hy
    rfl
   ·show PV.int _ (IntKind.u32.wrap ((i:Int)+1))=PV.int _ ((i+1:Nat):Int)
    rw [←wrap32 (n:=i+1) (by omega)];rfl
 ·have h:¬((strN k nn i).length:Int)<n:=h
  rw [hsl] at h
  have e:i=(n+7) / 8:=by omega
  conv=>whnf
  refine ⟨⟨by decide,by omega,by show (n:Int)≤((strN k nn i).length:Int);omega⟩,?_⟩
  conv=>whnf
  refine ⟨?_,o,hm (by omega),rfl⟩
  refine (sl_cut2 (strN k nn i) 0 n ⟨by omega,by omega,by omega⟩).trans ?_
  rw [Int.toNat_natCast,e]
  rfl
theorem sealX {H:PH} {bid:Nat} {key:List UInt8} (hb:BoxAt H bid key) (u n:Int) (hu:isUseB u=true) (hn0:0≤n) (hn1:n≤1099511627776) (p:List UInt8) (hp:p.length≤784) (h0:0<p.length) :
  ∃H1,Evo (fun _=>False) H H1∧H1.length=H.length∧CallOk prog 108 [.ptr (some (bid,0)),.int .i64 u,.int .i64 n,sl p] H fun x H'=>x=.tup [ow (sealK key u n p),.int .i64 0]∧H'=H1:=by
 obtain ⟨hk,sid,s,o,r,v,so,h1,h2,h3⟩:=hb
 have hne:bid≠sid:=fun e=>by
  subst e
  rw [h1] at h2;cases h2
  exact key_box h3.T.symm
 have hk16:(key.take 16).length=16:=by simp [hk]
 have h4:(H.set bid (boxS sid (key.drop 16) (IntKind.i64.wrap (s+1)) o r (v+1)))[sid]? = some so:=by rw [List.getElem?_set_ne hne];exact h2
 refine ⟨(H.set bid (boxS sid (key.drop 16) (IntKind.i64.wrap (s+1)) o r (v+1))).set sid (keyO (key.take 16) 1 0 0 (spW (key.take 16)) 1 (so.ver+1)),
  (Evo.setBox h1 (IntKind.i64.wrap (s+1)) o r (v+1)).trans (Evo.setKey (k:=key.take 16) (so:=so) h4 hk16 h3 (.inr ⟨_,rfl⟩)),by simp,?_⟩
 have hc:=c108 (Made (key.take 16)) (fun o' h=>h.st.flat) so sid n u hu hn0 hn1 p (streamV (key.take 16) (mixN (IntKind.u64.wrap n) u) p.length) (streamV_len _ _ _) hp
  (fun H' hs=>c225m wordsOk (key.take 16) hk16 sid _ p.length (by omega) h0 so h3 H' hs) (key.drop 16) (by simp [hk]) s o r v bid H h1 h2 hne
 refine hc.ver (kid:=sid) fun x H' hh=>?_
 obtain ⟨rfl,o',⟨v',rfl⟩,rfl⟩:=hh
 refine ⟨_,so.ver+1,get_set h4,fun o2 ho2=>?_,rfl,?_⟩
 ·rw [h2] at ho2;cases ho2;exact Nat.lt_succ_self _
 ·rw [List.set_set];rfl
set_option maxHeartbeats 4000000
def ttK:TT:=[(2,⟨.int .i64,1,8,[.int .i64 0]⟩),(3,⟨.int .i64,1,8,[.int .i64 0]⟩),(4,⟨.bool,1,1,[.bool false]⟩),(5,⟨.int .u8,1,1,[.int .u8 0]⟩),(9,⟨.str,1,16,[.str []]⟩),(25,⟨.strct [(9,0),(9,1)],2,32,[.str [],.str []]⟩),(26,⟨.slice 5,1,24,[.slice 0 [] (some 5)]⟩),(28,⟨.strct [(25,0),(3,2),(26,3)],4,64,[.str [],.str [],.int .i64 0,.slice 0 [] (some 5)]⟩),(30,⟨.strct [(25,0),(28,2),(26,6)],7,120,[.str [],.str [],.str [],.str [],.int .i64 0,.slice 0 [] (some 5),.slice 0 [] (some 5)]⟩),(31,⟨.int .i64,1,8,[.int .i64 0]⟩),(33,⟨.ptr,1,8,[.ptr none]⟩),(41,⟨.strct [(25,0),(25,2),(3,4),(3,5)],6,80,[.str [],.str [],.str [],.str [],.int .i64 0,.int .i64 0]⟩),(43,⟨.arr 32 5,32,32,List.replicate 32 (.int .u8 0)⟩),(50,⟨.strct [(25,0),(43,2),(9,34),(3,35),(3,36)],37,96,[.str [],.str []]++List.replicate 32 (.int .u8 0)++[.str [],.int .i64 0,.int .i64 0]⟩),(54,⟨.strct [(43,0),(25,32),(3,34),(3,35),(3,36)],37,88,List.replicate 32 (.int .u8 0)++[.str [],.str [],.int .i64 0,.int .i64 0,.int .i64 0]⟩),(64,⟨.strct [(28,0),(26,4),(25,5),(3,7),(3,8)],9,136,[.str [],.str [],.int .i64 0,.slice 0 [] (some 5),.slice 0 [] (some 5),.str [],.str [],.int .i64 0,.int .i64 0]⟩),(88,⟨.slice 9,1,24,[.slice 0 [] (some 9)]⟩),(89,⟨.slice 200,1,24,[.slice 0 [] (some 200)]⟩),(90,⟨.slice 261,1,24,[.slice 0 [] (some 261)]⟩),(92,⟨.strct [(88,0),(89,1),(90,2)],3,72,[.slice 0 [] (some 9),.slice 0 [] (some 200),.slice 0 [] (some 261)]⟩),(98,⟨.strct [(28,0),(26,4)],5,88,[.str [],.str [],.int .i64 0,.slice 0 [] (some 5),.slice 0 [] (some 5)]⟩),(100,⟨.strct [(31,0),(3,1)],2,16,[.int .i64 0,.int .i64 0]⟩),(102,⟨.strct [(3,0),(41,1),(64,7),(30,16),(98,23),(100,28)],30,448,[.int .i64 0,.str [],.str [],.str [],.str [],.int .i64 0,.int .i64 0,.str [],.str [],.int .i64 0,.slice 0 [] (some 5),.slice 0 [] (some 5),.str [],.str [],.int .i64 0,.int .i64 0,.str [],.str [],.str [],.str [],.int .i64 0,.slice 0 [] (some 5),.slice 0 [] (some 5),.str [],.str [],.int .i64 0,.slice 0 [] (some 5),.slice 0 [] (some 5),.int .i64 0,.int .i64 0]⟩),(110,⟨.ptr,1,8,[.ptr none]⟩),(126,⟨.ptr,1,8,[.ptr none]⟩),(132,⟨.strB [(129,0),(130,0),(2,0)],1,8,[.int .i64 0]⟩),(134,⟨.strct [(9,0),(92,1),(110,4),(132,5),(132,6)],7,112,[.str [],.slice 0 [] (some 9),.slice 0 [] (some 200),.slice 0 [] (some 261),.ptr none,.int .i64 0,.int .i64 0]⟩),(139,⟨.strct [(25,0),(50,2),(3,39),(126,40),(3,41)],42,152,[.str [],.str [],.str [],.str []]++List.replicate 32 (.int .u8 0)++[.str [],.int .i64 0,.int .i64 0,.int .i64 0,.ptr none,.int .i64 0]⟩),(200,⟨.arr 2 9,2,32,[.str [],.str []]⟩),(261,⟨.strct [(9,0),(9,1),(88,2)],3,56,[.str [],.str [],.slice 0 [] (some 9)]⟩)]
theorem ttK_ok:ttOk prog ttK=true:=by kernel_rfl
def imm51:List Nat:=[3]
def imm109:List Nat:=[]
def imm50:List Nat:=[]
def imm48:List Nat:=[]
def imm105:List Nat:=[]
def imm16:List Nat:=[5,7]
def kdcO (realm:List UInt8) (rs ls ps:PV) (rid:Nat) (n i:Int) (v:Nat):PObj:=⟨134,[.str realm,rs,ls,ps,.ptr (some (rid,0)),.int .i64 n,.int .i64 i],v⟩
theorem kdcT (realm:List UInt8) (rs ls ps:PV) (rid:Nat) (n i:Int) (v:Nat):(kdcO realm rs ls ps rid n i v).T≠keyT∧(kdcO realm rs ls ps rid n i v).T≠boxT :=
 ⟨fun h=>absurd (show 134=keyT from h) (by decide),fun h=>absurd (show 134=boxT from h) (by decide)⟩
structure Kd (H:PH) (kid rid:Nat) (realm:List UInt8) (rs ls ps:PV) (l:List Ent) (n i:Nat):Prop where
 ring:RingAt H rid l
 len:l.length≤40
 k:∃v,H[kid]? = some (kdcO realm rs ls ps rid n i v)
theorem Kd.evo {S:Nat→Prop} {H H':PH} {kid rid:Nat} {realm:List UInt8} {rs ls ps:PV} {l:List Ent} {n i:Nat} (h:Kd H kid rid realm rs ls ps l n i) (k:Evo S H H') (h1:¬S kid) (h2:¬S rid):Kd H' kid rid realm rs ls ps l n i:=by
 obtain ⟨v,hv⟩:=h.k
 exact ⟨h.ring.evo k h2,h.len,v,k.same _ _ hv h1 (kdcT ..).1 (kdcT ..).2⟩
theorem Kd.ne {H:PH} {kid rid:Nat} {realm:List UInt8} {rs ls ps:PV} {l:List Ent} {n i:Nat} (h:Kd H kid rid realm rs ls ps l n i):rid≠kid:=by
 obtain ⟨v,hv⟩:=h.k
 obtain ⟨w,hw⟩:=h.ring.ex
 rintro rfl
 rw [hv] at hw
 have:=congrArg (fun o=>o.map PObj.T) hw
 exact absurd (Option.some.inj this) (show ¬134=(ringO [] 0).T by decide)
theorem Kd.put {H:PH} {kid rid:Nat} {realm:List UInt8} {rs ls ps:PV} {l:List Ent} {n i:Nat} (h:Kd H kid rid realm rs ls ps l n i) (n' i' v:Nat) :
  Kd (H.set kid (kdcO realm rs ls ps rid n' i' v)) kid rid realm rs ls ps l n' i'∧Evo (·=kid) H (H.set kid (kdcO realm rs ls ps rid n' i' v)):=by
 obtain ⟨w,hw⟩:=h.k
 have he:Evo (·=kid) H (H.set kid (kdcO realm rs ls ps rid n' i' v)):=Evo.setOther hw rfl (kdcT ..).1 (kdcT ..).2
 exact ⟨⟨h.ring.evo he h.ne,h.len,v,get_set hw⟩,he⟩
theorem c109x {H:PH} {kid rid:Nat} {realm:List UInt8} {rs ls ps:PV} {n i v:Nat} (hv:H[kid]? = some (kdcO realm rs ls ps rid n i v)) (hn:n≤1000000000) :
  CallOk prog 109 [.ptr (some (kid,0))] H fun r H'=>r=.int .i64 ((n+1:Nat):Int)∧H'=H.set kid (kdcO realm rs ls ps rid ((n+1:Nat):Int) i (v+1)):=by
 have hw:IntKind.i64.wrap ((n:Int)+1)=((n+1:Nat):Int):=by rw [wrap64 (by omega) (by omega)];rfl
 (refine fnS (imm:=imm109) ttK_ok func109 ?_;(conv=>whnf))
 refine callK_of (c110 (off:=5) (n:=n) 1 hv rfl) ?_
 rintro _ _ ⟨rfl,rfl⟩
 conv=>whnf
 refine ⟨congrArg (PV.int _) hw,?_⟩
 have e:(⟨(kdcO realm rs ls ps rid n i v).T,setCells 5 [.int .i64 (IntKind.i64.wrap ((n:Int)+1))] (kdcO realm rs ls ps rid n i v).cs,(kdcO realm rs ls ps rid n i v).ver+1⟩:PObj)=kdcO realm rs ls ps rid ((n+1:Nat):Int) i (v+1):=by
  rw [hw];rfl
 rw [e]
theorem c109 {H:PH} {kid rid:Nat} {realm:List UInt8} {rs ls ps:PV} {l:List Ent} {n i:Nat} (h:Kd H kid rid realm rs ls ps l n i) (hn:n≤1000000000) :
  CallOk prog 109 [.ptr (some (kid,0))] H fun r H'=>r=.int .i64 ((n+1:Nat):Int)∧Kd H' kid rid realm rs ls ps l (n+1) i∧Evo (·=kid) H H':=by
 obtain ⟨v,hv⟩:=h.k
 have hw:IntKind.i64.wrap ((n:Int)+1)=((n+1:Nat):Int):=by rw [wrap64 (by omega) (by omega)];rfl
 (refine fnS (imm:=imm109) ttK_ok func109 ?_;(conv=>whnf))
 refine callK_of (c110 (off:=5) (n:=n) 1 hv rfl) ?_
 rintro _ _ ⟨rfl,rfl⟩
 conv=>whnf
 refine ⟨congrArg (PV.int _) hw,?_⟩
 have e:(⟨(kdcO realm rs ls ps rid n i v).T,setCells 5 [.int .i64 (IntKind.i64.wrap ((n:Int)+1))] (kdcO realm rs ls ps rid n i v).cs,(kdcO realm rs ls ps rid n i v).ver+1⟩:PObj)=kdcO realm rs ls ps rid ((n+1:Nat):Int) i (v+1):=by
  rw [hw];rfl
 rw [e]
 exact h.put (n+1) i (v+1)
theorem c48 (n:Int):Pure prog 48 [.int .i64 n] (.bool (!lateB n)):=by
 intro H
 (refine fnS (imm:=imm48) ttK_ok func48 ?_;(conv=>whnf))
 unfold lateB
 refine ⟨fun h=>?_,fun h=>?_⟩
 ·have h:(0:Int)≤n:=h
  conv=>whnf
  refine ⟨fun h2=>?_,fun h2=>?_⟩
  ·have h2:n≤1073741824:=h2
   conv=>whnf
   exact ⟨congrArg PV.bool (by rw [decide_eq_false (by omega),decide_eq_false (by omega)];rfl),rfl⟩
  ·have h2:¬n≤1073741824:=h2
   conv=>whnf
   exact ⟨congrArg PV.bool (by rw [decide_eq_true (p:=1073741824<n) (by omega),Bool.or_true];rfl),rfl⟩
 ·have h:¬(0:Int)≤n:=h
  conv=>whnf
  exact ⟨congrArg PV.bool (by rw [decide_eq_true (p:=n<0) (by omega)];rfl),rfl⟩
theorem c105 (r:List UInt8) (hr:r.length≤1099511627775):Pure prog 105 [.str r] (.str (krb r)):=by
 intro H
 (refine fnS (imm:=imm105) ttK_ok func105 ?_;(conv=>whnf))
 refine ⟨by show 7+r.length≤9223372036854775807;omega,?_⟩
 conv=>whnf
 exact ⟨rfl,rfl⟩
theorem Evo.drop {S:Nat→Prop} {H H':PH} {a:Nat} (h:Evo (fun i=>S i∨i=a) H H') (ha:H.length≤a):Evo S H H' :=
 ⟨h.len,h.box,fun id o ho hs=>h.same id o ho fun hh=>by
  rcases hh with hh | hh
  ·exact hs hh
  ·have:=(List.getElem?_eq_some_iff.1 ho).1
   omega⟩
def ansO:PObj:=⟨30,[.str [],.str [],.str [],.str [],.int .i64 0,.slice 0 [] (some 5),.slice 0 [] (some 5)],0⟩
theorem ansT:ansO.T≠keyT∧ansO.T≠boxT:=by decide
def D51:Draw:={ imp:=[5,7],win:=[(0,0,1),(1,0,1),(2,0,1),(3,0,1),(6,0,1),(7,1,1),(8,2,2),(9,2,2),(10,2,2),(11,2,2),(12,2,2)] }
def bump (x:RepO×Int) (n:Nat) (k:Nat):Nat:=if x.2=0 then n+k else n
theorem ePrt (p:Prt):(isPartB p=true→eBPrt p=partL p∧eEPrt p=0)∧(isPartB p=false→eEPrt p=1):=by
 unfold eBPrt eEPrt
 constructor
 ·intro h;rw [if_pos h,if_pos h];exact ⟨rfl,rfl⟩
 ·intro h;rw [if_neg (by rw [h];decide)]
theorem eRpt (p:Rpt):(isRptB p=true→eBRpt p=rptL p∧eERpt p=0)∧(isRptB p=false→eERpt p=1):=by
 unfold eBRpt eERpt
 constructor
 ·intro h;rw [if_pos h,if_pos h];exact ⟨rfl,rfl⟩
 ·intro h;rw [if_neg (by rw [h];decide)]
theorem c51 {H:PH} {kid rid:Nat} {realm:List UInt8} {rs ls ps:PV} {l:List Ent} {n i:Nat} (hK:Kd H kid rid realm rs ls ps l n i) (hn:n≤100000) (hi:i≤100000)
  (sr sn:List UInt8) (hsr:sr.length≤1000000) (hsn:sn.length≤1000000) (p:Prt) (hr:p.r.length≤1000000) (hpn:p.n.length≤1000000) (ht:p.tr.length≤1000000) (nonce:Int) (bid:Nat) (bkey:List UInt8) (hb:BoxAt H bid bkey) (u:Int) (hu:isUseB u=true) :
  CallOk prog 51 [.ptr (some (kid,0)),.agg ([.str sr,.str sn]++p.cells++[.int .i64 nonce,.ptr (some (bid,0)),.int .i64 u])] H fun x H' =>
   x=.tup [.agg (makeV l n sr sn p nonce bkey u).1.cells,.int .i64 (makeV l n sr sn p nonce bkey u).2] ∧
   Kd H' kid rid realm rs ls ps l (bump (makeV l n sr sn p nonce bkey u) n 2) (bump (makeV l n sr sn p nonce bkey u) i 1)∧Evo (·=kid) H H':=by
 have e1:Evo (fun _=>False) H (H++[ansO]):=Evo.app H _
 have hK1:=hK.evo e1 id id
 have hb1:=e1.box _ _ hb
 have hlt:kid<H.length:=by obtain ⟨v,hv⟩:=hK.k;exact (List.getElem?_eq_some_iff.1 hv).1
 have hne:H.length≠kid:=by omega
 have ha:(H++[ansO])[H.length]? = some ansO:=get_last H _
 obtain ⟨v1,hv1⟩:=hK1.k
 (refine fnS (imm:=imm51) ttK_ok func51 ?_;(conv=>whnf))
 refine drawK_pure2 (by kernel_rfl) ?_
 conv=>whnf
 iterate 3 (refine dS ?_;(conv=>whnf))
 apply Exists.intro
 apply And.intro
 ·conv=>whnf
  ((conv in (_[_]?)=>tactic=>exact hv1);(conv=>whnf))
  exact ⟨rfl,rfl,trivial⟩
 conv=>whnf
 iterate 2 (refine dS ?_;(conv=>whnf))
 have hg:=lastGet hK1.ring (by have:=hK1.len;omega) sr sn
 unfold makeV
 cases hL:lastE (isP sr sn) l with
 | none =>
  rw [hL] at hg
  refine ⟨_,callK_of hg (by rintro _ _ ⟨rfl,rfl⟩;exact ⟨rfl,rfl,trivial⟩),?_⟩
  conv=>whnf
  iterate 7 (refine dS ?_;(conv=>whnf))
  refine ⟨fun h=>absurd h (by decide),fun _=>?_⟩
  conv=>whnf
  ((conv in (_[_]?)=>tactic=>exact ha);(conv=>whnf))
  ((conv in (_[_]?)=>tactic=>exact (show ((H++[ansO]).set H.length _)[H.length]? = some _ from get_set ha));(conv=>whnf))
  refine ⟨rfl,?_⟩
  have e2:∀o,Evo (fun i=>i=kid∨i=H.length) (H++[ansO]) ((H++[ansO]).set H.length o):=fun o=>Evo.setOther ha (.inr rfl) ansT.1 ansT.2
  have e3:∀o,Evo (fun i=>i=H.length) (H++[ansO]) ((H++[ansO]).set H.length o):=fun o=>Evo.setOther ha rfl ansT.1 ansT.2
  exact ⟨hK1.evo (e3 _) (Ne.symm hne) (by have:=hK.ring.ex.choose_spec;have:=(List.getElem?_eq_some_iff.1 this).1;show ¬rid=H.length;omega),((e1.mono fun _ h=>h.elim).trans (e2 _)).drop (Nat.le_refl _)⟩
 | some e =>
  rw [hL] at hg
  have hrl:rid<H.length:=by have:=hK.ring.ex.choose_spec;exact (List.getElem?_eq_some_iff.1 this).1
  refine ⟨_,callK_of hg (by rintro _ _ ⟨rfl,rfl⟩;exact ⟨rfl,rfl,trivial⟩),?_⟩
  conv=>whnf
  iterate 7 (refine dS ?_;(conv=>whnf))
  refine ⟨fun _=>?_,fun h=>absurd rfl h⟩
  conv=>whnf
  refine callK_pure (c106s p hr hpn ht) ?_
  conv=>whnf
  refine callK_pure (c107s (rptOf p sr sn nonce) hsr hsn) ?_
  have hbx:=hK1.ring.box e (lastE_mem hL)
  have bad:∀o,(makeV l n sr sn p nonce bkey u)=(repZ,2)→(PV.tup [.agg [.str [],.str [],.str [],.str [],.int .i64 0,.slice 0 [] none,.slice 0 [] none],.int .i64 2]=PV.tup [.agg (repZ).cells,.int .i64 2]) ∧
    Kd ((H++[ansO]).set H.length o) kid rid realm rs ls ps l (bump (repZ,2) n 2) (bump (repZ,2) i 1)∧Evo (·=kid) H ((H++[ansO]).set H.length o):=fun o _=>by
   have e2:Evo (fun i=>i=kid∨i=H.length) (H++[ansO]) ((H++[ansO]).set H.length o):=Evo.setOther ha (.inr rfl) ansT.1 ansT.2
   have e3:Evo (fun i=>i=H.length) (H++[ansO]) ((H++[ansO]).set H.length o):=Evo.setOther ha rfl ansT.1 ansT.2
   exact ⟨rfl,hK1.evo e3 (Ne.symm hne) (by show ¬rid=H.length;omega),((e1.mono fun _ h=>h.elim).trans e2).drop (Nat.le_refl _)⟩
  unfold makeV at bad
  rw [hL] at bad
  cases hP:isPartB p with
  | false =>
   rw [hP] at bad
   rw [(ePrt p).2 hP]
   conv=>whnf
   refine ⟨fun h=>absurd h (by decide),fun _=>?_⟩
   conv=>whnf
   ((conv in (_[_]?)=>tactic=>exact ha);(conv=>whnf))
   ((conv in (_[_]?)=>tactic=>exact (show ((H++[ansO]).set H.length _)[H.length]? = some _ from get_set ha));(conv=>whnf))
   exact bad _ rfl
  | true =>
   rw [hP] at bad
   rw [((ePrt p).1 hP).1,((ePrt p).1 hP).2]
   cases hR:isRptB (rptOf p sr sn nonce) with
   | false =>
    rw [hR] at bad
    rw [(eRpt _).2 hR]
    conv=>whnf
    refine ⟨fun _=>?_,fun h=>absurd rfl h⟩
    conv=>whnf
    refine ⟨fun h=>absurd h (by decide),fun _=>?_⟩
    conv=>whnf
    ((conv in (_[_]?)=>tactic=>exact ha);(conv=>whnf))
    ((conv in (_[_]?)=>tactic=>exact (show ((H++[ansO]).set H.length _)[H.length]? = some _ from get_set ha));(conv=>whnf))
    exact bad _ rfl
   | true =>
    rw [((eRpt _).1 hR).1,((eRpt _).1 hR).2]
    have hP7:=partL_784 hP
    have hR7:=rptL_784 hR
    generalize partL p=pb at hP7
    have hR0:=Nat.zero_lt_of_ne_zero (show (rptL (rptOf p sr sn nonce)).length≠0 from Nat.succ_ne_zero _)
    generalize rptL (rptOf p sr sn nonce)=rb at hR7 hR0
    clear bad hP hR
    conv=>whnf
    refine ⟨fun _=>?_,fun h=>absurd rfl h⟩
    conv=>whnf
    refine ⟨fun _=>?_,fun h=>absurd rfl h⟩
    conv=>whnf
    refine callK_of (c109 hK1 (by omega)) ?_
    rintro _ H2 ⟨rfl,hK2,e2⟩
    conv=>whnf
    refine callK_of (sealAt (e2.box _ _ hbx) 2 ((n+1:Nat):Int) rfl (by omega) (by omega) pb hP7) ?_
    rintro _ H3 ⟨rfl,e3,_⟩
    have hK3:=hK2.evo e3 id id
    have hb3:=e3.box _ _ (e2.box _ _ hb1)
    conv=>whnf
    obtain ⟨v3,hv3⟩:=hK3.k
    have hw:IntKind.i64.wrap (((n+1:Nat):Int)+1)=((n+2:Nat):Int):=by rw [wrap64 (by omega) (by omega)];rfl
    obtain ⟨H4,hH4⟩:∃H4,H4=H3.set kid (kdcO realm rs ls ps rid ((n+2:Nat):Int) i (v3+1)):=⟨_,rfl⟩
    have hK4:=hK3.put (n+2) i (v3+1)
    rw [←hH4] at hK4
    obtain ⟨hK4,e4⟩:=hK4
    obtain ⟨H5,e5,_,hc5⟩:=sealX (e4.box _ _ hb3) u ((n+2:Nat):Int) hu (by omega) (by omega) rb hR7 hR0
    have hK5:=hK4.evo e5 id id
    refine drawK_of2 D51 [H3,H4,H5] (by kernel_rfl) rfl trivial ?_
    conv=>whnf
    iterate 4 (refine dS2 ?_;(conv=>whnf))
    (refine dS ?_;(conv=>whnf))
    refine ⟨.int .i64 ((n+2:Nat):Int),?_,?_⟩
    ·conv=>whnf
     refine callK_of (c109x hv3 (by omega)) ?_
     rintro _ _ ⟨rfl,rfl⟩
     exact ⟨rfl,hH4.symm,trivial⟩
    conv=>whnf
    (refine dS2 ?_;(conv=>whnf))
    refine ⟨_,callK_of hc5 (by rintro _ _ ⟨rfl,rfl⟩;exact ⟨rfl,rfl,trivial⟩),?_⟩
    conv=>whnf
    iterate 5 (refine dS ?_;(conv=>whnf))
    conv=>whnf
    obtain ⟨v5,hv5⟩:=hK5.k
    refine callK_of (c110 (off:=6) (n:=i) 1 hv5 rfl) ?_
    rintro _ H6 ⟨rfl,hH6⟩
    have hwi:IntKind.i64.wrap ((i:Int)+1)=((i+1:Nat):Int):=by rw [wrap64 (by omega) (by omega)];rfl
    have hk6:(⟨(kdcO realm rs ls ps rid ((n+2:Nat):Int) i v5).T,setCells 6 [.int .i64 (IntKind.i64.wrap ((i:Int)+1))] (kdcO realm rs ls ps rid ((n+2:Nat):Int) i v5).cs,(kdcO realm rs ls ps rid ((n+2:Nat):Int) i v5).ver+1⟩:PObj)=kdcO realm rs ls ps rid ((n+2:Nat):Int) ((i+1:Nat):Int) (v5+1):=by
     rw [hwi];rfl
    replace hH6:H6=H5.set kid (kdcO realm rs ls ps rid ((n+2:Nat):Int) ((i+1:Nat):Int) (v5+1)):=hH6.trans (congrArg (fun o=>H5.set kid o) hk6)
    obtain ⟨hK6,e6⟩:=hK5.put (n+2) (i+1) (v5+1)
    rw [←hH6] at hK6 e6
    clear hH6 hk6
    have e16:Evo (·=kid) (H++[ansO]) H6:=(((e2.trans (e3.mono fun _ h=>h.elim)).trans e4).trans (e5.mono fun _ h=>h.elim)).trans e6
    have ha6:H6[H.length]? = some ansO:=e16.same _ _ ha hne ansT.1 ansT.2
    conv=>whnf
    ((conv in (_[_]?)=>tactic=>exact ha6);(conv=>whnf))
    ((conv in (_[_]?)=>tactic=>exact (show (H6.set H.length _)[H.length]? = some _ from get_set ha6));(conv=>whnf))
    have e7:∀o,Evo (fun i=>i=H.length) H6 (H6.set H.length o):=fun o=>Evo.setOther ha6 rfl ansT.1 ansT.2
    refine ⟨rfl,hK6.evo (e7 _) (Ne.symm hne) (by show ¬rid=H.length;omega),?_⟩
    exact Evo.drop (S:=(·=kid)) (((e1.mono fun _ h=>h.elim).trans (e16.mono fun _ h=>.inl h)).trans ((e7 _).mono fun _ h=>.inr h)) (Nat.le_refl _)
end Go.Proofs.Tryz
