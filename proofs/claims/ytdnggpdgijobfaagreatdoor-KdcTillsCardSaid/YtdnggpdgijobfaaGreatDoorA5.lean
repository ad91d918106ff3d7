import Derived.Test.YtdnggpdgijobfaaGreatDoorA4
import Derived.Test.YtdnggpdgijobfaaGreatDoorA3
import Derived.Test.YtdnggpdgijobfaaGreatDoorA2
set_option linter.all false
set_option maxRecDepth 100000
set_option maxHeartbeats 1000000
namespace Go.Proofs.Tryz
open Go Ps
/-! How the heap goes on while boxes seal and open. -/
theorem byteC_inj {a b:UInt8} (h:bC a=bC b):a=b:=by
 have h:PV.int .u8 (a.toNat:Int)=PV.int .u8 (b.toNat:Int):=h
 injection h with _ h
 exact (byte_int a b).1 h
theorem map_byteC_inj:∀{a b:List UInt8},a.map bC=b.map bC→a=b
 | [],[],_=>rfl
 | [],_::_,h=>by simp at h
 | _::_,[],h=>by simp at h
 | x::a,y::b,h=>by
  rw [List.map_cons,List.map_cons] at h
  injection h with h1 h2
  rw [byteC_inj h1,map_byteC_inj h2]
theorem keyO_take {k:List UInt8} (hk:k.length=16) (d m s:Int) (l:List Int) (md:Int) (v:Nat):(keyO k d m s l md v).cs.take 16=k.map bC:=by
 show List.take 16 ((k.map bC++[.int .u32 d,.int .i32 m,.int .u32 s])++l.map u32C++[.int .u32 md])=_
 rw [List.append_assoc,List.append_assoc,List.take_append_of_le_length (by simp [hk]),List.take_of_length_le (by simp [hk])]
theorem KeySt.take {k:List UInt8} {o:PObj} (h:KeySt k o) (hk:k.length=16):o.cs.take 16=k.map bC:=by
 rcases h with ⟨v,rfl⟩ | ⟨v,rfl⟩
 ·exact keyO_take hk ..
 ·exact keyO_take hk ..
def keyT:Nat:=(keyO [] 0 0 0 [] 0 0).T
def boxT:Nat:=(boxS 0 [] 0 0 0 0).T
theorem KeySt.T {k:List UInt8} {o:PObj} (h:KeySt k o):o.T=keyT:=by rcases h with ⟨v,rfl⟩ | ⟨v,rfl⟩ <;> rfl
theorem key_box:keyT≠boxT:=by decide
theorem boxS_inj {sid sid':Nat} {sp sp':List UInt8} {s o r s' o' r':Int} {v v':Nat} (h:boxS sid sp s o r v=boxS sid' sp' s' o' r' v'):sid=sid'∧sp=sp':=by
 have h:[PV.ptr (some (sid,0))]++sp.map bC++[.int .i64 s,.int .i64 o,.int .i64 r]=[PV.ptr (some (sid',0))]++sp'.map bC++[.int .i64 s',.int .i64 o',.int .i64 r']:=congrArg PObj.cs h
 have h1:=(List.append_inj' h rfl).1
 have h2:PV.ptr (some (sid,0))::sp.map bC=PV.ptr (some (sid',0))::sp'.map bC:=h1
 injection h2 with h3 h4
 injection h3 with h3
 injection h3 with h3
 injection h3 with h3 _
 exact ⟨h3,map_byteC_inj h4⟩
def BoxAt (H:PH) (bid:Nat) (key:List UInt8):Prop:=key.length=32∧∃sid s o r v so,H[bid]? = some (boxS sid (key.drop 16) s o r v)∧H[sid]? = some so∧KeySt (key.take 16) so
structure Evo (S:Nat→Prop) (H H':PH):Prop where
 len:H.length≤H'.length
 box:∀bid key,BoxAt H bid key→BoxAt H' bid key
 same:∀(id:Nat) (o:PObj),H[id]? = some o→¬S id→o.T≠keyT→o.T≠boxT→H'[id]? = some o
theorem Evo.refl {S:Nat→Prop} (H:PH):Evo S H H:=⟨Nat.le_refl _,fun _ _ h=>h,fun _ _ h _ _ _=>h⟩
theorem Evo.trans {S:Nat→Prop} {H H1 H2:PH} (h:Evo S H H1) (k:Evo S H1 H2):Evo S H H2 :=
 ⟨Nat.le_trans h.len k.len,fun b key hb=>k.box b key (h.box b key hb),fun id o ho hs h1 h2=>k.same id o (h.same id o ho hs h1 h2) hs h1 h2⟩
theorem Evo.mono {S S':Nat→Prop} {H H':PH} (h:Evo S H H') (hs:∀id,S id→S' id):Evo S' H H':=⟨h.len,h.box,fun id o ho hn=>h.same id o ho fun hh=>hn (hs id hh)⟩
theorem Evo.app {S:Nat→Prop} (H l:PH):Evo S H (H++l) :=
 have g:∀(id:Nat) (o:PObj),H[id]? = some o→(H++l)[id]? = some o:=fun id o h=>by rw [List.getElem?_append_left (List.getElem?_eq_some_iff.1 h).1];exact h
 ⟨by simp,fun b key ⟨hk,sid,s,o,r,v,so,h1,h2,h3⟩=>⟨hk,sid,s,o,r,v,so,g _ _ h1,g _ _ h2,h3⟩,fun id o h _ _ _=>g id o h⟩
theorem Evo.setBox {S:Nat→Prop} {H:PH} {bid sid:Nat} {sp:List UInt8} {s o r:Int} {v:Nat} (h:H[bid]? = some (boxS sid sp s o r v)) (s' o' r':Int) (v':Nat):Evo S H (H.set bid (boxS sid sp s' o' r' v')):=by
 refine ⟨by simp,fun b key ⟨hk,sid2,s2,o2,r2,v2,so,h1,h2,h3⟩=>?_,fun id x hx _ _ hb=>?_⟩
 ·have hne:bid≠sid2:=fun e=>by
   subst e
   rw [h] at h2;cases h2
   exact key_box h3.T.symm
  by_cases e:bid=b
  ·subst e
   rw [h] at h1
   obtain ⟨rfl,rfl⟩:=boxS_inj (Option.some.inj h1)
   exact ⟨hk,sid,s',o',r',v',so,gS h,by rw [List.getElem?_set_ne hne];exact h2,h3⟩
  ·exact ⟨hk,sid2,s2,o2,r2,v2,so,by rw [List.getElem?_set_ne e];exact h1,by rw [List.getElem?_set_ne hne];exact h2,h3⟩
 ·have e:bid≠id:=fun e=>by
   subst e
   rw [h] at hx;cases hx
   exact hb rfl
  rw [List.getElem?_set_ne e];exact hx
theorem Evo.setKey {S:Nat→Prop} {H:PH} {sid:Nat} {k:List UInt8} {so so':PObj} (h:H[sid]? = some so) (hk:k.length=16) (h1:KeySt k so) (h2:KeySt k so'):Evo S H (H.set sid so'):=by
 refine ⟨by simp,fun b key ⟨hkl,sid2,s2,o2,r2,v2,so2,g1,g2,g3⟩=>?_,fun id x hx _ hb _=>?_⟩
 ·have hne:sid≠b:=fun e=>by
   subst e
   rw [h] at g1;cases g1
   exact key_box h1.T.symm
  by_cases e:sid=sid2
  ·subst e
   rw [h] at g2;cases g2
   have e2:k=key.take 16:=map_byteC_inj ((h1.take hk).symm.trans (g3.take (by simp [hkl])))
   subst e2
   exact ⟨hkl,sid,s2,o2,r2,v2,so',by rw [List.getElem?_set_ne hne];exact g1,gS h,h2⟩
  ·exact ⟨hkl,sid2,s2,o2,r2,v2,so2,by rw [List.getElem?_set_ne hne];exact g1,by rw [List.getElem?_set_ne e];exact g2,g3⟩
 ·have e:sid≠id:=fun e=>by
   subst e
   rw [h] at hx;cases hx
   exact hb h1.T
  rw [List.getElem?_set_ne e];exact hx
theorem Evo.setOther {S:Nat→Prop} {H:PH} {id:Nat} {o o':PObj} (h:H[id]? = some o) (hs:S id) (h1:o.T≠keyT) (h2:o.T≠boxT):Evo S H (H.set id o'):=by
 refine ⟨by simp,fun b key ⟨hkl,sid2,s2,o2,r2,v2,so2,g1,g2,g3⟩=>?_,fun id2 x hx hn _ _=>?_⟩
 ·have e1:id≠b:=fun e=>by
   subst e
   rw [h] at g1;cases g1
   exact h2 rfl
  have e2:id≠sid2:=fun e=>by
   subst e
   rw [h] at g2;cases g2
   exact h1 g3.T
  exact ⟨hkl,sid2,s2,o2,r2,v2,so2,by rw [List.getElem?_set_ne e1];exact g1,by rw [List.getElem?_set_ne e2];exact g2,g3⟩
 ·have e:id≠id2:=fun e=>hn (e▸hs)
  rw [List.getElem?_set_ne e];exact hx
/-! What is sealed, and opened. -/
def sealK (key:List UInt8) (u n:Int) (p:List UInt8):List UInt8:=sealV (key.drop 16) u (IntKind.u64.wrap n) p (streamV (key.take 16) (mixN (IntKind.u64.wrap n) u) p.length)
def openK (key:List UInt8) (u:Int) (b:List UInt8):Option (List UInt8):=match openB (key.drop 16) u b with
 | true=>some (xorL ((b.take (b.length - 8)).drop 8) (streamV (key.take 16) (mixN (beN (b.take 8):Nat) u) (b.length - 16)))
 | false=>none
def openV (key:List UInt8) (u:Int) (b:List UInt8):PV:=match openK key u b with
 | some p=>.tup [sl p,.int .i64 0]
 | none=>.tup [sl [],.int .i64 3]
theorem sealAt {H:PH} {bid:Nat} {key:List UInt8} (hb:BoxAt H bid key) (u n:Int) (hu:isUseB u=true) (hn0:0≤n) (hn1:n≤1099511627776) (p:List UInt8) (hp:p.length≤784) :
  CK prog 108 [.ptr (some (bid,0)),.int .i64 u,.int .i64 n,sl p] H fun x H'=>x=.tup [ow (sealK key u n p),.int .i64 0]∧Evo (fun _=>False) H H'∧H'.length=H.length:=by
 obtain ⟨hk,sid,s,o,r,v,so,h1,h2,h3⟩:=hb
 have hne:bid≠sid:=fun e=>by
  subst e
  rw [h1] at h2;cases h2
  exact key_box h3.T.symm
 have hk16:(key.take 16).length=16:=by simp [hk]
 refine (c108 (KeySt (key.take 16)) (fun o' h=>h.flat) so sid n u hu hn0 hn1 p (streamV (key.take 16) (mixN (IntKind.u64.wrap n) u) p.length) (streamV_len _ _ _) hp
  (fun H' hs=>c225 wordsOk (key.take 16) hk16 sid _ p.length (by omega) so h3 H' hs) (key.drop 16) (by simp [hk]) s o r v bid H h1 h2 hne).mono fun x H' hh=>?_
 obtain ⟨rfl,o',ho',rfl⟩:=hh
 refine ⟨rfl,(Evo.setBox h1 (IntKind.i64.wrap (s+1)) o r (v+1)).trans (Evo.setKey (k:=key.take 16) (so:=so) (by rw [List.getElem?_set_ne hne];exact h2) hk16 h3 ho'),by simp⟩
theorem openAt {H:PH} {bid:Nat} {key:List UInt8} (hb:BoxAt H bid key) (u:Int) (hu:isUseB u=true) (b:List UInt8) :
  CK prog 123 [.ptr (some (bid,0)),.int .i64 u,sl b] H fun x H'=>x=openV key u b∧Evo (fun _=>False) H H'∧H'.length=H.length:=by
 obtain ⟨hk,sid,s,o,r,v,so,h1,h2,h3⟩:=hb
 have hne:bid≠sid:=fun e=>by
  subst e
  rw [h1] at h2;cases h2
  exact key_box h3.T.symm
 have hk16:(key.take 16).length=16:=by simp [hk]
 unfold openV openK
 by_cases hl:16≤b.length∧b.length≤800
 ·refine (c123o (key.take 16) hk16 so h3 sid u hu b (key.drop 16) (by simp [hk]) s o r v bid H h1 h2 hne hl.1 hl.2).demT fun x H' hh=>?_
  cases e:openB (key.drop 16) u b
  ·rw [e] at hh
   obtain ⟨rfl,rfl⟩:=hh
   exact ⟨_,rfl,rfl,Evo.setBox h1 _ _ _ _,by simp⟩
  ·rw [e] at hh
   obtain ⟨rfl,o',ho',rfl⟩:=hh
   exact ⟨_,rfl,rfl,(Evo.setBox h1 s (IntKind.i64.wrap (o+1)) r (v+1)).trans (Evo.setKey (k:=key.take 16) (so:=so) (by rw [List.getElem?_set_ne hne];exact h2) hk16 h3 ho'),by simp⟩
 ·have e:openB (key.drop 16) u b=false:=by
   unfold openB
   by_cases h16:16≤b.length
   ·rw [decide_eq_false (p:=b.length≤800) (fun h=>hl ⟨h16,h⟩),Bool.and_false,Bool.false_and,Bool.false_and]
   ·rw [decide_eq_false h16,Bool.false_and,Bool.false_and,Bool.false_and]
  rw [e]
  refine (c123z u hu b (by omega) sid (key.drop 16) (by simp [hk]) s o r v bid H h1).demT fun x H' hh=>?_
  obtain ⟨rfl,rfl⟩:=hh
  exact ⟨_,rfl,rfl,Evo.setBox h1 _ _ _ _,by simp⟩
theorem beN_bigV (n:Nat) (hn:n≤1099511627776):beN (bigV (n:Int))=n:=by
 have e:∀k:Nat,k≤56→(byteI (ishr .u64 (n:Int) k)).toNat=n / 2 ^ k % 256:=fun k hk=>by
  have h1:ishr .u64 (n:Int) k=((n / 2 ^ k:Nat):Int):=by
   show Int.fdiv (n:Int) (2 ^ (min (k:Int).toNat 64))=_
   rw [Int.toNat_natCast,Nat.min_eq_left (by omega),show ((2:Int) ^ k)=((2 ^ k:Nat):Int) by push_cast;rfl]
   rw [Int.fdiv_eq_ediv_of_nonneg _ (Int.natCast_nonneg _)]
   rfl
  rw [h1]
  unfold byteI
  rw [UInt8.toNat_ofNat']
  omega
 have e56:=e 56 (by decide)
 have e48:=e 48 (by decide)
 have e40:=e 40 (by decide)
 have e32:=e 32 (by decide)
 have e24:=e 24 (by decide)
 have e16:=e 16 (by decide)
 have e8:=e 8 (by decide)
 have e0:=e 0 (by decide)
 show ((((((((0*256+(byteI (ishr .u64 (n:Int) 56)).toNat)*256+(byteI (ishr .u64 (n:Int) 48)).toNat)*256+(byteI (ishr .u64 (n:Int) 40)).toNat)*256+(byteI (ishr .u64 (n:Int) 32)).toNat)*256+(byteI (ishr .u64 (n:Int) 24)).toNat)*256+(byteI (ishr .u64 (n:Int) 16)).toNat)*256+(byteI (ishr .u64 (n:Int) 8)).toNat)*256+(byteI (ishr .u64 (n:Int) 0)).toNat)=n
 simp only [show ((56:Nat):Int)=56 from rfl,show ((48:Nat):Int)=48 from rfl,show ((40:Nat):Int)=40 from rfl,show ((32:Nat):Int)=32 from rfl,show ((24:Nat):Int)=24 from rfl,show ((16:Nat):Int)=16 from rfl,show ((8:Nat):Int)=8 from rfl,show ((0:Nat):Int)=0 from rfl] at e56 e48 e40 e32 e24 e16 e8 e0
 rw [e56,e48,e40,e32,e24,e16,e8,e0]
 omega
theorem xorL_xorL:∀(p st:List UInt8),st.length=p.length→xorL (xorL p st) st=p
 | [],_,_=>by simp [xorL]
 | x::p,[],h=>by simp at h
 | x::p,y::st,h=>by
  have ih:=xorL_xorL p st (by simpa using h)
  show ((x ^^^ y) ^^^ y)::xorL (xorL p st) st=x::p
  rw [ih]
  congr 1
  rw [UInt8.xor_assoc,UInt8.xor_self,UInt8.xor_zero]
theorem sealV_len (sp:List UInt8) (u nn:Int) (p st:List UInt8) (h:st.length=p.length):(sealV sp u nn p st).length=p.length+16:=by
 unfold sealV tagV
 rw [List.length_append,List.length_append,bigV_len,bigV_len,xorL_len p st h];omega
theorem sealK_len (key:List UInt8) (u n:Int) (p:List UInt8):(sealK key u n p).length=p.length+16:=sealV_len _ _ _ _ _ (streamV_len _ _ _)
theorem sealK_head (key:List UInt8) (u n:Int) (p:List UInt8):(sealK key u n p).take 8=bigV (IntKind.u64.wrap n):=by
 unfold sealK sealV
 rw [List.append_assoc,List.take_append_of_le_length (by rw [bigV_len];omega),List.take_of_length_le (by rw [bigV_len];omega)]
theorem open_seal (key:List UInt8) (u n:Int) (p:List UInt8) (hn0:0≤n) (hn1:n≤1099511627776) (hp:p.length≤784):openK key u (sealK key u n p)=some p:=by
 obtain ⟨m,rfl⟩:∃m:Nat,n=m:=⟨n.toNat,by omega⟩
 have hw:IntKind.u64.wrap (m:Int)=(m:Int):=wrapU64 (by omega)
 have hlen:=sealK_len key u m p
 have hhead:=sealK_head key u m p
 rw [hw] at hhead
 have hst:=streamV_len (key.take 16) (mixN (IntKind.u64.wrap (m:Int)) u) p.length
 generalize hS:streamV (key.take 16) (mixN (IntKind.u64.wrap (m:Int)) u) p.length=st at hst
 have hx:=xorL_len p st hst
 have hbody:(sealK key u m p).take ((sealK key u m p).length - 8)=bigV (m:Int)++xorL p st:=by
  rw [hlen]
  unfold sealK sealV
  rw [hw] at hS ⊢
  rw [hS,List.take_append_of_le_length (by rw [List.length_append,bigV_len];omega),List.take_of_length_le (by rw [List.length_append,bigV_len];omega)]
 have htag:(sealK key u m p).drop ((sealK key u m p).length - 8)=tagV (key.drop 16) u (bigV (m:Int)++xorL p st):=by
  rw [hlen]
  unfold sealK sealV
  rw [hw] at hS ⊢
  rw [hS]
  have e:p.length+16 - 8=(bigV (m:Int)++xorL p st).length:=by rw [List.length_append,bigV_len];omega
  rw [e,List.drop_left]
 have hop:openB (key.drop 16) u (sealK key u m p)=true:=by
  unfold openB
  rw [hhead,hbody,htag,decide_eq_true (by omega),decide_eq_true (by omega),beN_bigV m (by omega),decide_eq_true (by omega),decide_eq_true rfl];rfl
 unfold openK
 rw [hop]
 show some _=some p
 rw [hbody,hhead,hlen,beN_bigV m (by omega)]
 rw [hw] at hS
 have e8:(bigV (m:Int)++xorL p st).drop 8=xorL p st:=by
  rw [List.drop_append_of_le_length (by rw [bigV_len];omega),List.drop_eq_nil_of_le (by rw [bigV_len];omega),List.nil_append]
 rw [e8,show p.length+16 - 16=p.length by omega,hS,xorL_xorL p st hst]
theorem speck_key (k:List UInt8):KeySt k (speckO k):=by
 refine .inl ⟨0,?_⟩
 show PObj.mk _ (k.map bC++([.int .u32 0,.int .i32 0]++List.replicate 29 (.int .u32 0))) 0=PObj.mk _ ((k.map bC++[.int .u32 0,.int .i32 0,.int .u32 0])++(List.replicate 27 (0:Int)).map u32C++[.int .u32 0]) 0
 rw [List.append_assoc,List.append_assoc]
 rfl
theorem ringT (l:List Ent) (v:Nat):(ringO l v).T≠keyT∧(ringO l v).T≠boxT:=⟨fun h=>absurd (show (ringO [] 0).T=keyT from h) (by decide),fun h=>absurd (show (ringO [] 0).T=boxT from h) (by decide)⟩
structure Adds (H:PH) (rid:Nat) (l:List Ent) (r n key:List UInt8) (H':PH):Prop where
 ex:∃(e:Ent) (v':Nat),e.r=r∧e.n=n∧e.kv=nextKv (lastE (isP r n) l)∧e.key=key∧H'[rid]? = some (ringO (l++[e]) v')∧BoxAt H' e.box key
 evo:Evo (·=rid) H H'
def addB (l:List Ent) (r n:List UInt8):Bool:=isPrincB r n&&!decide (40≤l.length∨255<nextKv (lastE (isP r n) l))
structure RingAt (H:PH) (rid:Nat) (l:List Ent):Prop where
 ex:∃v,H[rid]? = some (ringO l v)
 box:∀e∈l,BoxAt H e.box e.key
theorem RingAt.klen {H:PH} {rid:Nat} {l:List Ent} (h:RingAt H rid l):∀e∈l,e.key.length=32:=fun e he=>(h.box e he).1
theorem RingAt.evo {S:Nat→Prop} {H H':PH} {rid:Nat} {l:List Ent} (h:RingAt H rid l) (k:Evo S H H') (hs:¬S rid):RingAt H' rid l:=by
 obtain ⟨⟨v,h1⟩,h2⟩:=h
 exact ⟨⟨v,k.same _ _ h1 hs (ringT _ _).1 (ringT _ _).2⟩,fun e he=>k.box _ _ (h2 e he)⟩
theorem RingAt.add {H H':PH} {rid:Nat} {l:List Ent} {r n key:List UInt8} (h:RingAt H rid l) (k:Adds H rid l r n key H'):∃e,e.r=r∧e.n=n∧e.kv=nextKv (lastE (isP r n) l)∧e.key=key∧RingAt H' rid (l++[e]):=by
 obtain ⟨⟨e,v',h1,h2,h3,h4,h5,h6⟩,h7⟩:=k
 refine ⟨e,h1,h2,h3,h4,⟨v',h5⟩,fun x hx=>?_⟩
 rcases List.mem_append.1 hx with hx | hx
 ·exact h7.box _ _ (h.box x hx)
 ·have:x=e:=by simpa using hx
  subst this
  rw [h4];exact h6
theorem lastE_mem {f:Ent→Bool} {l:List Ent} {e:Ent} (h:lastE f l=some e):e∈l:=List.mem_reverse.1 (List.mem_of_find?_eq_some h)
theorem boxGet {H:PH} {rid:Nat} {l:List Ent} (h:RingAt H rid l) (hl:l.length≤1000) (r n:List UInt8) (k:Int) :
  CK prog 122 [.ptr (some (rid,0)),.agg [.str r,.str n],.int .i64 k] H fun x H'=>x=boxR (lastE (isK r n k) l)∧H'=H:=by
 obtain ⟨v,hv⟩:=h.ex
 exact c122 hv hl h.klen r n k
theorem lastGet {H:PH} {rid:Nat} {l:List Ent} (h:RingAt H rid l) (hl:l.length≤1000) (r n:List UInt8) :
  CK prog 49 [.ptr (some (rid,0)),.agg [.str r,.str n]] H fun x H'=>x=lastR (lastE (isP r n) l)∧H'=H:=by
 obtain ⟨v,hv⟩:=h.ex
 exact c49 hv hl h.klen r n
theorem newRing {H:PH}:RingAt (H++[ringO [] 0]) H.length []:=⟨⟨0,by simp⟩,fun e he=>by cases he⟩
theorem partL_784 {p:Prt} (h:isPartB p=true):(partL p).length≤784:=by
 have h0:=part_len p
 unfold isPartB at h
 simp only [Bool.and_eq_true] at h
 have gp:=princ_len h.1.1
 have gt:=isText_len h.1.2
 have g_st:=inZ_le h.2.1
 have g_en:=inZ_le h.2.2
 omega
theorem rptL_784 {p:Rpt} (h:isRptB p=true):(rptL p).length≤784:=by
 have h0:=rpt_len p
 unfold isRptB at h
 simp only [Bool.and_eq_true] at h
 have gp:=princ_len h.1.1
 have g_st:=inZ_le h.1.2.1
 have g_en:=inZ_le h.1.2.2
 have g_nc:=inZ_le h.2
 omega
structure RepO where
 cr:List UInt8
 cn:List UInt8
 sr:List UInt8
 sn:List UInt8
 kv:Int
 tb:List UInt8
 bl:List UInt8
def RepO.cells (r:RepO):List PV:=[.str r.cr,.str r.cn,.str r.sr,.str r.sn,.int .i64 r.kv,sl r.tb,sl r.bl]
def repZ:RepO:=⟨[],[],[],[],0,[],[]⟩
def rptOf (p:Prt) (sr sn:List UInt8) (nonce:Int):Rpt:=⟨p.k,sr,sn,p.st,p.en,nonce⟩
def makeV (l:List Ent) (n:Int) (sr sn:List UInt8) (p:Prt) (nonce:Int) (bkey:List UInt8) (u:Int):RepO×Int:=match lastE (isP sr sn) l with
 | none=>(repZ,4)
 | some e=>match isPartB p&&isRptB (rptOf p sr sn nonce) with
  | true=>(⟨p.r,p.n,sr,sn,e.kv,sealK e.key 2 (n+1) (partL p),sealK bkey u (n+2) (rptL (rptOf p sr sn nonce))⟩,0)
  | false=>(repZ,2)
structure AsQ where
 cr:List UInt8
 cn:List UInt8
 sr:List UInt8
 sn:List UInt8
 till:Int
 nonce:Int
def AsQ.cells (q:AsQ):List PV:=[.str q.cr,.str q.cn,.str q.sr,.str q.sn,.int .i64 q.till,.int .i64 q.nonce]
def AsQ.ok (q:AsQ):Bool:=isPrincB q.cr q.cn&&isPrincB q.sr q.sn&&inZ q.till 0 1073741824&&inZ q.nonce 0 1073741824
def lateB (now:Int):Bool:=decide (now<0)||decide (1073741824<now)
def krb (r:List UInt8):List UInt8:=krbB++r
def asPart (q:AsQ) (now:Int) (draw:Nat→UInt8):Prt:=⟨q.cr,q.cn,draw,[],now,min q.till (now+1000)⟩
def asV (realm:List UInt8) (l:List Ent) (n:Int) (q:AsQ) (now:Int) (draw:Nat→UInt8):RepO×Int:=match lateB now||!q.ok with
 | true=>(repZ,1)
 | false=>match lastE (isP q.cr q.cn) l with
  | none=>(repZ,5)
  | some c=>match decide (q.cr=realm) with
   | false=>(repZ,5)
   | true=>match lastE (isP q.sr q.sn) l with
    | none=>(repZ,6)
    | some s=>match decide (q.sr=realm∧q.sn=krb realm) with
     | false=>(repZ,6)
     | true=>match decide (q.till<now) with
      | true=>(repZ,7)
      | false=>makeV l n q.sr q.sn (asPart q now draw) q.nonce c.key 3
set_option maxHeartbeats 2000000
def ttXr:TT:=[(3,⟨.int .i64,1,8,[.int .i64 0]⟩),(4,⟨.bool,1,1,[.bool false]⟩),(5,⟨.int .u8,1,1,[.int .u8 0]⟩),(9,⟨.str,1,16,[.str []]⟩),(25,⟨.strct [(9,0),(9,1)],2,32,[.str [],.str []]⟩),(43,⟨.arr 32 5,32,32,List.replicate 32 (.int .u8 0)⟩),(77,⟨.fn,1,8,[.nilF]⟩),(93,⟨.ptr,1,8,[.ptr none]⟩),(113,⟨.slice 210,1,24,[.slice 0 [] (some 210)]⟩),(115,⟨.strct [(113,0)],1,24,[.slice 0 [] (some 210)]⟩),(86,⟨.fn,1,8,[.nilF]⟩),(210,⟨.strct [(25,0),(3,2),(43,3)],35,72,[.str [],.str [],.int .i64 0]++List.replicate 32 (.int .u8 0)⟩)]
theorem ttXr_ok:ttOk prog ttXr=true:=by kernel_rfl
def imm99:List Nat:=[3]
def imm45:List Nat:=[4,5]
def Ent.xcells (e:Ent):List PV:=[.str e.r,.str e.n,.int .i64 e.kv]++e.key.map bC
def xringO (l:List Ent) (v:Nat):PObj:=⟨115,[.slice l.length (l.flatMap Ent.xcells) (some 210)],v⟩
theorem xcells_len {e:Ent} (h:e.key.length=32):e.xcells.length=35:=by simp [Ent.xcells,h]
theorem xflat_at {l:List Ent} (hk:∀e∈l,e.key.length=32) {i:Nat} (hi:i<l.length) (j:Nat) (c:PV) (h:l[i].xcells[j]? = some c):(l.flatMap Ent.xcells)[i*35+j]? = some c:=by
 induction l generalizing i with
 | nil=>simp at hi
 | cons e l ih =>
  rw [List.flatMap_cons]
  have he:=xcells_len (hk e List.mem_cons_self)
  cases i with
  | zero =>
   have hj:j<e.xcells.length:=(List.getElem?_eq_some_iff.1 h).1
   rw [Nat.zero_mul,Nat.zero_add,List.getElem?_append_left hj];exact h
  | succ i =>
   rw [List.getElem?_append_right (by omega),show (i+1)*35+j - e.xcells.length=i*35+j by omega]
   exact ih (fun e he=>hk e (List.mem_cons_of_mem _ he)) (by simpa using hi) h
theorem fitXr (a b:List UInt8):FitP ttXr 6 25 [.str a,.str b]:=⟨rfl,⟨by show 1≤2;omega,a,rfl⟩,rfl,⟨by show 1≤1;omega,b,rfl⟩,rfl⟩
theorem pair_eq {a b c d:List UInt8}:([PV.str a,PV.str b]=[PV.str c,PV.str d])↔(a=c∧b=d):=by
 constructor
 ·intro h
  injection h with h1 h2
  injection h1 with h1
  injection h2 with h2 _
  injection h2 with h2
  exact ⟨h1,h2⟩
 ·rintro ⟨rfl,rfl⟩;rfl
theorem lastE_take (f:Ent→Bool) (l:List Ent) {m:Nat} (hm:m<l.length):lastE f (l.take (m+1))=if f l[m] then some l[m] else lastE f (l.take m):=by
 rw [List.take_succ_eq_append_getElem hm];exact lastE_snoc f _ _
def kvOf:Option Ent→Nat
 | none=>0
 | some e=>e.kv
theorem c99 {H:PH} {rid v:Nat} {l:List Ent} (hid:H[rid]? = some (xringO l v)) (hl:l.length≤1000) (hk:∀e∈l,e.key.length=32) (r n:List UInt8) :
  CK prog 99 [.ptr (some (rid,0)),.agg [.str r,.str n]] H fun x H'=>x=.int .i64 (kvOf (lastE (isP r n) l))∧H'=H:=by
 (refine fnS (imm:=imm99) ttXr_ok func99 ?_;(conv=>whnf))
 refine lO FiS (fun x=>[(0,.ptr (some (rid,0))),(3,.elem [.str r,.str n]),(5,.int .i64 (kvOf (lastE (isP r n) (l.take x.k)))),(6,.int .i64 x.k)]) (fun _=>H) (fun x=>x.k≤l.length) (fun x=>l.length - x.k)
  ⟨⟨0⟩,Nat.zero_le _,⟨rfl,rfl,rfl,rfl,trivial⟩,rfl⟩ ?_
 rintro ⟨k⟩ hkl
 replace hkl:k≤l.length:=hkl
 conv=>whnf
 ((conv in (_[_]?)=>tactic=>exact hid);(conv=>whnf))
 refine ⟨fun h=>?_,fun h=>?_⟩
 ·have h:(k:Int)<l.length:=h
  have hi:k<l.length:=by omega
  have hkey:=hk _ (List.getElem_mem hi)
  have hlast:=lastE_take (isP r n) l hi
  have hat:=fun j c hj=>xflat_at hk hi j c hj
  generalize l[k]=e at hkey hlast hat
  obtain ⟨er,en,kv,key,box⟩:=e
  match key,hkey with
  | [a0,a1,a2,a3,a4,a5,a6,a7,a8,a9,a10,a11,a12,a13,a14,a15,b0,b1,b2,b3,b4,b5,b6,b7,b8,b9,b10,b11,b12,b13,b14,b15],_ =>
   conv=>whnf
   refine dP2 (by kernel_rfl) ?_
   conv=>whnf
   iterate 3 (refine dS ?_;(conv=>whnf))
   apply Exists.intro
   apply And.intro
   ·conv=>whnf
    ((conv in (_[_]?)=>tactic=>exact hid);(conv=>whnf))
    exact ⟨rfl,rfl,trivial⟩
   conv=>whnf
   (refine dS ?_;(conv=>whnf))
   refine ⟨.elem (Ent.mk er en kv [a0,a1,a2,a3,a4,a5,a6,a7,a8,a9,a10,a11,a12,a13,a14,a15,b0,b1,b2,b3,b4,b5,b6,b7,b8,b9,b10,b11,b12,b13,b14,b15] box).xcells,⟨⟨by omega,h⟩,(Ent.mk er en kv [a0,a1,a2,a3,a4,a5,a6,a7,a8,a9,a10,a11,a12,a13,a14,a15,b0,b1,b2,b3,b4,b5,b6,b7,b8,b9,b10,b11,b12,b13,b14,b15] box).xcells,hat,rfl,rfl,trivial⟩,?_⟩
   conv=>whnf
   iterate 3 (refine dS ?_;(conv=>whnf))
   by_cases hp:er=r∧en=n
   ·have hpt:isP r n ⟨er,en,kv,[a0,a1,a2,a3,a4,a5,a6,a7,a8,a9,a10,a11,a12,a13,a14,a15,b0,b1,b2,b3,b4,b5,b6,b7,b8,b9,b10,b11,b12,b13,b14,b15],box⟩=true:=decide_eq_true hp
    rw [if_pos hpt] at hlast
    refine ⟨.bool true,?_,?_⟩
    ·conv=>whnf
     refine ⟨⟨fitXr _ _,fitXr _ _⟩,?_⟩
     conv=>whnf
     exact ⟨fun _=>⟨rfl,rfl,trivial⟩,fun h=>absurd (pair_eq.2 hp) h⟩
    conv=>whnf
    ((conv in (_[_]?)=>tactic=>exact hid);(conv=>whnf))
    refine ⟨⟨by omega,h⟩,(Ent.mk er en kv [a0,a1,a2,a3,a4,a5,a6,a7,a8,a9,a10,a11,a12,a13,a14,a15,b0,b1,b2,b3,b4,b5,b6,b7,b8,b9,b10,b11,b12,b13,b14,b15] box).xcells,hat,?_⟩
    conv=>whnf
    refine ⟨⟨k+1⟩,by show k+1≤l.length;omega,⟨rfl,rfl,?_,?_,trivial⟩,rfl,by show l.length - (k+1)<l.length - k;omega⟩
    ·show PV.int .i64 kv=_
     rw [hlast];rfl
    ·show PV.int _ (IntKind.i64.wrap ((k:Int)+1))=PV.int _ _
     rw [w64 (by omega) (by omega)];simp
   ·have hpt:¬isP r n ⟨er,en,kv,[a0,a1,a2,a3,a4,a5,a6,a7,a8,a9,a10,a11,a12,a13,a14,a15,b0,b1,b2,b3,b4,b5,b6,b7,b8,b9,b10,b11,b12,b13,b14,b15],box⟩=true:=by
     unfold isP
     rw [decide_eq_false hp];exact Bool.false_ne_true
    rw [if_neg hpt] at hlast
    refine ⟨.bool false,?_,?_⟩
    ·conv=>whnf
     refine ⟨⟨fitXr _ _,fitXr _ _⟩,?_⟩
     conv=>whnf
     exact ⟨fun h=>absurd (pair_eq.1 h) hp,fun _=>⟨rfl,rfl,trivial⟩⟩
    conv=>whnf
    refine ⟨⟨k+1⟩,by show k+1≤l.length;omega,⟨rfl,rfl,?_,?_,trivial⟩,rfl,by show l.length - (k+1)<l.length - k;omega⟩
    ·rw [hlast];rfl
    ·show PV.int _ (IntKind.i64.wrap ((k:Int)+1))=PV.int _ _
     rw [w64 (by omega) (by omega)];simp
 ·have h:¬(k:Int)<l.length:=h
  have e:l.take k=l:=List.take_of_length_le (by omega)
  rw [e]
  conv=>whnf
  exact ⟨rfl,rfl⟩
def xaddH (H:PH) (rid v:Nat) (l:List Ent) (e:Ent):PH:=match addB l e.r e.n with
 | true=>H.set rid (xringO (l++[e]) (v+2))
 | false=>H
def D45 (rid:Nat):Draw:={ cons:=[(14,[36])],imp:=[11,14],win:=[(0,0,1),(12,1,1),(13,1,1),(14,1,1)],fs:=[(4,11,.cell rid 0)] }
theorem c45 {H:PH} {rid v:Nat} {l:List Ent} (hid:H[rid]? = some (xringO l v)) (hl:l.length≤1000) (hk:∀e∈l,e.key.length=32∧e.kv≤1000) (e:Ent) (hkey:e.key.length=32) (hkv:e.kv=nextKv (lastE (isP e.r e.n) l))
  (hr:e.r.length≤1099511627775) (hn:e.n.length≤1099511627775) :
  CK prog 45 [.ptr (some (rid,0)),.agg [.str e.r,.str e.n],.agg (e.key.map bC)] H fun x H'=>x=addR l e.r e.n∧H'=xaddH H rid v l e:=by
 have hkvB:kvOf (lastE (isP e.r e.n) l)≤1000:=by
  cases he:lastE (isP e.r e.n) l with
  | none=>exact Nat.zero_le _
  | some x=>exact (hk x (lastE_mem he)).2
 have hN:nextKv (lastE (isP e.r e.n) l)=kvOf (lastE (isP e.r e.n) l)+1:=by cases lastE (isP e.r e.n) l <;> rfl
 unfold addR xaddH addB
 generalize hL:kvOf (lastE (isP e.r e.n) l)=N at hkvB hN
 rw [hN] at hkv ⊢
 obtain ⟨r,n,kv,key,box⟩:=e
 replace hkv:kv=N+1:=hkv
 match key,hkey with
 | [a0,a1,a2,a3,a4,a5,a6,a7,a8,a9,a10,a11,a12,a13,a14,a15,b0,b1,b2,b3,b4,b5,b6,b7,b8,b9,b10,b11,b12,b13,b14,b15],hkey =>
  (refine fnS (imm:=imm45) ttXr_ok func45 ?_;(conv=>whnf))
  refine cP (c32 r n hr hn) ?_
  cases hp:isPrincB r n
  ·conv=>whnf
   exact ⟨rfl,rfl⟩
  ·conv=>whnf
   refine cO (c99 hid hl (fun e he=>(hk e he).1) r n) ?_
   rintro x H' ⟨hx,hH⟩
   rw [hx,hH];clear hx hH
   rw [hL]
   conv=>whnf
   ((conv in (_[_]?)=>tactic=>exact hid);(conv=>whnf))
   refine ⟨fun h40=>?_,fun h40=>?_⟩
   ·have h40:(l.length:Int) ≥ 40:=h40
    have hc:40≤l.length∨255<N+1:=by omega
    simp only [if_pos hc,decide_eq_true hc]
    conv=>whnf
    exact ⟨rfl,rfl⟩
   have h40:¬(l.length:Int) ≥ 40:=h40
   conv=>whnf
   refine ⟨fun h255=>?_,fun h255=>?_⟩
   ·have h255:(N:Int) ≥ 255:=h255
    have hc:40≤l.length∨255<N+1:=by omega
    simp only [if_pos hc,decide_eq_true hc]
    conv=>whnf
    exact ⟨rfl,rfl⟩
   have h255:¬(N:Int) ≥ 255:=h255
   have hc:¬(40≤l.length∨255<N+1):=by omega
   simp only [if_neg hc,decide_eq_false hc]
   conv=>whnf
   have h2:(H.set rid ⟨115,[.slice l.length (l.flatMap Ent.xcells) none],v+1⟩)[rid]? = some ⟨115,[.slice l.length (l.flatMap Ent.xcells) none],v+1⟩:=gS hid
   refine dO2 (D45 rid) [H,H.set rid ⟨115,[.slice l.length (l.flatMap Ent.xcells) none],v+1⟩,H.set rid (xringO (l++[⟨r,n,kv,[a0,a1,a2,a3,a4,a5,a6,a7,a8,a9,a10,a11,a12,a13,a14,a15,b0,b1,b2,b3,b4,b5,b6,b7,b8,b9,b10,b11,b12,b13,b14,b15],box⟩]) (v+2))] (by kernel_rfl) rfl ?_ ?_
   ·refine ⟨fun k h3 h4=>?_,trivial⟩
    exact absurd h4 (by show ¬k<0;omega)
   conv=>whnf
   (refine dS2 ?_;(conv=>whnf))
   iterate 3 (refine dS ?_;(conv=>whnf))
   apply Exists.intro
   apply And.intro
   ·conv=>whnf
    ((conv in (_[_]?)=>tactic=>exact hid);(conv=>whnf))
    exact ⟨rfl,rfl,rfl,trivial⟩
   conv=>whnf
   iterate 6 (refine dS ?_;(conv=>whnf))
   apply Exists.intro
   apply And.intro
   ·conv=>whnf
    ((conv in (_[_]?)=>tactic=>exact hid);(conv=>whnf))
    refine ⟨⟨by show (l.length+1)*72≤_;omega,rfl,rfl⟩,?_⟩
    conv=>whnf
    exact ⟨rfl,rfl,trivial⟩
   conv=>whnf
   iterate 2 (refine dS ?_;(conv=>whnf))
   have hw:IntKind.i64.wrap ((N:Int)+1)=(kv:Int):=by rw [w64 (by omega) (by omega),hkv];rfl
   apply Exists.intro
   apply And.intro
   ·conv=>whnf
    ((conv in (_[_]?)=>tactic=>exact h2);(conv=>whnf))
    refine ⟨rfl,?_,trivial⟩
    show (List.set H rid ⟨115,[.slice l.length (l.flatMap Ent.xcells) none],v+1⟩).set rid ⟨115,[PV.slice (l.length+1) (l.flatMap Ent.xcells++([.str r,.str n,.int .i64 (IntKind.i64.wrap ((N:Int)+1))]++[a0,a1,a2,a3,a4,a5,a6,a7,a8,a9,a10,a11,a12,a13,a14,a15,b0,b1,b2,b3,b4,b5,b6,b7,b8,b9,b10,b11,b12,b13,b14,b15].map bC)) (some 210)],v+1+1⟩=List.set H rid (xringO (l++[⟨r,n,kv,[a0,a1,a2,a3,a4,a5,a6,a7,a8,a9,a10,a11,a12,a13,a14,a15,b0,b1,b2,b3,b4,b5,b6,b7,b8,b9,b10,b11,b12,b13,b14,b15],box⟩]) (v+2))
    rw [List.set_set,hw]
    unfold xringO
    rw [List.flatMap_append,List.length_append]
    rfl
   conv=>whnf
   refine ⟨?_,rfl⟩
   show PV.tup [.int .i64 (IntKind.i64.wrap ((N:Int)+1)),.int .i64 0]=PV.tup [.int .i64 ((N+1:Nat):Int),.int .i64 0]
   rw [hw,hkv]
def Inc (l:List Ent):Prop:=(∀(i j:Nat) (e f:Ent),i<j→l[i]? = some e→l[j]? = some f→e.r=f.r→e.n=f.n→e.kv<f.kv)∧∀e∈l,1≤e.kv
theorem Inc.nil:Inc []:=⟨fun i j e f _ h=>by simp at h,fun e h=>by cases h⟩
theorem lastE_none {f:Ent→Bool} {l:List Ent}:lastE f l=none↔∀e∈l,f e=false:=by
 unfold lastE
 rw [List.find?_eq_none]
 simp
theorem lastE_ok {f:Ent→Bool} {l:List Ent} {e:Ent} (h:lastE f l=some e):f e=true:=List.find?_some h
theorem lastE_last {f:Ent→Bool}:∀{l:List Ent} {e:Ent},lastE f l=some e→∃i:Nat,l[i]? = some e∧∀(j:Nat) (x:Ent),i<j→l[j]? = some x→f x=false:=by
 intro l
 induction h:l.length generalizing l with
 | zero =>
  intro e he
  rw [List.length_eq_zero_iff.1 h] at he;cases he
 | succ n ih =>
  intro e he
  have hne:l≠[]:=by rintro rfl;simp at h
  have hd:=List.dropLast_concat_getLast hne
  have hdl:l.dropLast.length=n:=by simp [h]
  rw [←hd,lastE_snoc] at he
  by_cases hf:f (l.getLast hne)=true
  ·rw [if_pos hf] at he;cases he
   refine ⟨n,by rw [List.getLast_eq_getElem,List.getElem?_eq_getElem (by omega)];congr 1;congr 1;omega,fun j x hj hx=>?_⟩
   have:=(List.getElem?_eq_some_iff.1 hx).1
   omega
  ·rw [if_neg hf] at he
   obtain ⟨i,h1,h2⟩:=ih hdl he
   have hi:i<n:=by have:=(List.getElem?_eq_some_iff.1 h1).1;omega
   refine ⟨i,by rw [←hd,List.getElem?_append_left (by omega)];exact h1,fun j x hj hx=>?_⟩
   rw [←hd] at hx
   by_cases hjn:j<n
   ·rw [List.getElem?_append_left (by omega)] at hx
    exact h2 j x hj hx
   ·have e0:j=n:=by
     have:=(List.getElem?_eq_some_iff.1 hx).1
     rw [List.length_append,hdl] at this
     simp at this;omega
    subst e0
    rw [List.getElem?_append_right (by omega),hdl,Nat.sub_self] at hx
    have:l.getLast hne=x:=by simpa using hx
    subst this
    simpa using hf
theorem isP_iff {r n:List UInt8} {e:Ent}:isP r n e=true↔e.r=r∧e.n=n:=by unfold isP;exact decide_eq_true_iff
theorem Inc.snoc {l:List Ent} (h:Inc l) {e:Ent} (he:e.kv=nextKv (lastE (isP e.r e.n) l)):Inc (l++[e]):=by
 refine ⟨fun i j x y hij hi hj hr hn=>?_,fun x hx=>?_⟩
 ·by_cases hjl:j<l.length
  ·rw [List.getElem?_append_left hjl] at hj
   rw [List.getElem?_append_left (by omega)] at hi
   exact h.1 i j x y hij hi hj hr hn
  ·have e0:j=l.length:=by
    have:=(List.getElem?_eq_some_iff.1 hj).1
    simp at this;omega
   subst e0
   rw [List.getElem?_append_right (by omega),Nat.sub_self] at hj
   rw [List.getElem?_append_left hij] at hi
   have:e=y:=by simpa using hj
   subst this
   have hx:x∈l:=List.mem_of_getElem? hi
   cases hg:lastE (isP e.r e.n) l with
   | none =>
    have:=lastE_none.1 hg x hx
    rw [isP_iff.2 ⟨hr,hn⟩] at this;cases this
   | some f =>
    rw [hg] at he
    have he:e.kv=f.kv+1:=he
    obtain ⟨b1,b2⟩:=isP_iff.1 (lastE_ok hg)
    obtain ⟨q,hq,hlast⟩:=lastE_last hg
    rcases Nat.lt_trichotomy i q with c | c | c
    ·have:=h.1 i q x f c hi hq (hr.trans b1.symm) (hn.trans b2.symm);omega
    ·subst c;rw [hi] at hq;cases hq;omega
    ·have:=hlast i x c hi
     rw [isP_iff.2 ⟨hr,hn⟩] at this;cases this
 ·rcases List.mem_append.1 hx with hx | hx
  ·exact h.2 x hx
  ·have:x=e:=by simpa using hx
   subst this
   rw [he]
   cases lastE (isP x.r x.n) l with
   | none=>exact Nat.le_refl _
   | some f=>show 1≤f.kv+1;omega
end Go.Proofs.Tryz
/- PSem, part 33: counts of writes are ours to name. -/
namespace Ps
open Go
theorem CK.ver {P:Program} {f:Nat} {args:List PV} {H:PH} {Q R:PV→PH→Prop} {kid:Nat} (h:CK P f args H Q)
  (hq:∀r H',Q r H'→∃o' V,H'[kid]? = some o'∧(∀o,H[kid]? = some o→o.ver<V)∧R r (H'.set kid ⟨o'.T,o'.cs,V⟩)):CK P f args H R:=fun g w vs hs hr=>by
 refine (h g w vs hs hr).mono ?_
 rintro e w' ⟨v,r,H',g',he,q,hr',st,ho,hc⟩
 obtain ⟨o',V,h1,h2,h3⟩:=hq r H' q
 have hlt:kid<H'.length:=(List.getElem?_eq_some_iff.1 h1).1
 have hget:∀(id:Nat) (o:PObj),(H'.set kid ⟨o'.T,o'.cs,V⟩)[id]? = some o→∃o0,H'[id]? = some o0∧o0.T=o.T∧o0.cs=o.cs:=fun id o ho=>by
  by_cases e:kid=id
  ·subst e
   rw [List.getElem?_set_self hlt] at ho
   cases ho
   exact ⟨o',h1,rfl,rfl⟩
  ·rw [List.getElem?_set_ne e] at ho
   exact ⟨o,ho,rfl,rfl⟩
 have hcell:∀id j b,cellOwnAt g' w' (H'.set kid ⟨o'.T,o'.cs,V⟩) id j b→cellOwnAt g' w' H' id j b:=fun id j b ⟨o,c,b0,u,k1,k2,k3,k4,k5,k6⟩=>by
  obtain ⟨o0,z1,z2,z3⟩:=hget id o k1
  exact ⟨o0,c,b0,u,z1,by rw [z3];exact k2,k3,k4,k5,k6⟩
 refine ⟨v,r,_,g',he,h3,⟨⟨by rw [List.length_set];exact hr'.h.len,hr'.h.inj,hr'.h.full,fun id b o k1 k2=>?_,hr'.h.imm⟩,hr'.e,hr'.ss,fun t i b k1 ⟨id,j,k2⟩=>hr'.sc t i b k1 ⟨id,j,hcell _ _ _ k2⟩,
  fun id j id' j' b k1 k2=>hr'.cc id j id' j' b (hcell _ _ _ k1) (hcell _ _ _ k2)⟩,⟨⟨fun id o k1=>?_,fun id b o o2 hi k1 k2 hv=>?_⟩,st.os,st.tape,st.output,st.size,st.keeps,st.ι,st.far,st.nil⟩,ho,fun b ⟨id,j,k⟩=>hc b ⟨id,j,hcell _ _ _ k⟩⟩
 ·obtain ⟨o0,z1,z2,z3⟩:=hget id o k1
  rw [←z2,←z3]
  exact hr'.h.obj id b o0 z1 k2
 ·by_cases e:kid=id
  ·subst e
   exact ⟨_,List.getElem?_set_self hlt,Nat.le_of_lt (h2 o k1)⟩
  ·obtain ⟨o2,k2,k3⟩:=st.fr.more id o k1
   exact ⟨o2,by rw [List.getElem?_set_ne e];exact k2,k3⟩
 ·by_cases e:kid=id
  ·subst e
   rw [List.getElem?_set_self hlt] at k2
   cases k2
   have:=h2 o k1
   have hv:V=o.ver:=hv
   omega
  ·rw [List.getElem?_set_ne e] at k2
   exact st.fr.same id b o o2 hi k1 k2 hv
end Ps
set_option maxHeartbeats 1000000
namespace Go.Proofs.Tryz
open Go Ps
def Made (k:List UInt8) (o:PObj):Prop:=∃v,o=keyO k 1 0 0 (spW k) 1 v
theorem Made.st {k:List UInt8} {o:PObj} (h:Made k o):KeySt k o:=.inr h
theorem c225m (hw:WordsOk) (k:List UInt8) (hk:k.length=16) (kid:Nat) (nn:Int) (n:Nat) (hn:n≤1000000) (h0:0<n) (so:PObj) (hso:KeySt k so) (H:PH) (hid:H[kid]? = some so) :
  CK prog 225 [.ptr (some (kid,0)),.int .u64 nn,.int .i64 n] H fun r H'=>r=sl (streamV k nn n)∧∃o',Made k o'∧H'=H.set kid o':=by
 have hlt:kid<H.length:=(List.getElem?_eq_some_iff.1 hid).1
 (refine fnS (imm:=imm225) ttS_ok func225 ?_;(conv=>whnf))
 refine ⟨fun h=>absurd h (by omega),fun _=>?_⟩
 conv=>whnf
 have hw8:IntKind.i64.wrap ((n:Int)+8)=(n:Int)+8:=w64 (by omega) (by omega)
 refine ⟨⟨by decide,by rw [hw8];omega,by rw [hw8];show ((n:Int)+8)*((1:Nat):Int)≤_;omega⟩,?_⟩
 conv=>whnf
 refine lO StS (fun x=>[(0,.ptr (some (kid,0))),(1,.int .u64 nn),(2,.int .i64 n),(7,ow (strN k nn x.i)),(8,.int .u32 x.i)]) (fun x=>H.set kid x.o) (fun x=>x.i≤(n+7) / 8∧KeySt k x.o∧(0<x.i→Made k x.o)) (fun x=>(n+7) / 8 - x.i) ⟨⟨0,so⟩,⟨Nat.zero_le _,hso,fun h=>absurd h (Nat.lt_irrefl 0)⟩,⟨rfl,rfl,rfl,rfl,rfl,trivial⟩,(set_self hid).symm⟩ ?_
 rintro ⟨i,o⟩ ⟨hi,ho,hm⟩
 replace hi:i≤(n+7) / 8:=hi
 replace ho:KeySt k o:=ho
 replace hm:0<i→Made k o:=hm
 have hsl:=strN_len k nn i
 conv=>whnf
 refine ⟨fun h=>?_,fun h=>?_⟩
 ·have h:((strN k nn i).length:Int)<n:=h
  rw [hsl] at h
  conv=>whnf
  refine ⟨by decide,?_⟩
  conv=>whnf
  have hst:(∃v,(H.set kid o)[kid]? = some (keyO k 0 0 0 (List.replicate 27 0) 0 v))∨(∃v,(H.set kid o)[kid]? = some (keyO k 1 0 0 (spW k) 1 v)):=by
   rw [List.getElem?_set_self hlt]
   rcases ho with ⟨v,rfl⟩ | ⟨v,rfl⟩
   ·exact .inl ⟨v,rfl⟩
   ·exact .inr ⟨v,rfl⟩
  refine cO (Q:=fun r H'=>r=.tup [.int .u32 (blkP k nn i).1,.int .u32 (blkP k nn i).2]∧∃v',H'=H.set kid (keyO k 1 0 0 (spW k) 1 v')) ((c257 hw k hk kid (H.set kid o) hst _ _).mono fun r H' hh=>?_) ?_
  ·obtain ⟨h1,v',h2⟩:=hh
   exact ⟨h1,v',by rw [h2,List.set_set]⟩
  rintro _ _ ⟨rfl,v',rfl⟩
  conv=>whnf
  generalize hx:(blkP k nn i).1=x
  generalize hy:(blkP k nn i).2=y
  refine lO Nat (fun j=>[(0,.ptr (some (kid,0))),(1,.int .u64 nn),(2,.int .i64 n),(7,ow (strN k nn i++(le4 x++le4 y).take (4*j))),(8,.int .u32 i),(42,.slice 2 [.int .u32 x,.int .u32 y] (some 226)),(43,.int .i64 2),(44,.int .i64 j)]) (fun _=>H.set kid (keyO k 1 0 0 (spW k) 1 v')) (fun j=>j≤2) (fun j=>2 - j) ⟨0,Nat.zero_le _,⟨rfl,rfl,rfl,?_,rfl,rfl,rfl,rfl,trivial⟩,rfl⟩ ?_
  ·show ow (strN k nn i)=ow (strN k nn i++[])
   rw [List.append_nil]
  intro j hj
  have happ:∀(a b:List UInt8),b.length=4→a.length≤2000000→(a.length+4)*1≤140737488355328∧(b.map bC).length=4*1∧(b.map bC).all oneP=true:=fun a b hb ha=>⟨by omega,by simp [hb],allOne b⟩
  match j,hj with
  | 0,_ =>
   conv=>whnf
   refine ⟨fun _=>?_,fun h=>absurd (show ((0:Nat):Int)<2 by decide) h⟩
   conv=>whnf
   refine ⟨⟨by decide,by decide⟩,[.int .u32 x],at1' (k:=0) rfl,?_⟩
   conv=>whnf
   refine ⟨by decide,?_⟩
   conv=>whnf
   refine ⟨by decide,?_⟩
   conv=>whnf
   refine ⟨by decide,?_⟩
   conv=>whnf
   refine ⟨⟨by show ((strN k nn i++(le4 x++le4 y).take (4*0)).length+4)*1≤_;rw [List.length_append,hsl];simp;omega,rfl,rfl⟩,?_⟩
   conv=>whnf
   refine ⟨1,by decide,⟨rfl,rfl,rfl,?_,rfl,rfl,rfl,rfl,trivial⟩,rfl,by decide⟩
   show PV.slice ((strN k nn i++(le4 x++le4 y).take (4*0)).length+4) ((strN k nn i++(le4 x++le4 y).take (4*0)).map bC++[PV.int .u8 (IntKind.u8.wrap x),.int .u8 (IntKind.u8.wrap (ishr .u32 x 8)),.int .u8 (IntKind.u8.wrap (ishr .u32 x 16)),.int .u8 (IntKind.u8.wrap (ishr .u32 x 24))]) (some 5)=ow (strN k nn i++(le4 x++le4 y).take (4*1))
   rw [le4_cells,ow_app' _ (le4 x) (n:=4) rfl,List.append_assoc]
   rfl
  | 1,_ =>
   conv=>whnf
   refine ⟨fun _=>?_,fun h=>absurd (show ((1:Nat):Int)<2 by decide) h⟩
   conv=>whnf
   refine ⟨⟨by decide,by decide⟩,[.int .u32 y],at1' (k:=1) rfl,?_⟩
   conv=>whnf
   refine ⟨by decide,?_⟩
   conv=>whnf
   refine ⟨by decide,?_⟩
   conv=>whnf
   refine ⟨by decide,?_⟩
   conv=>whnf
   refine ⟨⟨by show ((strN k nn i++(le4 x++le4 y).take (4*1)).length+4)*1≤_;rw [List.length_append,hsl];simp;omega,rfl,rfl⟩,?_⟩
   conv=>whnf
   refine ⟨2,by decide,⟨rfl,rfl,rfl,?_,rfl,rfl,rfl,rfl,trivial⟩,rfl,by decide⟩
   show PV.slice ((strN k nn i++(le4 x++le4 y).take (4*1)).length+4) ((strN k nn i++(le4 x++le4 y).take (4*1)).map bC++[PV.int .u8 (IntKind.u8.wrap y),.int .u8 (IntKind.u8.wrap (ishr .u32 y 8)),.int .u8 (IntKind.u8.wrap (ishr .u32 y 16)),.int .u8 (IntKind.u8.wrap (ishr .u32 y 24))]) (some 5)=ow (strN k nn i++(le4 x++le4 y).take (4*2))
   rw [le4_cells,ow_app' _ (le4 y) (n:=4) rfl,List.append_assoc]
   rfl
  | 2,_ =>
   conv=>whnf
   refine ⟨fun h=>absurd h (by decide),fun _=>?_⟩
   conv=>whnf
   refine ⟨⟨i+1,keyO k 1 0 0 (spW k) 1 v'⟩,⟨by show i+1≤(n+7) / 8;omega,.inr ⟨v',rfl⟩,fun _=>⟨v',rfl⟩⟩,⟨rfl,rfl,rfl,?_,?_,trivial⟩,rfl,by show (n+7) / 8 - (i+1)<(n+7) / 8 - i;omega⟩
   ·subst hx hy
    rfl
   ·show PV.int _ (IntKind.u32.wrap ((i:Int)+1))=PV.int _ ((i+1:Nat):Int)
    rw [←wrap32 (n:=i+1) (by omega)];rfl
 ·have h:¬((strN k nn i).length:Int)<n:=h
  rw [hsl] at h
  have e:i=(n+7) / 8:=by omega
  conv=>whnf
  refine ⟨⟨by decide,by omega,by show (n:Int)≤((strN k nn i).length:Int);omega⟩,?_⟩
  conv=>whnf
  refine ⟨?_,o,hm (by omega),rfl⟩
  refine (sl_cut2 (strN k nn i) 0 n ⟨by omega,by omega,by omega⟩).trans ?_
  rw [Int.toNat_natCast,e]
  rfl
theorem sealX {H:PH} {bid:Nat} {key:List UInt8} (hb:BoxAt H bid key) (u n:Int) (hu:isUseB u=true) (hn0:0≤n) (hn1:n≤1099511627776) (p:List UInt8) (hp:p.length≤784) (h0:0<p.length) :
  ∃H1,Evo (fun _=>False) H H1∧H1.length=H.length∧CK prog 108 [.ptr (some (bid,0)),.int .i64 u,.int .i64 n,sl p] H fun x H'=>x=.tup [ow (sealK key u n p),.int .i64 0]∧H'=H1:=by
 obtain ⟨hk,sid,s,o,r,v,so,h1,h2,h3⟩:=hb
 have hne:bid≠sid:=fun e=>by
  subst e
  rw [h1] at h2;cases h2
  exact key_box h3.T.symm
 have hk16:(key.take 16).length=16:=by simp [hk]
 have h4:(H.set bid (boxS sid (key.drop 16) (IntKind.i64.wrap (s+1)) o r (v+1)))[sid]? = some so:=by rw [List.getElem?_set_ne hne];exact h2
 refine ⟨(H.set bid (boxS sid (key.drop 16) (IntKind.i64.wrap (s+1)) o r (v+1))).set sid (keyO (key.take 16) 1 0 0 (spW (key.take 16)) 1 (so.ver+1)),
  (Evo.setBox h1 (IntKind.i64.wrap (s+1)) o r (v+1)).trans (Evo.setKey (k:=key.take 16) (so:=so) h4 hk16 h3 (.inr ⟨_,rfl⟩)),by simp,?_⟩
 have hc:=c108 (Made (key.take 16)) (fun o' h=>h.st.flat) so sid n u hu hn0 hn1 p (streamV (key.take 16) (mixN (IntKind.u64.wrap n) u) p.length) (streamV_len _ _ _) hp
  (fun H' hs=>c225m wordsOk (key.take 16) hk16 sid _ p.length (by omega) h0 so h3 H' hs) (key.drop 16) (by simp [hk]) s o r v bid H h1 h2 hne
 refine hc.ver (kid:=sid) fun x H' hh=>?_
 obtain ⟨rfl,o',⟨v',rfl⟩,rfl⟩:=hh
 refine ⟨_,so.ver+1,gS h4,fun o2 ho2=>?_,rfl,?_⟩
 ·rw [h2] at ho2;cases ho2;exact Nat.lt_succ_self _
 ·rw [List.set_set];rfl
set_option maxHeartbeats 4000000
def ttK:TT:=[(2,⟨.int .i64,1,8,[.int .i64 0]⟩),(3,⟨.int .i64,1,8,[.int .i64 0]⟩),(4,⟨.bool,1,1,[.bool false]⟩),(5,⟨.int .u8,1,1,[.int .u8 0]⟩),(9,⟨.str,1,16,[.str []]⟩),(25,⟨.strct [(9,0),(9,1)],2,32,[.str [],.str []]⟩),(26,⟨.slice 5,1,24,[.slice 0 [] (some 5)]⟩),(28,⟨.strct [(25,0),(3,2),(26,3)],4,64,[.str [],.str [],.int .i64 0,.slice 0 [] (some 5)]⟩),(30,⟨.strct [(25,0),(28,2),(26,6)],7,120,[.str [],.str [],.str [],.str [],.int .i64 0,.slice 0 [] (some 5),.slice 0 [] (some 5)]⟩),(31,⟨.int .i64,1,8,[.int .i64 0]⟩),(33,⟨.ptr,1,8,[.ptr none]⟩),(41,⟨.strct [(25,0),(25,2),(3,4),(3,5)],6,80,[.str [],.str [],.str [],.str [],.int .i64 0,.int .i64 0]⟩),(43,⟨.arr 32 5,32,32,List.replicate 32 (.int .u8 0)⟩),(50,⟨.strct [(25,0),(43,2),(9,34),(3,35),(3,36)],37,96,[.str [],.str []]++List.replicate 32 (.int .u8 0)++[.str [],.int .i64 0,.int .i64 0]⟩),(54,⟨.strct [(43,0),(25,32),(3,34),(3,35),(3,36)],37,88,List.replicate 32 (.int .u8 0)++[.str [],.str [],.int .i64 0,.int .i64 0,.int .i64 0]⟩),(64,⟨.strct [(28,0),(26,4),(25,5),(3,7),(3,8)],9,136,[.str [],.str [],.int .i64 0,.slice 0 [] (some 5),.slice 0 [] (some 5),.str [],.str [],.int .i64 0,.int .i64 0]⟩),(88,⟨.slice 9,1,24,[.slice 0 [] (some 9)]⟩),(89,⟨.slice 200,1,24,[.slice 0 [] (some 200)]⟩),(90,⟨.slice 261,1,24,[.slice 0 [] (some 261)]⟩),(92,⟨.strct [(88,0),(89,1),(90,2)],3,72,[.slice 0 [] (some 9),.slice 0 [] (some 200),.slice 0 [] (some 261)]⟩),(98,⟨.strct [(28,0),(26,4)],5,88,[.str [],.str [],.int .i64 0,.slice 0 [] (some 5),.slice 0 [] (some 5)]⟩),(100,⟨.strct [(31,0),(3,1)],2,16,[.int .i64 0,.int .i64 0]⟩),(102,⟨.strct [(3,0),(41,1),(64,7),(30,16),(98,23),(100,28)],30,448,[.int .i64 0,.str [],.str [],.str [],.str [],.int .i64 0,.int .i64 0,.str [],.str [],.int .i64 0,.slice 0 [] (some 5),.slice 0 [] (some 5),.str [],.str [],.int .i64 0,.int .i64 0,.str [],.str [],.str [],.str [],.int .i64 0,.slice 0 [] (some 5),.slice 0 [] (some 5),.str [],.str [],.int .i64 0,.slice 0 [] (some 5),.slice 0 [] (some 5),.int .i64 0,.int .i64 0]⟩),(110,⟨.ptr,1,8,[.ptr none]⟩),(126,⟨.ptr,1,8,[.ptr none]⟩),(132,⟨.strB [(129,0),(130,0),(2,0)],1,8,[.int .i64 0]⟩),(134,⟨.strct [(9,0),(92,1),(110,4),(132,5),(132,6)],7,112,[.str [],.slice 0 [] (some 9),.slice 0 [] (some 200),.slice 0 [] (some 261),.ptr none,.int .i64 0,.int .i64 0]⟩),(139,⟨.strct [(25,0),(50,2),(3,39),(126,40),(3,41)],42,152,[.str [],.str [],.str [],.str []]++List.replicate 32 (.int .u8 0)++[.str [],.int .i64 0,.int .i64 0,.int .i64 0,.ptr none,.int .i64 0]⟩),(200,⟨.arr 2 9,2,32,[.str [],.str []]⟩),(261,⟨.strct [(9,0),(9,1),(88,2)],3,56,[.str [],.str [],.slice 0 [] (some 9)]⟩)]
theorem ttK_ok:ttOk prog ttK=true:=by kernel_rfl
def imm51:List Nat:=[3]
def imm109:List Nat:=[]
def imm50:List Nat:=[]
def imm48:List Nat:=[]
def imm105:List Nat:=[]
def imm16:List Nat:=[5,7]
def kdcO (realm:List UInt8) (rs ls ps:PV) (rid:Nat) (n i:Int) (v:Nat):PObj:=⟨134,[.str realm,rs,ls,ps,.ptr (some (rid,0)),.int .i64 n,.int .i64 i],v⟩
theorem kdcT (realm:List UInt8) (rs ls ps:PV) (rid:Nat) (n i:Int) (v:Nat):(kdcO realm rs ls ps rid n i v).T≠keyT∧(kdcO realm rs ls ps rid n i v).T≠boxT :=
 ⟨fun h=>absurd (show 134=keyT from h) (by decide),fun h=>absurd (show 134=boxT from h) (by decide)⟩
structure Kd (H:PH) (kid rid:Nat) (realm:List UInt8) (rs ls ps:PV) (l:List Ent) (n i:Nat):Prop where
 ring:RingAt H rid l
 len:l.length≤40
 k:∃v,H[kid]? = some (kdcO realm rs ls ps rid n i v)
theorem Kd.evo {S:Nat→Prop} {H H':PH} {kid rid:Nat} {realm:List UInt8} {rs ls ps:PV} {l:List Ent} {n i:Nat} (h:Kd H kid rid realm rs ls ps l n i) (k:Evo S H H') (h1:¬S kid) (h2:¬S rid):Kd H' kid rid realm rs ls ps l n i:=by
 obtain ⟨v,hv⟩:=h.k
 exact ⟨h.ring.evo k h2,h.len,v,k.same _ _ hv h1 (kdcT ..).1 (kdcT ..).2⟩
theorem Kd.ne {H:PH} {kid rid:Nat} {realm:List UInt8} {rs ls ps:PV} {l:List Ent} {n i:Nat} (h:Kd H kid rid realm rs ls ps l n i):rid≠kid:=by
 obtain ⟨v,hv⟩:=h.k
 obtain ⟨w,hw⟩:=h.ring.ex
 rintro rfl
 rw [hv] at hw
 have:=congrArg (fun o=>o.map PObj.T) hw
 exact absurd (Option.some.inj this) (show ¬134=(ringO [] 0).T by decide)
theorem Kd.put {H:PH} {kid rid:Nat} {realm:List UInt8} {rs ls ps:PV} {l:List Ent} {n i:Nat} (h:Kd H kid rid realm rs ls ps l n i) (n' i' v:Nat) :
  Kd (H.set kid (kdcO realm rs ls ps rid n' i' v)) kid rid realm rs ls ps l n' i'∧Evo (·=kid) H (H.set kid (kdcO realm rs ls ps rid n' i' v)):=by
 obtain ⟨w,hw⟩:=h.k
 have he:Evo (·=kid) H (H.set kid (kdcO realm rs ls ps rid n' i' v)):=Evo.setOther hw rfl (kdcT ..).1 (kdcT ..).2
 exact ⟨⟨h.ring.evo he h.ne,h.len,v,gS hw⟩,he⟩
theorem c109x {H:PH} {kid rid:Nat} {realm:List UInt8} {rs ls ps:PV} {n i v:Nat} (hv:H[kid]? = some (kdcO realm rs ls ps rid n i v)) (hn:n≤1000000000) :
  CK prog 109 [.ptr (some (kid,0))] H fun r H'=>r=.int .i64 ((n+1:Nat):Int)∧H'=H.set kid (kdcO realm rs ls ps rid ((n+1:Nat):Int) i (v+1)):=by
 have hw:IntKind.i64.wrap ((n:Int)+1)=((n+1:Nat):Int):=by rw [w64 (by omega) (by omega)];rfl
 (refine fnS (imm:=imm109) ttK_ok func109 ?_;(conv=>whnf))
 refine cO (c110 (off:=5) (n:=n) 1 hv rfl) ?_
 rintro _ _ ⟨rfl,rfl⟩
 conv=>whnf
 refine ⟨congrArg (PV.int _) hw,?_⟩
 have e:(⟨(kdcO realm rs ls ps rid n i v).T,setCells 5 [.int .i64 (IntKind.i64.wrap ((n:Int)+1))] (kdcO realm rs ls ps rid n i v).cs,(kdcO realm rs ls ps rid n i v).ver+1⟩:PObj)=kdcO realm rs ls ps rid ((n+1:Nat):Int) i (v+1):=by
  rw [hw];rfl
 rw [e]
theorem c109 {H:PH} {kid rid:Nat} {realm:List UInt8} {rs ls ps:PV} {l:List Ent} {n i:Nat} (h:Kd H kid rid realm rs ls ps l n i) (hn:n≤1000000000) :
  CK prog 109 [.ptr (some (kid,0))] H fun r H'=>r=.int .i64 ((n+1:Nat):Int)∧Kd H' kid rid realm rs ls ps l (n+1) i∧Evo (·=kid) H H':=by
 obtain ⟨v,hv⟩:=h.k
 have hw:IntKind.i64.wrap ((n:Int)+1)=((n+1:Nat):Int):=by rw [w64 (by omega) (by omega)];rfl
 (refine fnS (imm:=imm109) ttK_ok func109 ?_;(conv=>whnf))
 refine cO (c110 (off:=5) (n:=n) 1 hv rfl) ?_
 rintro _ _ ⟨rfl,rfl⟩
 conv=>whnf
 refine ⟨congrArg (PV.int _) hw,?_⟩
 have e:(⟨(kdcO realm rs ls ps rid n i v).T,setCells 5 [.int .i64 (IntKind.i64.wrap ((n:Int)+1))] (kdcO realm rs ls ps rid n i v).cs,(kdcO realm rs ls ps rid n i v).ver+1⟩:PObj)=kdcO realm rs ls ps rid ((n+1:Nat):Int) i (v+1):=by
  rw [hw];rfl
 rw [e]
 exact h.put (n+1) i (v+1)
theorem c48 (n:Int):Pure prog 48 [.int .i64 n] (.bool (!lateB n)):=by
 intro H
 (refine fnS (imm:=imm48) ttK_ok func48 ?_;(conv=>whnf))
 unfold lateB
 refine ⟨fun h=>?_,fun h=>?_⟩
 ·have h:(0:Int)≤n:=h
  conv=>whnf
  refine ⟨fun h2=>?_,fun h2=>?_⟩
  ·have h2:n≤1073741824:=h2
   conv=>whnf
   exact ⟨congrArg PV.bool (by rw [decide_eq_false (by omega),decide_eq_false (by omega)];rfl),rfl⟩
  ·have h2:¬n≤1073741824:=h2
   conv=>whnf
   exact ⟨congrArg PV.bool (by rw [decide_eq_true (p:=1073741824<n) (by omega),Bool.or_true];rfl),rfl⟩
 ·have h:¬(0:Int)≤n:=h
  conv=>whnf
  exact ⟨congrArg PV.bool (by rw [decide_eq_true (p:=n<0) (by omega)];rfl),rfl⟩
theorem c105 (r:List UInt8) (hr:r.length≤1099511627775):Pure prog 105 [.str r] (.str (krb r)):=by
 intro H
 (refine fnS (imm:=imm105) ttK_ok func105 ?_;(conv=>whnf))
 refine ⟨by show 7+r.length≤9223372036854775807;omega,?_⟩
 conv=>whnf
 exact ⟨rfl,rfl⟩
theorem Evo.drop {S:Nat→Prop} {H H':PH} {a:Nat} (h:Evo (fun i=>S i∨i=a) H H') (ha:H.length≤a):Evo S H H' :=
 ⟨h.len,h.box,fun id o ho hs=>h.same id o ho fun hh=>by
  rcases hh with hh | hh
  ·exact hs hh
  ·have:=(List.getElem?_eq_some_iff.1 ho).1
   omega⟩
def ansO:PObj:=⟨30,[.str [],.str [],.str [],.str [],.int .i64 0,.slice 0 [] (some 5),.slice 0 [] (some 5)],0⟩
theorem ansT:ansO.T≠keyT∧ansO.T≠boxT:=by decide
def D51:Draw:={ imp:=[5,7],win:=[(0,0,1),(1,0,1),(2,0,1),(3,0,1),(6,0,1),(7,1,1),(8,2,2),(9,2,2),(10,2,2),(11,2,2),(12,2,2)] }
def bump (x:RepO×Int) (n:Nat) (k:Nat):Nat:=if x.2=0 then n+k else n
theorem ePrt (p:Prt):(isPartB p=true→eBPrt p=partL p∧eEPrt p=0)∧(isPartB p=false→eEPrt p=1):=by
 unfold eBPrt eEPrt
 constructor
 ·intro h;rw [if_pos h,if_pos h];exact ⟨rfl,rfl⟩
 ·intro h;rw [if_neg (by rw [h];decide)]
theorem eRpt (p:Rpt):(isRptB p=true→eBRpt p=rptL p∧eERpt p=0)∧(isRptB p=false→eERpt p=1):=by
 unfold eBRpt eERpt
 constructor
 ·intro h;rw [if_pos h,if_pos h];exact ⟨rfl,rfl⟩
 ·intro h;rw [if_neg (by rw [h];decide)]
theorem c51 {H:PH} {kid rid:Nat} {realm:List UInt8} {rs ls ps:PV} {l:List Ent} {n i:Nat} (hK:Kd H kid rid realm rs ls ps l n i) (hn:n≤100000) (hi:i≤100000)
  (sr sn:List UInt8) (hsr:sr.length≤1000000) (hsn:sn.length≤1000000) (p:Prt) (hr:p.r.length≤1000000) (hpn:p.n.length≤1000000) (ht:p.tr.length≤1000000) (nonce:Int) (bid:Nat) (bkey:List UInt8) (hb:BoxAt H bid bkey) (u:Int) (hu:isUseB u=true) :
  CK prog 51 [.ptr (some (kid,0)),.agg ([.str sr,.str sn]++p.cells++[.int .i64 nonce,.ptr (some (bid,0)),.int .i64 u])] H fun x H' =>
   x=.tup [.agg (makeV l n sr sn p nonce bkey u).1.cells,.int .i64 (makeV l n sr sn p nonce bkey u).2] ∧
   Kd H' kid rid realm rs ls ps l (bump (makeV l n sr sn p nonce bkey u) n 2) (bump (makeV l n sr sn p nonce bkey u) i 1)∧Evo (·=kid) H H':=by
 have e1:Evo (fun _=>False) H (H++[ansO]):=Evo.app H _
 have hK1:=hK.evo e1 id id
 have hb1:=e1.box _ _ hb
 have hlt:kid<H.length:=by obtain ⟨v,hv⟩:=hK.k;exact (List.getElem?_eq_some_iff.1 hv).1
 have hne:H.length≠kid:=by omega
 have ha:(H++[ansO])[H.length]? = some ansO:=gL H _
 obtain ⟨v1,hv1⟩:=hK1.k
 (refine fnS (imm:=imm51) ttK_ok func51 ?_;(conv=>whnf))
 refine dP2 (by kernel_rfl) ?_
 conv=>whnf
 iterate 3 (refine dS ?_;(conv=>whnf))
 apply Exists.intro
 apply And.intro
 ·conv=>whnf
  ((conv in (_[_]?)=>tactic=>exact hv1);(conv=>whnf))
  exact ⟨rfl,rfl,trivial⟩
 conv=>whnf
 iterate 2 (refine dS ?_;(conv=>whnf))
 have hg:=lastGet hK1.ring (by have:=hK1.len;omega) sr sn
 unfold makeV
 cases hL:lastE (isP sr sn) l with
 | none =>
  rw [hL] at hg
  refine ⟨_,cO hg (by rintro _ _ ⟨rfl,rfl⟩;exact ⟨rfl,rfl,trivial⟩),?_⟩
  conv=>whnf
  iterate 7 (refine dS ?_;(conv=>whnf))
  refine ⟨fun h=>absurd h (by decide),fun _=>?_⟩
  conv=>whnf
  ((conv in (_[_]?)=>tactic=>exact ha);(conv=>whnf))
  ((conv in (_[_]?)=>tactic=>exact (show ((H++[ansO]).set H.length _)[H.length]? = some _ from gS ha));(conv=>whnf))
  refine ⟨rfl,?_⟩
  have e2:∀o,Evo (fun i=>i=kid∨i=H.length) (H++[ansO]) ((H++[ansO]).set H.length o):=fun o=>Evo.setOther ha (.inr rfl) ansT.1 ansT.2
  have e3:∀o,Evo (fun i=>i=H.length) (H++[ansO]) ((H++[ansO]).set H.length o):=fun o=>Evo.setOther ha rfl ansT.1 ansT.2
  exact ⟨hK1.evo (e3 _) (Ne.symm hne) (by have:=hK.ring.ex.choose_spec;have:=(List.getElem?_eq_some_iff.1 this).1;show ¬rid=H.length;omega),((e1.mono fun _ h=>h.elim).trans (e2 _)).drop (Nat.le_refl _)⟩
 | some e =>
  rw [hL] at hg
  have hrl:rid<H.length:=by have:=hK.ring.ex.choose_spec;exact (List.getElem?_eq_some_iff.1 this).1
  refine ⟨_,cO hg (by rintro _ _ ⟨rfl,rfl⟩;exact ⟨rfl,rfl,trivial⟩),?_⟩
  conv=>whnf
  iterate 7 (refine dS ?_;(conv=>whnf))
  refine ⟨fun _=>?_,fun h=>absurd rfl h⟩
  conv=>whnf
  refine cP (c106s p hr hpn ht) ?_
  conv=>whnf
  refine cP (c107s (rptOf p sr sn nonce) hsr hsn) ?_
  have hbx:=hK1.ring.box e (lastE_mem hL)
  have bad:∀o,(makeV l n sr sn p nonce bkey u)=(repZ,2)→(PV.tup [.agg [.str [],.str [],.str [],.str [],.int .i64 0,.slice 0 [] none,.slice 0 [] none],.int .i64 2]=PV.tup [.agg (repZ).cells,.int .i64 2]) ∧
    Kd ((H++[ansO]).set H.length o) kid rid realm rs ls ps l (bump (repZ,2) n 2) (bump (repZ,2) i 1)∧Evo (·=kid) H ((H++[ansO]).set H.length o):=fun o _=>by
   have e2:Evo (fun i=>i=kid∨i=H.length) (H++[ansO]) ((H++[ansO]).set H.length o):=Evo.setOther ha (.inr rfl) ansT.1 ansT.2
   have e3:Evo (fun i=>i=H.length) (H++[ansO]) ((H++[ansO]).set H.length o):=Evo.setOther ha rfl ansT.1 ansT.2
   exact ⟨rfl,hK1.evo e3 (Ne.symm hne) (by show ¬rid=H.length;omega),((e1.mono fun _ h=>h.elim).trans e2).drop (Nat.le_refl _)⟩
  unfold makeV at bad
  rw [hL] at bad
  cases hP:isPartB p with
  | false =>
   rw [hP] at bad
   rw [(ePrt p).2 hP]
   conv=>whnf
   refine ⟨fun h=>absurd h (by decide),fun _=>?_⟩
   conv=>whnf
   ((conv in (_[_]?)=>tactic=>exact ha);(conv=>whnf))
   ((conv in (_[_]?)=>tactic=>exact (show ((H++[ansO]).set H.length _)[H.length]? = some _ from gS ha));(conv=>whnf))
   exact bad _ rfl
  | true =>
   rw [hP] at bad
   rw [((ePrt p).1 hP).1,((ePrt p).1 hP).2]
   cases hR:isRptB (rptOf p sr sn nonce) with
   | false =>
    rw [hR] at bad
    rw [(eRpt _).2 hR]
    conv=>whnf
    refine ⟨fun _=>?_,fun h=>absurd rfl h⟩
    conv=>whnf
    refine ⟨fun h=>absurd h (by decide),fun _=>?_⟩
    conv=>whnf
    ((conv in (_[_]?)=>tactic=>exact ha);(conv=>whnf))
    ((conv in (_[_]?)=>tactic=>exact (show ((H++[ansO]).set H.length _)[H.length]? = some _ from gS ha));(conv=>whnf))
    exact bad _ rfl
   | true =>
    rw [((eRpt _).1 hR).1,((eRpt _).1 hR).2]
    have hP7:=partL_784 hP
    have hR7:=rptL_784 hR
    generalize partL p=pb at hP7
    have hR0:=Nat.zero_lt_of_ne_zero (show (rptL (rptOf p sr sn nonce)).length≠0 from Nat.succ_ne_zero _)
    generalize rptL (rptOf p sr sn nonce)=rb at hR7 hR0
    clear bad hP hR
    conv=>whnf
    refine ⟨fun _=>?_,fun h=>absurd rfl h⟩
    conv=>whnf
    refine ⟨fun _=>?_,fun h=>absurd rfl h⟩
    conv=>whnf
    refine cO (c109 hK1 (by omega)) ?_
    rintro _ H2 ⟨rfl,hK2,e2⟩
    conv=>whnf
    refine cO (sealAt (e2.box _ _ hbx) 2 ((n+1:Nat):Int) rfl (by omega) (by omega) pb hP7) ?_
    rintro _ H3 ⟨rfl,e3,_⟩
    have hK3:=hK2.evo e3 id id
    have hb3:=e3.box _ _ (e2.box _ _ hb1)
    conv=>whnf
    obtain ⟨v3,hv3⟩:=hK3.k
    have hw:IntKind.i64.wrap (((n+1:Nat):Int)+1)=((n+2:Nat):Int):=by rw [w64 (by omega) (by omega)];rfl
    obtain ⟨H4,hH4⟩:∃H4,H4=H3.set kid (kdcO realm rs ls ps rid ((n+2:Nat):Int) i (v3+1)):=⟨_,rfl⟩
    have hK4:=hK3.put (n+2) i (v3+1)
    rw [←hH4] at hK4
    obtain ⟨hK4,e4⟩:=hK4
    obtain ⟨H5,e5,_,hc5⟩:=sealX (e4.box _ _ hb3) u ((n+2:Nat):Int) hu (by omega) (by omega) rb hR7 hR0
    have hK5:=hK4.evo e5 id id
    refine dO2 D51 [H3,H4,H5] (by kernel_rfl) rfl trivial ?_
    conv=>whnf
    iterate 4 (refine dS2 ?_;(conv=>whnf))
    (refine dS ?_;(conv=>whnf))
    refine ⟨.int .i64 ((n+2:Nat):Int),?_,?_⟩
    ·conv=>whnf
     refine cO (c109x hv3 (by omega)) ?_
     rintro _ _ ⟨rfl,rfl⟩
     exact ⟨rfl,hH4.symm,trivial⟩
    conv=>whnf
    (refine dS2 ?_;(conv=>whnf))
    refine ⟨_,cO hc5 (by rintro _ _ ⟨rfl,rfl⟩;exact ⟨rfl,rfl,trivial⟩),?_⟩
    conv=>whnf
    iterate 5 (refine dS ?_;(conv=>whnf))
    conv=>whnf
    obtain ⟨v5,hv5⟩:=hK5.k
    refine cO (c110 (off:=6) (n:=i) 1 hv5 rfl) ?_
    rintro _ H6 ⟨rfl,hH6⟩
    have hwi:IntKind.i64.wrap ((i:Int)+1)=((i+1:Nat):Int):=by rw [w64 (by omega) (by omega)];rfl
    have hk6:(⟨(kdcO realm rs ls ps rid ((n+2:Nat):Int) i v5).T,setCells 6 [.int .i64 (IntKind.i64.wrap ((i:Int)+1))] (kdcO realm rs ls ps rid ((n+2:Nat):Int) i v5).cs,(kdcO realm rs ls ps rid ((n+2:Nat):Int) i v5).ver+1⟩:PObj)=kdcO realm rs ls ps rid ((n+2:Nat):Int) ((i+1:Nat):Int) (v5+1):=by
     rw [hwi];rfl
    replace hH6:H6=H5.set kid (kdcO realm rs ls ps rid ((n+2:Nat):Int) ((i+1:Nat):Int) (v5+1)):=hH6.trans (congrArg (fun o=>H5.set kid o) hk6)
    obtain ⟨hK6,e6⟩:=hK5.put (n+2) (i+1) (v5+1)
    rw [←hH6] at hK6 e6
    clear hH6 hk6
    have e16:Evo (·=kid) (H++[ansO]) H6:=(((e2.trans (e3.mono fun _ h=>h.elim)).trans e4).trans (e5.mono fun _ h=>h.elim)).trans e6
    have ha6:H6[H.length]? = some ansO:=e16.same _ _ ha hne ansT.1 ansT.2
    conv=>whnf
    ((conv in (_[_]?)=>tactic=>exact ha6);(conv=>whnf))
    ((conv in (_[_]?)=>tactic=>exact (show (H6.set H.length _)[H.length]? = some _ from gS ha6));(conv=>whnf))
    have e7:∀o,Evo (fun i=>i=H.length) H6 (H6.set H.length o):=fun o=>Evo.setOther ha6 rfl ansT.1 ansT.2
    refine ⟨rfl,hK6.evo (e7 _) (Ne.symm hne) (by show ¬rid=H.length;omega),?_⟩
    exact Evo.drop (S:=(·=kid)) (((e1.mono fun _ h=>h.elim).trans (e16.mono fun _ h=>.inl h)).trans ((e7 _).mono fun _ h=>.inr h)) (Nat.le_refl _)
set_option maxHeartbeats 2000000
def imm149t:List Nat:=[]
def imm150t:List Nat:=[]
def imm151t:List Nat:=[]
def imm96t:List Nat:=[]
theorem allStr (l:List (List UInt8)):(l.map PV.str).all oneP=true:=List.all_eq_true.2 fun x hx=>by obtain ⟨b,_,rfl⟩:=List.mem_map.1 hx;rfl
theorem allPr (l:List Pr):(l.flatMap prC).all oneP=true:=List.all_eq_true.2 fun x hx=>by
 obtain ⟨b,_,hb⟩:=List.mem_flatMap.1 hx
 have hb:x∈[PV.str b.1,.str b.2]:=hb
 simp at hb
 rcases hb with rfl | rfl <;> rfl
theorem c149 (l:List (List UInt8)) (o:Option Nat) (hb:l.length≤1000000):Pure prog 149 [.slice l.length (l.map .str) o] (.slice l.length (l.map .str) (some 9)):=by
 intro H
 have ho:([.slice l.length (l.map .str) o]:List PV).map dem=[.slice l.length (l.map .str) none]:=by cases o <;> rfl
 (refine fnS (imm:=imm149t) ttT_ok func149 ?_;(conv=>whnf))
 have happ:(0+l.length)*16≤140737488355328∧(l.map PV.str).length=l.length*1∧(l.map PV.str).all oneP=true:=⟨by omega,by simp,allStr l⟩
 cases o
 all_goals
  refine ⟨fun h=>?_,fun h=>⟨?_,?_⟩⟩
  ·conv=>whnf
   refine ⟨happ,?_⟩
   conv=>whnf
   exact ⟨by rw [Nat.zero_add];rfl,rfl⟩
  ·conv=>whnf
   have e:l=[]:=List.length_eq_zero_iff.1 h
   subst e
   exact ⟨rfl,rfl⟩
  ·conv=>whnf
   refine ⟨happ,?_⟩
   conv=>whnf
   exact ⟨by rw [Nat.zero_add];rfl,rfl⟩
theorem c150 (l:List Pr) (o:Option Nat) (hb:l.length≤1000000):Pure prog 150 [.slice l.length (l.flatMap prC) o] (.slice l.length (l.flatMap prC) (some 200)):=by
 intro H
 (refine fnS (imm:=imm150t) ttT_ok func150 ?_;(conv=>whnf))
 have happ:(0+l.length)*32≤140737488355328∧(l.flatMap prC).length=l.length*2∧(l.flatMap prC).all oneP=true:=⟨by omega,prC_flat_len l,allPr l⟩
 cases o
 all_goals
  refine ⟨fun h=>?_,fun h=>⟨?_,?_⟩⟩
  ·conv=>whnf
   refine ⟨happ,?_⟩
   conv=>whnf
   exact ⟨by rw [Nat.zero_add];rfl,rfl⟩
  ·conv=>whnf
   have e:l=[]:=List.length_eq_zero_iff.1 h
   subst e
   exact ⟨rfl,rfl⟩
  ·conv=>whnf
   refine ⟨happ,?_⟩
   conv=>whnf
   exact ⟨by rw [Nat.zero_add];rfl,rfl⟩
theorem c151 (o:Option Nat):Pure prog 151 [.slice 0 [] o] (.slice 0 [] (some 261)):=by
 intro H
 (refine fnS (imm:=imm151t) ttT_ok func151 ?_;(conv=>whnf))
 cases o
 all_goals
  refine ⟨fun h=>absurd h (by decide),fun h=>⟨?_,?_⟩⟩
  ·conv=>whnf
   exact ⟨rfl,rfl⟩
  ·conv=>whnf
   refine ⟨⟨by decide,rfl,rfl⟩,?_⟩
   conv=>whnf
   exact ⟨rfl,rfl⟩
def D96:Draw:={ imp:=[10,12,14],win:=[(11,1,1),(12,1,1),(13,2,2),(14,2,2)] }
def trO (rs:List (List UInt8)) (ls:List Pr) (a b c:Option Nat) (v:Nat):PObj:=⟨92,treeC rs ls a b c,v⟩
theorem c96x (rs:List (List UInt8)) (ls:List Pr) (h1:rs.length≤1000000) (h2:ls.length≤1000000) (H:PH) :
  CK prog 96 [.agg (treeC rs ls none none none)] H fun r H'=>r=.agg (treeC rs ls none none none)∧∃ext,H'=H++ext:=by
 (refine fnS (imm:=imm96t) ttT_ok func96 ?_;(conv=>whnf))
 have a0:∀A B:PObj,(H++[A]++[B])[H.length]? = some A:=fun A B=>by simp
 have sA:∀A B A':PObj,(H++[A]++[B]).set H.length A'=H++[A']++[B]:=fun A B A'=>by simp
 have hB:∀A B:PObj,(H++[A]++[B])[(H++[A]).length]? = some B:=fun A B=>gL _ _
 have sB:∀A B B':PObj,(H++[A]++[B]).set (H++[A]).length B'=H++[A]++[B']:=fun A B B'=>sL _ _ _
 refine dO2 D96 [H++[trO rs ls none none none 0]++[trO [] [] (some 9) (some 200) (some 261) 0],H++[trO rs ls none none none 1]++[trO [] [] (some 9) (some 200) (some 261) 0],H++[trO rs ls none none none 2]++[trO [] [] (some 9) (some 200) (some 261) 0],H++[trO rs ls none none none 3]++[trO [] [] (some 9) (some 200) (some 261) 0]] (by kernel_rfl) rfl trivial ?_
 conv=>whnf
 (refine dS ?_;(conv=>whnf))
 apply Exists.intro
 apply And.intro
 ·conv=>whnf
  ((conv in (_[_]?)=>tactic=>exact a0 _ _);(conv=>whnf))
  exact ⟨rfl,rfl,trivial⟩
 conv=>whnf
 refine ⟨_,cP (c149 rs none h1) ⟨rfl,rfl,trivial⟩,?_⟩
 conv=>whnf
 (refine dS ?_;(conv=>whnf))
 apply Exists.intro
 apply And.intro
 ·conv=>whnf
  ((conv in (_[_]?)=>tactic=>exact a0 _ _);(conv=>whnf))
  exact ⟨rfl,rfl,trivial⟩
 conv=>whnf
 refine ⟨_,cP (c150 ls none h2) ⟨rfl,rfl,trivial⟩,?_⟩
 conv=>whnf
 (refine dS ?_;(conv=>whnf))
 apply Exists.intro
 apply And.intro
 ·conv=>whnf
  ((conv in (_[_]?)=>tactic=>exact a0 _ _);(conv=>whnf))
  exact ⟨rfl,rfl,trivial⟩
 conv=>whnf
 refine ⟨_,cP (c151 none) ⟨rfl,rfl,trivial⟩,?_⟩
 conv=>whnf
 (refine dS ?_;(conv=>whnf))
 apply Exists.intro
 apply And.intro
 ·conv=>whnf
  ((conv in (_[_]?)=>tactic=>exact a0 _ _);(conv=>whnf))
  exact ⟨rfl,sA _ _ _,trivial⟩
 conv=>whnf
 (refine dS ?_;(conv=>whnf))
 apply Exists.intro
 apply And.intro
 ·conv=>whnf
  ((conv in (_[_]?)=>tactic=>exact a0 _ _);(conv=>whnf))
  exact ⟨rfl,sA _ _ _,trivial⟩
 conv=>whnf
 (refine dS ?_;(conv=>whnf))
 apply Exists.intro
 apply And.intro
 ·conv=>whnf
  ((conv in (_[_]?)=>tactic=>exact a0 _ _);(conv=>whnf))
  exact ⟨rfl,sA _ _ _,trivial⟩
 conv=>whnf
 ((conv in (_[_]?)=>tactic=>exact a0 (trO rs ls none none none 3) (trO [] [] (some 9) (some 200) (some 261) 0));(conv=>whnf))
 have el:∀A:PObj,(H++[A]).length=H.length+1:=fun A=>by simp
 refine lO Unit (fun _=>[(1,.ptr (some (H.length,0))),(2,.ptr (some (H.length+1,0))),(19,.int .i64 0),(20,.int .i64 0)]) (fun _=>H++[trO rs ls none none none 3]++[trO [] [] (some 9) (some 200) (some 261) 0]) (fun _=>True) (fun _=>0) ⟨(),trivial,⟨rfl,by rw [←el];rfl,rfl,rfl,trivial⟩,rfl⟩ ?_
 rintro _ _
 conv=>whnf
 refine ⟨fun h=>absurd (show (0:Int)<0 from h) (by decide),fun _=>?_⟩
 conv=>whnf
 ((conv in (_[_]?)=>tactic=>exact a0 (trO rs ls none none none 3) (trO [] [] (some 9) (some 200) (some 261) 0));(conv=>whnf))
 have hB':∀A B:PObj,(H++[A]++[B])[H.length+1]? = some B:=fun A B=>by rw [←el A];exact hB A B
 have sB':∀A B B':PObj,(H++[A]++[B]).set (H.length+1) B'=H++[A]++[B']:=fun A B B'=>by rw [←el A];exact sB A B B'
 ((conv in (_[_]?)=>tactic=>exact hB' _ _);(conv=>whnf))
 ((conv in (_[_]?)=>tactic=>exact (show ((H++[_]++[_]).set (H.length+1) _)[H.length+1]? = some _ from gS (hB' _ _)));(conv=>whnf))
 refine ⟨rfl,[trO rs ls none none none 3,trO rs ls none none none 1],?_⟩
 exact (sB' _ _ _).trans (List.append_assoc _ _ _)
theorem oldPs_str:∀l:List (List UInt8),oldPs (l.map PV.str)=true
 | []=>rfl
 | x::l=>by
  show (true&&oldPs (l.map PV.str))=true
  rw [oldPs_str l];rfl
theorem oldPs_pr:∀l:List Pr,oldPs (l.flatMap prC)=true
 | []=>rfl
 | x::l=>by
  rw [List.flatMap_cons]
  show (true&&(true&&oldPs (l.flatMap prC)))=true
  rw [oldPs_pr l];rfl
theorem treeC_old (rs:List (List UInt8)) (ls:List Pr):oldR (.agg (treeC rs ls none none none))=true:=by
 show (oldPs (rs.map PV.str)&&(oldPs (ls.flatMap prC)&&true))=true
 rw [oldPs_str,oldPs_pr];rfl
theorem c96 (rs:List (List UInt8)) (ls:List Pr) (h1:rs.length≤1000000) (h2:ls.length≤1000000):Pure prog 96 [.agg (treeC rs ls none none none)] (.agg (treeC rs ls none none none)):=fun H =>
 ((c96x rs ls h1 h2 H).gc fun r H' hh=>⟨by rw [hh.1];exact treeC_old rs ls,hh.2⟩).mono fun x H' hh=>⟨hh.2.elim fun _ h=>h.1,hh.1⟩
def edu:List UInt8:=[69,68,85]
def aedu:List UInt8:=[65,46,69,68,85]
def bedu:List UInt8:=[66,46,69,68,85]
def rs0:List (List UInt8):=[aedu,edu,bedu]
def ls0:List Pr:=[(aedu,edu),(edu,aedu),(edu,bedu),(bedu,edu)]
theorem tree0:Tree rs0 ls0 where
 pos:=by decide
 six:=by decide
 nd:=by decide
 len:=by decide
 nl:=by decide
 good:=by
  intro p hp
  have:(decide (p.1∈rs0)&&decide (p.2∈rs0)&&decide (p.1≠p.2))=true:=by
   revert p
   rw [←List.all_eq_true (l:=ls0)]
   decide
  simp only [Bool.and_eq_true,decide_eq_true_eq] at this
  exact ⟨this.1.1,this.1.2,this.2⟩
 is:=by
  intro r hr
  have:(decide ((labelsB r).1≠0)&&decide (r.length≤1000))=true:=by
   revert r
   rw [←List.all_eq_true (l:=rs0)]
   kernel_rfl
  simp only [Bool.and_eq_true,decide_eq_true_eq] at this
  exact this
def imm42t:List Nat:=[]
theorem c42x (H:PH):CK prog 42 [] H fun r H'=>r=.agg (treeC rs0 ls0 none none none)∧∃ext,H'=H++ext:=by
 (refine fnS (imm:=imm42t) ttT_ok func42 ?_;(conv=>whnf))
 ((conv in (_[_]?)=>tactic=>exact gL H _);(conv=>whnf))
 ((conv in (_[_]?)=>tactic=>exact (show ((H++[_]).set H.length _)[H.length]? = some _ from gS (gL H _)));(conv=>whnf))
 refine ⟨rfl,[⟨92,treeC rs0 ls0 none none (some 261),1⟩],?_⟩
 show (H++[_]).set H.length _=_
 rw [sL];rfl
theorem c42:Pure prog 42 [] (.agg (treeC rs0 ls0 none none none)):=fun H =>
 ((c42x H).gc fun r H' hh=>⟨by rw [hh.1];exact treeC_old rs0 ls0,hh.2⟩).mono fun x H' hh=>⟨hh.2.elim fun _ h=>h.1,hh.1⟩
def ttKn:TT:=[(3,⟨.int .i64,1,8,[.int .i64 0]⟩),(4,⟨.bool,1,1,[.bool false]⟩),(5,⟨.int .u8,1,1,[.int .u8 0]⟩),(9,⟨.str,1,16,[.str []]⟩),(2,⟨.int .i64,1,8,[.int .i64 0]⟩),(31,⟨.int .i64,1,8,[.int .i64 0]⟩),(33,⟨.ptr,1,8,[.ptr none]⟩),(88,⟨.slice 9,1,24,[.slice 0 [] (some 9)]⟩),(89,⟨.slice 200,1,24,[.slice 0 [] (some 200)]⟩),(90,⟨.slice 261,1,24,[.slice 0 [] (some 261)]⟩),(92,⟨.strct [(88,0),(89,1),(90,2)],3,72,[.slice 0 [] (some 9),.slice 0 [] (some 200),.slice 0 [] (some 261)]⟩),(110,⟨.ptr,1,8,[.ptr none]⟩),(132,⟨.strB [(129,0),(130,0),(2,0)],1,8,[.int .i64 0]⟩),(134,⟨.strct [(9,0),(92,1),(110,4),(132,5),(132,6)],7,112,[.str [],.slice 0 [] (some 9),.slice 0 [] (some 200),.slice 0 [] (some 261),.ptr none,.int .i64 0,.int .i64 0]⟩),(200,⟨.arr 2 9,2,32,[.str [],.str []]⟩),(261,⟨.strct [(9,0),(9,1),(88,2)],3,56,[.str [],.str [],.slice 0 [] (some 9)]⟩)]
theorem ttKn_ok:ttOk prog ttKn=true:=by kernel_rfl
def imm41t:List Nat:=[4]
theorem c41 {rs:List (List UInt8)} {ls:List Pr} (t:Tree rs ls) (r:List UInt8) (hr:r∈rs) (rid off:Nat) (H:PH) :
  CK prog 41 [.str r,.agg (treeC rs ls none none none),.ptr (some (rid,off))] H fun x H'=>x=.tup [.ptr (some (H.length,0)),.int .i64 0] ∧
   H'=H++[⟨134,[.str r,.slice rs.length (rs.map .str) none,.slice ls.length (ls.flatMap prC) none,.slice 0 [] none,.ptr (some (rid,off)),.int .i64 0,.int .i64 0],0⟩]:=by
 have h2:=t.six
 have h3:=t.len
 (refine fnS (imm:=imm41t) ttKn_ok func41 ?_;(conv=>whnf))
 refine cO (c94x t none none none H) ?_
 rintro _ _ ⟨rfl,rfl⟩
 conv=>whnf
 refine cP (c95 rs r none (by omega)) ?_
 rw [decide_eq_true hr]
 conv=>whnf
 refine cP (c96 rs ls (by omega) (by omega)) ?_
 conv=>whnf
 exact ⟨rfl,rfl⟩
def imm101t:List Nat:=[]
def imm156t:List Nat:=[]
def imm100t:List Nat:=[1]
theorem c101r (l:List (List UInt8)) (x:List UInt8) (o:Option Nat) (hs:l.length≤1099511627775):Pure prog 101 [.slice l.length (l.map .str) o,.str x] (.int .i64 (idxF (fun y=>decide (y=x)) l)):=by
 intro H
 generalize hp:(fun y=>decide (y=x))=p
 (refine fnS (imm:=imm101t) ttT_ok func101 ?_;(conv=>whnf))
 refine lO Nat (fun i=>[(0,.slice l.length (l.map .str) none),(1,.str x),(5,.int .i64 i)]) (fun _=>H)
  (fun i=>i≤l.length∧idxF p l=if idxF p (l.drop i)<0 then -1 else idxF p (l.drop i)+i) (fun i=>l.length - i) ⟨0,⟨Nat.zero_le _,by have:=idxF_ge p l;simp;omega⟩,⟨?_,rfl,rfl,trivial⟩,rfl⟩ ?_
 ·cases o <;> rfl
 rintro i ⟨h1,h2⟩
 conv=>whnf
 refine ⟨fun h3=>?_,fun h3=>?_⟩
 ·conv=>whnf
  have h3:(i:Int)<l.length:=h3
  have hi:i<l.length:=by omega
  have hgi:=List.getElem?_eq_getElem hi
  refine ⟨⟨by omega,h3⟩,[.str l[i]],elem_cells l hgi,?_⟩
  conv=>whnf
  have hdr:=List.drop_eq_getElem_cons hi
  have hge:=idxF_ge p (l.drop (i+1))
  rw [hdr,idxF_cons] at h2
  refine ⟨fun h5=>?_,fun h5=>?_⟩
  ·conv=>whnf
   have hb:p l[i]=true:=by rw [←hp];exact decide_eq_true h5
   rw [hb] at h2
   refine ⟨?_,rfl⟩
   show PV.int _ _=PV.int _ _
   rw [h2];simp
  ·conv=>whnf
   have hb:p l[i]=false:=by rw [←hp];exact decide_eq_false h5
   rw [hb] at h2
   refine ⟨i+1,⟨by omega,?_⟩,⟨rfl,rfl,?_,trivial⟩,rfl,by omega⟩
   ·rw [h2]
    simp only [Bool.false_eq_true,if_false]
    split <;> split <;> (try split) <;> omega
   ·show PV.int _ (IntKind.i64.wrap ((i:Int)+1))=PV.int _ _
    rw [w64 (by omega) (by omega)];simp
 ·conv=>whnf
  have h3:¬(i:Int)<l.length:=h3
  refine ⟨?_,rfl⟩
  show PV.int _ _=PV.int _ _
  rw [h2,List.drop_eq_nil_of_le (by omega)];simp [idxF]
theorem place {l:List (List UInt8)} {x:List UInt8}:(0≤idxF (fun y=>decide (y=x)) l↔x∈l):=by
 rw [idxF_neg,List.any_eq_true]
 constructor
 ·rintro ⟨y,hy,e⟩;rw [←of_decide_eq_true e];exact hy
 ·intro h;exact ⟨x,h,decide_eq_true rfl⟩
theorem c156 {rs:List (List UInt8)} (o:Option Nat) (h0:0<rs.length) (h6:rs.length≤6) (hnd:rs.Nodup) (his:∀r∈rs,isRealmB r=true∧r.length≤1000):Pure prog 156 [.slice rs.length (rs.map .str) o] (.bool true):=by
 intro H
 (refine fnS (imm:=imm156t) ttT_ok func156 ?_;(conv=>whnf))
 refine lO Nat (fun i=>[(0,.slice rs.length (rs.map .str) none),(3,.int .i64 i)]) (fun _=>H) (fun i=>i≤rs.length) (fun i=>rs.length - i) ⟨0,Nat.zero_le _,⟨?_,rfl,trivial⟩,rfl⟩ ?_
 ·cases o <;> rfl
 rintro i h1
 replace h1:i≤rs.length:=h1
 conv=>whnf
 refine ⟨fun h3=>?_,fun h3=>?_⟩
 ·conv=>whnf
  have h3:(i:Int)<rs.length:=h3
  have hi:i<rs.length:=by omega
  have hgi:=List.getElem?_eq_getElem hi
  obtain ⟨hr1,hr2⟩:=his _ (List.getElem_mem hi)
  have h78:Pure prog 78 [.str rs[i]] (.bool true):=(c78 rs[i] (by omega)).of_eq (by rw [hr1])
  have hnm:rs[i] ∉ rs.take i:=((nodup_take hi).1 (nodup_of hnd)).2
  have ha:[PV.slice ((i:Int).toNat - 0) (List.drop (0*1) (List.take ((i:Int).toNat*1) (rs.map PV.str))) none,.str rs[i]]=[.slice (rs.take i).length ((rs.take i).map .str) none,.str rs[i]]:=by
   have e:(rs.take i).length=i:=by rw [List.length_take];omega
   rw [e,List.map_take,Int.toNat_natCast,Nat.sub_zero,Nat.mul_one,Nat.mul_one,List.drop_zero]
  refine dP2 (by kernel_rfl) ?_
  conv=>whnf
  iterate 2 (refine dS ?_;(conv=>whnf))
  apply Exists.intro
  apply And.intro
  ·conv=>whnf
   exact ⟨⟨by omega,h3⟩,[.str rs[i]],elem_cells rs hgi,rfl,rfl,trivial⟩
  conv=>whnf
  (refine dS ?_;(conv=>whnf))
  refine ⟨_,cP h78 ⟨rfl,rfl,trivial⟩,?_⟩
  conv=>whnf
  iterate 4 (refine dS ?_;(conv=>whnf))
  apply Exists.intro
  apply And.intro
  ·conv=>whnf
   exact ⟨⟨by decide,by omega,by omega⟩,rfl,rfl,trivial⟩
  conv=>whnf
  iterate 2 (refine dS ?_;(conv=>whnf))
  apply Exists.intro
  apply And.intro
  ·conv=>whnf
   exact ⟨⟨by omega,h3⟩,[.str rs[i]],elem_cells rs hgi,rfl,rfl,trivial⟩
  conv=>whnf
  (refine dS ?_;(conv=>whnf))
  refine ⟨_,cA ha (cP (c101r (rs.take i) rs[i] none (by simp;omega)) ⟨rfl,rfl,trivial⟩),?_⟩
  conv=>whnf
  refine ⟨.bool false,?_,?_⟩
  ·conv=>whnf
   exact ⟨fun h=>absurd (place.1 h) hnm,fun _=>⟨rfl,rfl,trivial⟩⟩
  conv=>whnf
  (refine dS ?_;(conv=>whnf))
  conv=>whnf
  refine ⟨i+1,by omega,⟨rfl,?_,trivial⟩,rfl,by omega⟩
  show PV.int _ (IntKind.i64.wrap ((i:Int)+1))=PV.int _ _
  rw [w64 (by omega) (by omega)];simp
 ·conv=>whnf
  refine ⟨fun _=>?_,fun h=>absurd (show (1:Int)≤rs.length by omega) h⟩
  conv=>whnf
  refine ⟨fun _=>?_,fun h=>absurd (show (rs.length:Int)≤6 by omega) h⟩
  conv=>whnf
  exact ⟨rfl,rfl⟩
theorem c100 {rs:List (List UInt8)} {ls:List Pr} (t:Tree rs ls) (his:∀r∈rs,isRealmB r=true∧r.length≤1000) (o1 o2 o3:Option Nat) (H:PH) :
  CK prog 100 [.agg (treeC rs ls o1 o2 o3)] H fun r H'=>r=.bool true∧∃ext,H'=H++ext:=by
 have h1:=t.pos
 have h2:=t.six
 have h3:=t.len
 (refine fnS (imm:=imm100t) ttT_ok func100 ?_;(conv=>whnf))
 refine cA (args':=[.slice rs.length (rs.map .str) none]) (by cases o1 <;> rfl) (cP (c156 none h1 h2 t.nd his) ?_)
 conv=>whnf
 refine ⟨fun h=>absurd (show (20:Int)<ls.length from h) (by omega),fun _=>?_⟩
 conv=>whnf
 refine ⟨fun h=>absurd (show (8:Int)<0 from h) (by decide),fun _=>?_⟩
 conv=>whnf
 refine lO (Nat×PH) (fun s=>[(1,.elem (treeC rs ls o1 o2 o3)),(3,.int .i64 s.1)]) (fun s=>H++s.2) (fun s=>s.1≤ls.length) (fun s=>ls.length - s.1) ⟨(0,[]),Nat.zero_le _,⟨rfl,rfl,trivial⟩,(List.append_nil H).symm⟩ ?_
 rintro ⟨i,X⟩ k1
 replace k1:i≤ls.length:=k1
 conv=>whnf
 refine ⟨fun k3=>?_,fun k3=>?_⟩
 ·conv=>whnf
  have k3:(i:Int)<ls.length:=k3
  have hi:i<ls.length:=by omega
  have hgi:=List.getElem?_eq_getElem hi
  obtain ⟨g1,g2,g3⟩:=t.good _ (List.getElem_mem hi)
  refine ⟨⟨by omega,k3⟩,prC ls[i],pr_cells ls hgi,?_⟩
  conv=>whnf
  ((conv in (_[_]?)=>tactic=>exact gL (H++X) _);(conv=>whnf))
  have hat:∀A B:PObj,(((H++X)++[A]).set (H++X).length B)[(H++X).length]? = some B:=fun A B=>gS (gL (H++X) _)
  refine ⟨⟨by decide,by decide⟩,?_⟩
  conv=>whnf
  ((conv in (_[_]?)=>tactic=>exact hat _ _);(conv=>whnf))
  refine cA (args':=[.slice rs.length (rs.map .str) none,.str ls[i].1]) (by cases o1 <;> rfl) (cP (c101r rs ls[i].1 none (by omega)) ?_)
  conv=>whnf
  refine ⟨fun h=>absurd (place.2 g1) (Int.not_le.2 h),fun _=>?_⟩
  conv=>whnf
  refine ⟨⟨by decide,by decide⟩,?_⟩
  conv=>whnf
  ((conv in (_[_]?)=>tactic=>exact hat _ _);(conv=>whnf))
  refine cA (args':=[.slice rs.length (rs.map .str) none,.str ls[i].2]) (by cases o1 <;> rfl) (cP (c101r rs ls[i].2 none (by omega)) ?_)
  conv=>whnf
  refine ⟨fun h=>absurd (place.2 g2) (Int.not_le.2 h),fun _=>?_⟩
  conv=>whnf
  refine ⟨⟨by decide,by decide⟩,?_⟩
  conv=>whnf
  ((conv in (_[_]?)=>tactic=>exact hat _ _);(conv=>whnf))
  refine ⟨⟨by decide,by decide⟩,?_⟩
  conv=>whnf
  ((conv in (_[_]?)=>tactic=>exact hat _ _);(conv=>whnf))
  refine ⟨fun h=>absurd h g3,fun _=>?_⟩
  conv=>whnf
  refine lO Nat (fun j=>[(1,.elem (treeC rs ls o1 o2 o3)),(3,.int .i64 i),(4,.ptr (some ((H++X).length,0))),(5,.int .i64 j)]) (fun _=>H++(X++[(⟨200,[.str ls[i].1,.str ls[i].2],1⟩:PObj)])) (fun j=>j≤i) (fun j=>i - j) ⟨0,Nat.zero_le _,⟨rfl,rfl,rfl,rfl,trivial⟩,set_appK H X _ _⟩ ?_
  have hat2:∀A:PObj,(H++(X++[A]))[(H++X).length]? = some A:=fun A=>by rw [←List.append_assoc];exact gL _ _
  intro j kj
  replace kj:j≤i:=kj
  conv=>whnf
  refine ⟨fun k4=>?_,fun k4=>?_⟩
  ·conv=>whnf
   have k4:(j:Int)<i:=k4
   have hj:j<ls.length:=by omega
   have hgj:=List.getElem?_eq_getElem hj
   have hne:ls[j]≠ls[i]:=fun e=>by
    have:=(List.getElem_inj (h₀:=hj) (h₁:=hi) t.nl).1 e
    omega
   refine dP2 (by kernel_rfl) ?_
   conv=>whnf
   iterate 3 (refine dS ?_;(conv=>whnf))
   apply Exists.intro
   apply And.intro
   ·conv=>whnf
    exact ⟨⟨by omega,by omega⟩,prC ls[j],pr_cells ls hgj,rfl,rfl,trivial⟩
   conv=>whnf
   (refine dS ?_;(conv=>whnf))
   apply Exists.intro
   apply And.intro
   ·conv=>whnf
    ((conv in (_[_]?)=>tactic=>exact hat2 _);(conv=>whnf))
    exact ⟨rfl,rfl,trivial⟩
   conv=>whnf
   refine ⟨.bool false,?_,?_⟩
   ·conv=>whnf
    exact ⟨⟨fitT _ _,fitT _ _⟩,fun h=>absurd (prEq h) hne,fun _=>⟨rfl,rfl,trivial⟩⟩
   conv=>whnf
   refine ⟨j+1,by show j+1≤i;omega,⟨rfl,rfl,rfl,?_,trivial⟩,rfl,by omega⟩
   show PV.int _ (IntKind.i64.wrap ((j:Int)+1))=PV.int _ _
   rw [w64 (by omega) (by omega)];simp
  ·conv=>whnf
   refine ⟨(i+1,X++[(⟨200,[.str ls[i].1,.str ls[i].2],1⟩:PObj)]),by show i+1≤ls.length;omega,⟨rfl,?_,trivial⟩,rfl,by show ls.length - (i+1)<ls.length - i;omega⟩
   show PV.int _ (IntKind.i64.wrap ((i:Int)+1))=PV.int _ _
   rw [w64 (by omega) (by omega)];simp
 ·conv=>whnf
  have k3:¬(i:Int)<ls.length:=k3
  refine lO Unit (fun _=>[(1,.elem (treeC rs ls o1 o2 o3)),(6,.int .i64 0)]) (fun _=>H++X) (fun _=>True) (fun _=>0) ⟨(),trivial,⟨rfl,rfl,trivial⟩,rfl⟩ ?_
  rintro _ _
  conv=>whnf
  refine ⟨fun h=>absurd (show (0:Int)<0 from h) (by decide),fun _=>?_⟩
  conv=>whnf
  exact ⟨rfl,X,rfl⟩
def ttBg:TT:=[(2,⟨.int .i64,1,8,[.int .i64 0]⟩),(3,⟨.int .i64,1,8,[.int .i64 0]⟩),(4,⟨.bool,1,1,[.bool false]⟩),(5,⟨.int .u8,1,1,[.int .u8 0]⟩),(9,⟨.str,1,16,[.str []]⟩),(25,⟨.strct [(9,0),(9,1)],2,32,[.str [],.str []]⟩),(31,⟨.int .i64,1,8,[.int .i64 0]⟩),(33,⟨.ptr,1,8,[.ptr none]⟩),(34,⟨.ptr,1,8,[.ptr none]⟩),(36,⟨.strct [(33,0),(34,1)],2,16,[.ptr none,.ptr none]⟩),(43,⟨.arr 32 5,32,32,List.replicate 32 (.int .u8 0)⟩),(88,⟨.slice 9,1,24,[.slice 0 [] (some 9)]⟩),(89,⟨.slice 200,1,24,[.slice 0 [] (some 200)]⟩),(90,⟨.slice 261,1,24,[.slice 0 [] (some 261)]⟩),(92,⟨.strct [(88,0),(89,1),(90,2)],3,72,[.slice 0 [] (some 9),.slice 0 [] (some 200),.slice 0 [] (some 261)]⟩),(93,⟨.ptr,1,8,[.ptr none]⟩),(95,⟨.strct [(9,0),(92,1),(93,4),(3,5),(3,6)],7,112,[.str [],.slice 0 [] (some 9),.slice 0 [] (some 200),.slice 0 [] (some 261),.ptr none,.int .i64 0,.int .i64 0]⟩),(110,⟨.ptr,1,8,[.ptr none]⟩),(113,⟨.slice 210,1,24,[.slice 0 [] (some 210)]⟩),(115,⟨.strct [(113,0)],1,24,[.slice 0 [] (some 210)]⟩),(116,⟨.slice 25,1,24,[.slice 0 [] (some 25)]⟩),(132,⟨.strB [(129,0),(130,0),(2,0)],1,8,[.int .i64 0]⟩),(134,⟨.strct [(9,0),(92,1),(110,4),(132,5),(132,6)],7,112,[.str [],.slice 0 [] (some 9),.slice 0 [] (some 200),.slice 0 [] (some 261),.ptr none,.int .i64 0,.int .i64 0]⟩),(200,⟨.arr 2 9,2,32,[.str [],.str []]⟩),(210,⟨.strct [(25,0),(3,2),(43,3)],35,72,[.str [],.str [],.int .i64 0]++List.replicate 32 (.int .u8 0)⟩),(261,⟨.strct [(9,0),(9,1),(88,2)],3,56,[.str [],.str [],.slice 0 [] (some 9)]⟩)]
theorem ttBg_ok:ttOk prog ttBg=true:=by kernel_rfl
def imm46t:List Nat:=[4]
def imm17t:List Nat:=[]
def xkdcO (realm:List UInt8) (rs:List (List UInt8)) (ls:List Pr) (rid off:Nat) (n i:Int) (v:Nat):PObj:=⟨95,[.str realm,.slice rs.length (rs.map .str) none,.slice ls.length (ls.flatMap prC) none,.slice 0 [] none,.ptr (some (rid,off)),.int .i64 n,.int .i64 i],v⟩
theorem c100p {rs:List (List UInt8)} {ls:List Pr} (t:Tree rs ls) (his:∀r∈rs,isRealmB r=true∧r.length≤1000) (o1 o2 o3:Option Nat):Pure prog 100 [.agg (treeC rs ls o1 o2 o3)] (.bool true):=fun H =>
 ((c100 t his o1 o2 o3 H).gc fun r H' hh=>⟨by rw [hh.1];rfl,hh.2⟩).mono fun x H' hh=>⟨hh.2.elim fun _ h=>h.1,hh.1⟩
theorem c46 {rs:List (List UInt8)} {ls:List Pr} (t:Tree rs ls) (his:∀r∈rs,isRealmB r=true∧r.length≤1000) (r:List UInt8) (hr:r∈rs) (rid off:Nat) (H:PH) :
  CK prog 46 [.str r,.agg (treeC rs ls none none none),.ptr (some (rid,off))] H fun x H'=>x=.tup [.ptr (some (H.length,0)),.int .i64 0]∧H'=H++[xkdcO r rs ls rid off 0 0 0]:=by
 have h2:=t.six
 have h3:=t.len
 (refine fnS (imm:=imm46t) ttBg_ok func46 ?_;(conv=>whnf))
 refine cP (c100p t his none none none) ?_
 conv=>whnf
 refine cP (c101r rs r none (by omega)) ?_
 conv=>whnf
 refine ⟨fun h=>absurd (place.2 hr) (Int.not_le.2 h),fun _=>?_⟩
 conv=>whnf
 exact ⟨rfl,rfl⟩
theorem c52 (r:List UInt8) (hr:r.length≤1000000):Pure prog 52 [.str r] (.str (krb r)):=by
 intro H
 (refine fnS (imm:=imm17t) ttBg_ok func52 ?_;(conv=>whnf))
 refine ⟨by show 7+r.length≤9223372036854775807;omega,?_⟩
 conv=>whnf
 exact ⟨rfl,rfl⟩
def ann:List UInt8:=[97,110,110]
theorem c17:Pure prog 17 [] (.agg [.str aedu,.str ann]):=fun H =>
 ((show CK prog 17 [] H fun r H'=>r=.agg [.str aedu,.str ann]∧∃ext,H'=H++ext by
  (refine fnS (imm:=imm17t) ttBg_ok func17 ?_;(conv=>whnf))
  ((conv in (_[_]?)=>tactic=>exact gL H _);(conv=>whnf))
  ((conv in (_[_]?)=>tactic=>exact (show ((H++[_]).set H.length _)[H.length]? = some _ from gS (gL H _)));(conv=>whnf))
  refine ⟨rfl,[⟨25,[.str aedu,.str ann],1⟩],?_⟩
  show (H++[_]).set H.length _=_
  rw [sL];rfl).gc fun r H' hh=>⟨by rw [hh.1];rfl,hh.2⟩).mono fun x H' hh=>⟨hh.2.elim fun _ h=>h.1,hh.1⟩
theorem c18 (a b:List UInt8) (hb:b.length≤1000000):Pure prog 18 [.str a,.str b] (.agg [.str a,.str (krb b)]):=fun H =>
 ((show CK prog 18 [.str a,.str b] H fun r H'=>r=.agg [.str a,.str (krb b)]∧∃ext,H'=H++ext by
  (refine fnS (imm:=imm17t) ttBg_ok func18 ?_;(conv=>whnf))
  refine cP (c52 b hb) ?_
  conv=>whnf
  ((conv in (_[_]?)=>tactic=>exact gL H _);(conv=>whnf))
  ((conv in (_[_]?)=>tactic=>exact (show ((H++[_]).set H.length _)[H.length]? = some _ from gS (gL H _)));(conv=>whnf))
  refine ⟨rfl,[⟨25,[.str a,.str (krb b)],1⟩],?_⟩
  show (H++[_]).set H.length _=_
  rw [sL];rfl).gc fun r H' hh=>⟨by rw [hh.1];rfl,hh.2⟩).mono fun x H' hh=>⟨hh.2.elim fun _ h=>h.1,hh.1⟩
def keyN (n:UInt8):List UInt8:=n::7::List.replicate 30 0
theorem keyN_old (n:UInt8):oldR (.agg ((keyN n).map bC))=true:=oldPs_bytesY _
theorem c19 (n:UInt8):Pure prog 19 [bC n] (.agg ((keyN n).map bC)):=fun H =>
 ((show CK prog 19 [bC n] H fun r H'=>r=.agg ((keyN n).map bC)∧∃ext,H'=H++ext by
  (refine fnS (imm:=imm17t) ttBg_ok func19 ?_;(conv=>whnf))
  ((conv in (_[_]?)=>tactic=>exact gL H _);(conv=>whnf))
  ((conv in (_[_]?)=>tactic=>exact (show ((H++[_]).set H.length _)[H.length]? = some _ from gS (gL H _)));(conv=>whnf))
  refine ⟨rfl,[⟨43,(keyN n).map bC,1⟩],?_⟩
  show (H++[_]).set H.length _=_
  rw [sL];rfl).gc fun r H' hh=>⟨by rw [hh.1];exact keyN_old n,hh.2⟩).mono fun x H' hh=>⟨hh.2.elim fun _ h=>h.1,hh.1⟩
theorem c20 {H:PH} {kid:Nat} {realm:List UInt8} {rs ls ps:PV} {rid:Nat} {n i:Int} {v:Nat} (hv:H[kid]? = some (kdcO realm rs ls ps rid n i v)) :
  CK prog 20 [.ptr (some (kid,0))] H fun r H'=>r=.int .i64 i∧H'=H:=by
 (refine fnS (imm:=imm17t) ttBg_ok func20 ?_;(conv=>whnf))
 refine cO (c53 (off:=6) (n:=i) hv rfl) ?_
 rintro _ _ ⟨rfl,rfl⟩
 conv=>whnf
 exact ⟨rfl,rfl⟩
set_option maxHeartbeats 4000000
def mail:List UInt8:=[109,97,105,108]
theorem c27:Pure prog 27 [] (.agg [.str aedu,.str mail]):=fun H =>
 ((show CK prog 27 [] H fun r H'=>r=.agg [.str aedu,.str mail]∧∃ext,H'=H++ext by
  (refine fnS (imm:=imm17t) ttBg_ok func27 ?_;(conv=>whnf))
  ((conv in (_[_]?)=>tactic=>exact gL H _);(conv=>whnf))
  ((conv in (_[_]?)=>tactic=>exact (show ((H++[_]).set H.length _)[H.length]? = some _ from gS (gL H _)));(conv=>whnf))
  refine ⟨rfl,[⟨25,[.str aedu,.str mail],1⟩],?_⟩
  show (H++[_]).set H.length _=_
  rw [sL];rfl).gc fun r H' hh=>⟨by rw [hh.1];rfl,hh.2⟩).mono fun x H' hh=>⟨hh.2.elim fun _ h=>h.1,hh.1⟩
def nm0:List (Pr×UInt8):=[((aedu,krb aedu),10),((aedu,krb edu),99),((edu,krb aedu),12),((aedu,ann),13),((aedu,mail),14)]
def Small (l:List Ent) (k:Nat):Prop:=l.map (fun e=>(e.r,e.n,e.kv,e.key))=(nm0.take k).map fun x=>(x.1.1,x.1.2,1,keyN x.2)
theorem Small.len {l:List Ent} {k:Nat} (h:Small l k) (hk:k≤5):l.length=k:=by
 have:=congrArg List.length h
 rw [List.length_map,List.length_map,List.length_take] at this
 have e:nm0.length=5:=rfl
 omega
theorem Small.mem {l:List Ent} {k:Nat} (h:Small l k) {e:Ent} (he:e∈l):∃x∈nm0.take k,e.r=x.1.1∧e.n=x.1.2∧e.kv=1∧e.key=keyN x.2:=by
 have hm:(e.r,e.n,e.kv,e.key)∈l.map (fun e=>(e.r,e.n,e.kv,e.key)):=List.mem_map.2 ⟨e,he,rfl⟩
 rw [h] at hm
 obtain ⟨x,hx,hh⟩:=List.mem_map.1 hm
 injection hh with h1 h2
 injection h2 with h2 h3
 injection h3 with h3 h4
 exact ⟨x,hx,h1.symm,h2.symm,h3.symm,h4.symm⟩
theorem Small.none {l:List Ent} {k:Nat} (h:Small l k) {r n:List UInt8} (hn:∀x∈nm0.take k,¬(x.1.1=r∧x.1.2=n)):lastE (isP r n) l=none:=by
 cases he:lastE (isP r n) l with
 | none=>rfl
 | some e =>
  have h2:isP r n e=true:=by
   have:=List.find?_some he
   exact this
  obtain ⟨x,hx,e1,e2,_,_⟩:=h.mem (lastE_mem he)
  obtain ⟨a,b⟩:=isP_iff.1 h2
  exact absurd ⟨e1.symm.trans a,e2.symm.trans b⟩ (hn x hx)
theorem Small.snoc {l:List Ent} {k:Nat} (h:Small l k) {x:Pr×UInt8} (hx:nm0[k]? = some x) (e:Ent) (h1:e.r=x.1.1) (h2:e.n=x.1.2) (h3:e.kv=1) (h4:e.key=keyN x.2):Small (l++[e]) (k+1):=by
 obtain ⟨hk,rfl⟩:=List.getElem?_eq_some_iff.1 hx
 unfold Small at h ⊢
 rw [List.take_succ_eq_append_getElem hk,List.map_append,List.map_append,h]
 simp [h1,h2,h3,h4]
def imm15t:List Nat:=[]
def D15:Draw:={ imp:=[6],win:=[(7,1,1),(8,1,1),(9,1,1),(10,1,1),(11,1,1)] }
def D16:Draw:={ imp:=[6],win:=[] }
theorem nmAt {k:Nat} {x:Pr×UInt8} (h:nm0[k]? = some x):∀(j:Nat) (c:PV),(prC x.1)[j]? = some c→(nm0.flatMap fun x=>prC x.1)[(k:Int).toNat*2+j]? = some c:=by
 have e:(nm0.flatMap fun x=>prC x.1)=(nm0.map Prod.fst).flatMap prC:=by rw [List.flatMap_map]
 rw [e]
 exact pr_cells _ (by rw [List.getElem?_map,h];rfl)
theorem fitBg (a b:List UInt8):FitP ttBg 6 25 [.str a,.str b]:=⟨rfl,⟨by show 1≤2;omega,a,rfl⟩,rfl,⟨by show 1≤1;omega,b,rfl⟩,rfl⟩
theorem keyN_len (n:UInt8):(keyN n).length=32:=by unfold keyN;simp
structure BegS where
 k:Nat
 X:PH
structure BegOk (H:PH) (s:BegS):Prop where
 le:s.k≤5
 ex:∃l v,Small l s.k∧Inc l∧RingAt s.X H.length l∧s.X[H.length+1]? = some (xringO l v)
 evo:Evo (fun i=>i=H.length∨i=H.length+1) (H++[ringO [] 0]++[xringO [] 0]) s.X
theorem xringT (l:List Ent) (v:Nat):(xringO l v).T≠keyT∧(xringO l v).T≠boxT:=⟨fun h=>absurd (show 115=keyT from h) (by decide),fun h=>absurd (show 115=boxT from h) (by decide)⟩
theorem addY {H:PH} {rid v:Nat} {l:List Ent} (hid:H[rid]? = some (ringO l v)) (hl:l.length≤4) (r n key:List UInt8) (hkey:key.length=32) (hp:isPrincB r n=true) (hno:lastE (isP r n) l=none) :
  addR l r n=.tup [.int .i64 1,.int .i64 0]∧addB l r n=true∧Adds H rid l r n key (addH H rid v l r n key):=by
 have hlt:rid<H.length:=(List.getElem?_eq_some_iff.1 hid).1
 have hc:¬(40≤l.length∨255<nextKv (lastE (isP r n) l)):=by rw [hno];show ¬(40≤l.length∨255<1);omega
 have hR:addR l r n=.tup [.int .i64 1,.int .i64 0]:=by unfold addR;rw [hp];simp only [if_neg hc];rw [hno];rfl
 have hB:addB l r n=true:=by unfold addB;rw [hp,decide_eq_false hc];rfl
 refine ⟨hR,hB,?_⟩
 have h2:addH H rid v l r n key=(H++[speckO (key.take 16),boxO key H.length]).set rid (ringO (l++[addE H l r n key]) (v+2)):=by unfold addH;rw [hp];simp only [if_neg hc]
 have hid2:(H++[speckO (key.take 16),boxO key H.length])[rid]? = some (ringO l v):=by rw [List.getElem?_append_left hlt];exact hid
 refine ⟨⟨addE H l r n key,v+2,rfl,rfl,rfl,rfl,?_,?_⟩,?_⟩
 ·rw [h2,List.getElem?_set_self (by simp;omega)]
 ·rw [h2]
  refine (Evo.setOther (S:=(·=rid)) hid2 rfl (ringT _ _).1 (ringT _ _).2).box _ _ ⟨hkey,H.length,0,0,0,0,speckO (key.take 16),?_,?_,speck_key _⟩
  ·show (H++[speckO (key.take 16),boxO key H.length])[H.length+1]? = _
   rw [List.getElem?_append_right (by omega),show H.length+1 - H.length=1 by omega];rfl
  ·rw [List.getElem?_append_right (by omega),show H.length - H.length=0 by omega];rfl
 ·rw [h2]
  exact (Evo.app H _).trans (Evo.setOther hid2 rfl (ringT _ _).1 (ringT _ _).2)
theorem c15x (H:PH):CK prog 15 [.bool false] H fun r H'=>∃kid xid pid l v,r=.ptr (some (pid,0))∧Small l 5∧Inc l∧Kd H' kid H.length aedu (.slice 3 (rs0.map .str) none) (.slice 4 (ls0.flatMap prC) none) (.slice 0 [] none) l 0 0 ∧
  H'[xid]? = some (xkdcO aedu rs0 ls0 (H.length+1) 0 0 0 0)∧H'[H.length+1]? = some (xringO l v)∧H'[pid]? = some ⟨36,[.ptr (some (kid,0)),.ptr (some (xid,0))],0⟩∧Evo (fun _=>False) H H':=by
 (refine fnS (imm:=imm15t) ttBg_ok func15 ?_;(conv=>whnf))
 refine cO (c43 H) ?_
 rintro _ _ ⟨rfl,rfl⟩
 conv=>whnf
 have k1:Pure prog 18 [.str aedu,.str aedu] (.agg [.str aedu,.str (krb aedu)]):=c18 _ _ (by decide)
 have k2:Pure prog 18 [.str aedu,.str edu] (.agg [.str aedu,.str (krb edu)]):=c18 _ _ (by decide)
 have k3:Pure prog 18 [.str edu,.str aedu] (.agg [.str edu,.str (krb aedu)]):=c18 _ _ (by decide)
 refine cP k1 ?_
 conv=>whnf
 refine cP k2 ?_
 conv=>whnf
 refine cP k3 ?_
 conv=>whnf
 refine cP c17 ?_
 conv=>whnf
 refine cP c27 ?_
 conv=>whnf
 refine lO BegS (fun s=>[(3,.ptr (some (H.length,0))),(4,.ptr (some ((H++[ringO [] 0]).length,0))),(5,.str aedu),(6,.slice 5 (nm0.flatMap fun x=>prC x.1) (some 25)),(7,.int .i64 s.k)]) (fun s=>s.X) (BegOk H) (fun s=>5 - s.k)
  ⟨⟨0,H++[ringO [] 0]++[xringO [] 0]⟩,⟨Nat.zero_le _,⟨[],0,rfl,Inc.nil,?_,?_⟩,Evo.refl _⟩,⟨rfl,rfl,rfl,rfl,rfl,trivial⟩,rfl⟩ ?_
 ·exact newRing.evo (S:=fun _=>False) (Evo.app _ _) id
 ·have e:(H++[ringO [] 0]).length=H.length+1:=by simp
  rw [←e];exact gL _ _
 rintro ⟨k,X⟩ ⟨hk,⟨l,v,hsm,hinc,hra,hx⟩,hev⟩
 replace hk:k≤5:=hk
 replace hsm:Small l k:=hsm
 replace hra:RingAt X H.length l:=hra
 replace hx:X[H.length+1]? = some (xringO l v):=hx
 have hat:∀A B:PObj,((X++[A]).set X.length B)[X.length]? = some B:=fun A B=>gS (gL X _)
 match k,hk,hsm with
 | 0,hk,hsm =>
  conv=>whnf
  refine ⟨fun _=>?_,fun h=>absurd (show ((0:Nat):Int)<5 by decide) h⟩
  conv=>whnf
  refine cA (args':=[bC 10]) rfl (cP (c19 10) ?_)
  conv=>whnf
  ((conv in (_[_]?)=>tactic=>exact gL X _);(conv=>whnf))
  refine dP2 (by kernel_rfl) ?_
  conv=>whnf
  iterate 2 (refine dS ?_;(conv=>whnf))
  apply Exists.intro
  apply And.intro
  ·conv=>whnf
   exact ⟨⟨show (0:Int)≤((0:Nat):Int) by decide,show ((0:Nat):Int)<5 by decide⟩,[.str aedu,.str (krb aedu)],nmAt (x:=nm0[0]) rfl,rfl,rfl,trivial⟩
  conv=>whnf
  (refine dS ?_;(conv=>whnf))
  refine ⟨_,cP k2 ⟨rfl,rfl,trivial⟩,?_⟩
  conv=>whnf
  refine ⟨.bool false,?_,?_⟩
  ·conv=>whnf
   exact ⟨⟨fitBg _ _,fitBg _ _⟩,fun h=>absurd (prEq h) (by decide),fun _=>⟨rfl,rfl,trivial⟩⟩
  conv=>whnf
  obtain ⟨v1,hv1⟩:=(hra.evo (S:=fun _=>False) (Evo.app X [(⟨43,(keyN 10).map bC,1⟩:PObj)]) id).ex
  have hx1:(X++[(⟨43,(keyN 10).map bC,1⟩:PObj)])[H.length+1]? = some (xringO l v):=by rw [List.getElem?_append_left (List.getElem?_eq_some_iff.1 hx).1];exact hx
  have hno:lastE (isP aedu (krb aedu)) l=none:=hsm.none (by decide)
  have hpr:isPrincB aedu (krb aedu)=true:=by kernel_rfl
  obtain ⟨X2,hX2⟩:∃X2,X2=addH (X++[(⟨43,(keyN 10).map bC,1⟩:PObj)]) H.length v1 l aedu (krb aedu) (keyN 10):=⟨_,rfl⟩
  have hl5:l.length≤4:=by have:=hsm.len hk;omega
  have hkk:∀e∈l,e.key.length=32∧e.kv≤1000:=fun e he=>⟨hra.klen e he,by obtain ⟨x,_,_,_,h3,_⟩:=hsm.mem he;omega⟩
  obtain ⟨hR,hb,hA⟩:=addY hv1 hl5 aedu (krb aedu) (keyN 10) (keyN_len _) hpr hno
  rw [←hX2] at hA
  have h44:=c44 hv1 (by omega) hkk aedu (krb aedu) (keyN 10) (keyN_len _) (by decide) (by decide)
  rw [hR,←hX2] at h44
  refine dO2 D15 [X++[(⟨43,(keyN 10).map bC,1⟩:PObj)],X2] (by kernel_rfl) ?_ trivial ?_
  ·exact (sL X _ _).symm
  conv=>whnf
  iterate 3 (refine dS ?_;(conv=>whnf))
  apply Exists.intro
  apply And.intro
  ·conv=>whnf
   exact ⟨⟨show (0:Int)≤((0:Nat):Int) by decide,show ((0:Nat):Int)<5 by decide⟩,[.str aedu,.str (krb aedu)],nmAt (x:=nm0[0]) rfl,rfl,rfl,trivial⟩
  conv=>whnf
  (refine dS ?_;(conv=>whnf))
  apply Exists.intro
  apply And.intro
  ·conv=>whnf
   ((conv in (_[_]?)=>tactic=>exact gL X _);(conv=>whnf))
   exact ⟨rfl,rfl,trivial⟩
  conv=>whnf
  refine ⟨_,cO h44 (by rintro _ _ ⟨rfl,rfl⟩;exact ⟨rfl,rfl,trivial⟩),?_⟩
  conv=>whnf
  iterate 5 (refine dS ?_;(conv=>whnf))
  conv=>whnf
  obtain ⟨e,q1,q2,q3,q4,hra2⟩:=(hra.evo (S:=fun _=>False) (Evo.app X [(⟨43,(keyN 10).map bC,1⟩:PObj)]) id).add hA
  have hE:=hA.evo
  have hlt:=(List.getElem?_eq_some_iff.1 hx).1
  have hx2:X2[H.length+1]? = some (xringO l v):=hE.same _ _ hx1 (by show ¬H.length+1=H.length;omega) (xringT l v).1 (xringT l v).2
  have ho2:X2[X.length]? = some (⟨43,(keyN 10).map bC,1⟩:PObj):=hE.same _ _ (gL X _) (by show ¬X.length=H.length;omega) (fun h=>absurd (show 43=keyT from h) (by decide)) (fun h=>absurd (show 43=boxT from h) (by decide))
  have h45:=c45 hx2 (by omega) hkk e (by rw [q4];exact keyN_len _) (by rw [q1,q2,q3]) (by rw [q1];decide) (by rw [q2];decide)
  rw [q1,q2,q4,hR] at h45
  have hX3:xaddH X2 (H.length+1) v l e=X2.set (H.length+1) (xringO (l++[e]) (v+2)):=by unfold xaddH;rw [q1,q2,hb]
  rw [hX3] at h45
  have eX:(H++[ringO [] 0]).length=H.length+1:=by simp
  refine dO2 D16 [X2,X2.set (H.length+1) (xringO (l++[e]) (v+2))] (by kernel_rfl) ?_ trivial ?_
  ·exact rfl
  conv=>whnf
  iterate 3 (refine dS ?_;(conv=>whnf))
  apply Exists.intro
  apply And.intro
  ·conv=>whnf
   exact ⟨⟨show (0:Int)≤((0:Nat):Int) by decide,show ((0:Nat):Int)<5 by decide⟩,[.str aedu,.str (krb aedu)],nmAt (x:=nm0[0]) rfl,rfl,rfl,trivial⟩
  conv=>whnf
  (refine dS ?_;(conv=>whnf))
  apply Exists.intro
  apply And.intro
  ·conv=>whnf
   ((conv in (_[_]?)=>tactic=>exact ho2);(conv=>whnf))
   exact ⟨rfl,rfl,trivial⟩
  conv=>whnf
  refine ⟨_,cA (args':=[.ptr (some (H.length+1,0)),.agg [.str aedu,.str (krb aedu)],.agg ((keyN 10).map bC)]) (by rw [←eX];rfl) (cO h45 (by rintro _ _ ⟨rfl,rfl⟩;exact ⟨rfl,rfl,trivial⟩)),?_⟩
  conv=>whnf
  refine ⟨fun _=>?_,fun h=>absurd rfl h⟩
  conv=>whnf
  have eS:Evo (·=H.length+1) X2 (X2.set (H.length+1) (xringO (l++[e]) (v+2))):=Evo.setOther hx2 rfl (xringT l v).1 (xringT l v).2
  refine ⟨⟨0+1,X2.set (H.length+1) (xringO (l++[e]) (v+2))⟩,⟨(show 0+1≤5 by decide),⟨l++[e],v+2,hsm.snoc (x:=nm0[0]) rfl e q1 q2 (q3.trans (by rw [hno];rfl)) q4,hinc.snoc (by rw [q1,q2,q3]),hra2.evo eS (by show ¬H.length=H.length+1;omega),gS hx2⟩,
   ((hev.trans (Evo.app X [(⟨43,(keyN 10).map bC,1⟩:PObj)])).trans (hE.mono fun _ h=>.inl h)).trans (eS.mono fun _ h=>.inr h)⟩,⟨rfl,rfl,rfl,rfl,rfl,trivial⟩,rfl,(show 5 - (0+1)<5 - 0 by decide)⟩
 | 1,hk,hsm =>
  conv=>whnf
  refine ⟨fun _=>?_,fun h=>absurd (show ((1:Nat):Int)<5 by decide) h⟩
  conv=>whnf
  refine cA (args':=[bC 11]) rfl (cP (c19 11) ?_)
  conv=>whnf
  ((conv in (_[_]?)=>tactic=>exact gL X _);(conv=>whnf))
  refine dP2 (by kernel_rfl) ?_
  conv=>whnf
  iterate 2 (refine dS ?_;(conv=>whnf))
  apply Exists.intro
  apply And.intro
  ·conv=>whnf
   exact ⟨⟨show (0:Int)≤((1:Nat):Int) by decide,show ((1:Nat):Int)<5 by decide⟩,[.str aedu,.str (krb edu)],nmAt (x:=nm0[1]) rfl,rfl,rfl,trivial⟩
  conv=>whnf
  (refine dS ?_;(conv=>whnf))
  refine ⟨_,cP k2 ⟨rfl,rfl,trivial⟩,?_⟩
  conv=>whnf
  refine ⟨.bool true,?_,?_⟩
  ·conv=>whnf
   exact ⟨⟨fitBg _ _,fitBg _ _⟩,fun _=>⟨rfl,rfl,trivial⟩,fun h=>absurd rfl h⟩
  conv=>whnf
  refine cA (args':=[bC 99]) rfl (cP (c19 99) ?_)
  conv=>whnf
  ((conv in (_[_]?)=>tactic=>exact hat _ _);(conv=>whnf))
  obtain ⟨v1,hv1⟩:=(hra.evo (S:=fun _=>False) (Evo.app X [(⟨43,(keyN 99).map bC,2⟩:PObj)]) id).ex
  have hx1:(X++[(⟨43,(keyN 99).map bC,2⟩:PObj)])[H.length+1]? = some (xringO l v):=by rw [List.getElem?_append_left (List.getElem?_eq_some_iff.1 hx).1];exact hx
  have hno:lastE (isP aedu (krb edu)) l=none:=hsm.none (by decide)
  have hpr:isPrincB aedu (krb edu)=true:=by kernel_rfl
  obtain ⟨X2,hX2⟩:∃X2,X2=addH (X++[(⟨43,(keyN 99).map bC,2⟩:PObj)]) H.length v1 l aedu (krb edu) (keyN 99):=⟨_,rfl⟩
  have hl5:l.length≤4:=by have:=hsm.len hk;omega
  have hkk:∀e∈l,e.key.length=32∧e.kv≤1000:=fun e he=>⟨hra.klen e he,by obtain ⟨x,_,_,_,h3,_⟩:=hsm.mem he;omega⟩
  obtain ⟨hR,hb,hA⟩:=addY hv1 hl5 aedu (krb edu) (keyN 99) (keyN_len _) hpr hno
  rw [←hX2] at hA
  have h44:=c44 hv1 (by omega) hkk aedu (krb edu) (keyN 99) (keyN_len _) (by decide) (by decide)
  rw [hR,←hX2] at h44
  refine dO2 D15 [X++[(⟨43,(keyN 99).map bC,2⟩:PObj)],X2] (by kernel_rfl) ?_ trivial ?_
  ·exact ((congrArg (fun z=>List.set z X.length _) (sL X _ _)).trans (sL X _ _)).symm
  conv=>whnf
  iterate 3 (refine dS ?_;(conv=>whnf))
  apply Exists.intro
  apply And.intro
  ·conv=>whnf
   exact ⟨⟨show (0:Int)≤((1:Nat):Int) by decide,show ((1:Nat):Int)<5 by decide⟩,[.str aedu,.str (krb edu)],nmAt (x:=nm0[1]) rfl,rfl,rfl,trivial⟩
  conv=>whnf
  (refine dS ?_;(conv=>whnf))
  apply Exists.intro
  apply And.intro
  ·conv=>whnf
   ((conv in (_[_]?)=>tactic=>exact gL X _);(conv=>whnf))
   exact ⟨rfl,rfl,trivial⟩
  conv=>whnf
  refine ⟨_,cO h44 (by rintro _ _ ⟨rfl,rfl⟩;exact ⟨rfl,rfl,trivial⟩),?_⟩
  conv=>whnf
  iterate 5 (refine dS ?_;(conv=>whnf))
  conv=>whnf
  obtain ⟨e,q1,q2,q3,q4,hra2⟩:=(hra.evo (S:=fun _=>False) (Evo.app X [(⟨43,(keyN 99).map bC,2⟩:PObj)]) id).add hA
  have hE:=hA.evo
  have hlt:=(List.getElem?_eq_some_iff.1 hx).1
  have hx2:X2[H.length+1]? = some (xringO l v):=hE.same _ _ hx1 (by show ¬H.length+1=H.length;omega) (xringT l v).1 (xringT l v).2
  have ho2:X2[X.length]? = some (⟨43,(keyN 99).map bC,2⟩:PObj):=hE.same _ _ (gL X _) (by show ¬X.length=H.length;omega) (fun h=>absurd (show 43=keyT from h) (by decide)) (fun h=>absurd (show 43=boxT from h) (by decide))
  have h45:=c45 hx2 (by omega) hkk e (by rw [q4];exact keyN_len _) (by rw [q1,q2,q3]) (by rw [q1];decide) (by rw [q2];decide)
  rw [q1,q2,q4,hR] at h45
  have hX3:xaddH X2 (H.length+1) v l e=X2.set (H.length+1) (xringO (l++[e]) (v+2)):=by unfold xaddH;rw [q1,q2,hb]
  rw [hX3] at h45
  have eX:(H++[ringO [] 0]).length=H.length+1:=by simp
  refine dO2 D16 [X2,X2.set (H.length+1) (xringO (l++[e]) (v+2))] (by kernel_rfl) ?_ trivial ?_
  ·exact rfl
  conv=>whnf
  iterate 3 (refine dS ?_;(conv=>whnf))
  apply Exists.intro
  apply And.intro
  ·conv=>whnf
   exact ⟨⟨show (0:Int)≤((1:Nat):Int) by decide,show ((1:Nat):Int)<5 by decide⟩,[.str aedu,.str (krb edu)],nmAt (x:=nm0[1]) rfl,rfl,rfl,trivial⟩
  conv=>whnf
  (refine dS ?_;(conv=>whnf))
  apply Exists.intro
  apply And.intro
  ·conv=>whnf
   ((conv in (_[_]?)=>tactic=>exact ho2);(conv=>whnf))
   exact ⟨rfl,rfl,trivial⟩
  conv=>whnf
  refine ⟨_,cA (args':=[.ptr (some (H.length+1,0)),.agg [.str aedu,.str (krb edu)],.agg ((keyN 99).map bC)]) (by rw [←eX];rfl) (cO h45 (by rintro _ _ ⟨rfl,rfl⟩;exact ⟨rfl,rfl,trivial⟩)),?_⟩
  conv=>whnf
  refine ⟨fun _=>?_,fun h=>absurd rfl h⟩
  conv=>whnf
  have eS:Evo (·=H.length+1) X2 (X2.set (H.length+1) (xringO (l++[e]) (v+2))):=Evo.setOther hx2 rfl (xringT l v).1 (xringT l v).2
  refine ⟨⟨1+1,X2.set (H.length+1) (xringO (l++[e]) (v+2))⟩,⟨(show 1+1≤5 by decide),⟨l++[e],v+2,hsm.snoc (x:=nm0[1]) rfl e q1 q2 (q3.trans (by rw [hno];rfl)) q4,hinc.snoc (by rw [q1,q2,q3]),hra2.evo eS (by show ¬H.length=H.length+1;omega),gS hx2⟩,
   ((hev.trans (Evo.app X [(⟨43,(keyN 99).map bC,2⟩:PObj)])).trans (hE.mono fun _ h=>.inl h)).trans (eS.mono fun _ h=>.inr h)⟩,⟨rfl,rfl,rfl,rfl,rfl,trivial⟩,rfl,(show 5 - (1+1)<5 - 1 by decide)⟩
 | 2,hk,hsm =>
  conv=>whnf
  refine ⟨fun _=>?_,fun h=>absurd (show ((2:Nat):Int)<5 by decide) h⟩
  conv=>whnf
  refine cA (args':=[bC 12]) rfl (cP (c19 12) ?_)
  conv=>whnf
  ((conv in (_[_]?)=>tactic=>exact gL X _);(conv=>whnf))
  refine dP2 (by kernel_rfl) ?_
  conv=>whnf
  iterate 2 (refine dS ?_;(conv=>whnf))
  apply Exists.intro
  apply And.intro
  ·conv=>whnf
   exact ⟨⟨show (0:Int)≤((2:Nat):Int) by decide,show ((2:Nat):Int)<5 by decide⟩,[.str edu,.str (krb aedu)],nmAt (x:=nm0[2]) rfl,rfl,rfl,trivial⟩
  conv=>whnf
  (refine dS ?_;(conv=>whnf))
  refine ⟨_,cP k2 ⟨rfl,rfl,trivial⟩,?_⟩
  conv=>whnf
  refine ⟨.bool false,?_,?_⟩
  ·conv=>whnf
   exact ⟨⟨fitBg _ _,fitBg _ _⟩,fun h=>absurd (prEq h) (by decide),fun _=>⟨rfl,rfl,trivial⟩⟩
  conv=>whnf
  obtain ⟨v1,hv1⟩:=(hra.evo (S:=fun _=>False) (Evo.app X [(⟨43,(keyN 12).map bC,1⟩:PObj)]) id).ex
  have hx1:(X++[(⟨43,(keyN 12).map bC,1⟩:PObj)])[H.length+1]? = some (xringO l v):=by rw [List.getElem?_append_left (List.getElem?_eq_some_iff.1 hx).1];exact hx
  have hno:lastE (isP edu (krb aedu)) l=none:=hsm.none (by decide)
  have hpr:isPrincB edu (krb aedu)=true:=by kernel_rfl
  obtain ⟨X2,hX2⟩:∃X2,X2=addH (X++[(⟨43,(keyN 12).map bC,1⟩:PObj)]) H.length v1 l edu (krb aedu) (keyN 12):=⟨_,rfl⟩
  have hl5:l.length≤4:=by have:=hsm.len hk;omega
  have hkk:∀e∈l,e.key.length=32∧e.kv≤1000:=fun e he=>⟨hra.klen e he,by obtain ⟨x,_,_,_,h3,_⟩:=hsm.mem he;omega⟩
  obtain ⟨hR,hb,hA⟩:=addY hv1 hl5 edu (krb aedu) (keyN 12) (keyN_len _) hpr hno
  rw [←hX2] at hA
  have h44:=c44 hv1 (by omega) hkk edu (krb aedu) (keyN 12) (keyN_len _) (by decide) (by decide)
  rw [hR,←hX2] at h44
  refine dO2 D15 [X++[(⟨43,(keyN 12).map bC,1⟩:PObj)],X2] (by kernel_rfl) ?_ trivial ?_
  ·exact (sL X _ _).symm
  conv=>whnf
  iterate 3 (refine dS ?_;(conv=>whnf))
  apply Exists.intro
  apply And.intro
  ·conv=>whnf
   exact ⟨⟨show (0:Int)≤((2:Nat):Int) by decide,show ((2:Nat):Int)<5 by decide⟩,[.str edu,.str (krb aedu)],nmAt (x:=nm0[2]) rfl,rfl,rfl,trivial⟩
  conv=>whnf
  (refine dS ?_;(conv=>whnf))
  apply Exists.intro
  apply And.intro
  ·conv=>whnf
   ((conv in (_[_]?)=>tactic=>exact gL X _);(conv=>whnf))
   exact ⟨rfl,rfl,trivial⟩
  conv=>whnf
  refine ⟨_,cO h44 (by rintro _ _ ⟨rfl,rfl⟩;exact ⟨rfl,rfl,trivial⟩),?_⟩
  conv=>whnf
  iterate 5 (refine dS ?_;(conv=>whnf))
  conv=>whnf
  obtain ⟨e,q1,q2,q3,q4,hra2⟩:=(hra.evo (S:=fun _=>False) (Evo.app X [(⟨43,(keyN 12).map bC,1⟩:PObj)]) id).add hA
  have hE:=hA.evo
  have hlt:=(List.getElem?_eq_some_iff.1 hx).1
  have hx2:X2[H.length+1]? = some (xringO l v):=hE.same _ _ hx1 (by show ¬H.length+1=H.length;omega) (xringT l v).1 (xringT l v).2
  have ho2:X2[X.length]? = some (⟨43,(keyN 12).map bC,1⟩:PObj):=hE.same _ _ (gL X _) (by show ¬X.length=H.length;omega) (fun h=>absurd (show 43=keyT from h) (by decide)) (fun h=>absurd (show 43=boxT from h) (by decide))
  have h45:=c45 hx2 (by omega) hkk e (by rw [q4];exact keyN_len _) (by rw [q1,q2,q3]) (by rw [q1];decide) (by rw [q2];decide)
  rw [q1,q2,q4,hR] at h45
  have hX3:xaddH X2 (H.length+1) v l e=X2.set (H.length+1) (xringO (l++[e]) (v+2)):=by unfold xaddH;rw [q1,q2,hb]
  rw [hX3] at h45
  have eX:(H++[ringO [] 0]).length=H.length+1:=by simp
  refine dO2 D16 [X2,X2.set (H.length+1) (xringO (l++[e]) (v+2))] (by kernel_rfl) ?_ trivial ?_
  ·exact rfl
  conv=>whnf
  iterate 3 (refine dS ?_;(conv=>whnf))
  apply Exists.intro
  apply And.intro
  ·conv=>whnf
   exact ⟨⟨show (0:Int)≤((2:Nat):Int) by decide,show ((2:Nat):Int)<5 by decide⟩,[.str edu,.str (krb aedu)],nmAt (x:=nm0[2]) rfl,rfl,rfl,trivial⟩
  conv=>whnf
  (refine dS ?_;(conv=>whnf))
  apply Exists.intro
  apply And.intro
  ·conv=>whnf
   ((conv in (_[_]?)=>tactic=>exact ho2);(conv=>whnf))
   exact ⟨rfl,rfl,trivial⟩
  conv=>whnf
  refine ⟨_,cA (args':=[.ptr (some (H.length+1,0)),.agg [.str edu,.str (krb aedu)],.agg ((keyN 12).map bC)]) (by rw [←eX];rfl) (cO h45 (by rintro _ _ ⟨rfl,rfl⟩;exact ⟨rfl,rfl,trivial⟩)),?_⟩
  conv=>whnf
  refine ⟨fun _=>?_,fun h=>absurd rfl h⟩
  conv=>whnf
  have eS:Evo (·=H.length+1) X2 (X2.set (H.length+1) (xringO (l++[e]) (v+2))):=Evo.setOther hx2 rfl (xringT l v).1 (xringT l v).2
  refine ⟨⟨2+1,X2.set (H.length+1) (xringO (l++[e]) (v+2))⟩,⟨(show 2+1≤5 by decide),⟨l++[e],v+2,hsm.snoc (x:=nm0[2]) rfl e q1 q2 (q3.trans (by rw [hno];rfl)) q4,hinc.snoc (by rw [q1,q2,q3]),hra2.evo eS (by show ¬H.length=H.length+1;omega),gS hx2⟩,
   ((hev.trans (Evo.app X [(⟨43,(keyN 12).map bC,1⟩:PObj)])).trans (hE.mono fun _ h=>.inl h)).trans (eS.mono fun _ h=>.inr h)⟩,⟨rfl,rfl,rfl,rfl,rfl,trivial⟩,rfl,(show 5 - (2+1)<5 - 2 by decide)⟩
 | 3,hk,hsm =>
  conv=>whnf
  refine ⟨fun _=>?_,fun h=>absurd (show ((3:Nat):Int)<5 by decide) h⟩
  conv=>whnf
  refine cA (args':=[bC 13]) rfl (cP (c19 13) ?_)
  conv=>whnf
  ((conv in (_[_]?)=>tactic=>exact gL X _);(conv=>whnf))
  refine dP2 (by kernel_rfl) ?_
  conv=>whnf
  iterate 2 (refine dS ?_;(conv=>whnf))
  apply Exists.intro
  apply And.intro
  ·conv=>whnf
   exact ⟨⟨show (0:Int)≤((3:Nat):Int) by decide,show ((3:Nat):Int)<5 by decide⟩,[.str aedu,.str (ann)],nmAt (x:=nm0[3]) rfl,rfl,rfl,trivial⟩
  conv=>whnf
  (refine dS ?_;(conv=>whnf))
  refine ⟨_,cP k2 ⟨rfl,rfl,trivial⟩,?_⟩
  conv=>whnf
  refine ⟨.bool false,?_,?_⟩
  ·conv=>whnf
   exact ⟨⟨fitBg _ _,fitBg _ _⟩,fun h=>absurd (prEq h) (by decide),fun _=>⟨rfl,rfl,trivial⟩⟩
  conv=>whnf
  obtain ⟨v1,hv1⟩:=(hra.evo (S:=fun _=>False) (Evo.app X [(⟨43,(keyN 13).map bC,1⟩:PObj)]) id).ex
  have hx1:(X++[(⟨43,(keyN 13).map bC,1⟩:PObj)])[H.length+1]? = some (xringO l v):=by rw [List.getElem?_append_left (List.getElem?_eq_some_iff.1 hx).1];exact hx
  have hno:lastE (isP aedu (ann)) l=none:=hsm.none (by decide)
  have hpr:isPrincB aedu (ann)=true:=by kernel_rfl
  obtain ⟨X2,hX2⟩:∃X2,X2=addH (X++[(⟨43,(keyN 13).map bC,1⟩:PObj)]) H.length v1 l aedu (ann) (keyN 13):=⟨_,rfl⟩
  have hl5:l.length≤4:=by have:=hsm.len hk;omega
  have hkk:∀e∈l,e.key.length=32∧e.kv≤1000:=fun e he=>⟨hra.klen e he,by obtain ⟨x,_,_,_,h3,_⟩:=hsm.mem he;omega⟩
  obtain ⟨hR,hb,hA⟩:=addY hv1 hl5 aedu (ann) (keyN 13) (keyN_len _) hpr hno
  rw [←hX2] at hA
  have h44:=c44 hv1 (by omega) hkk aedu (ann) (keyN 13) (keyN_len _) (by decide) (by decide)
  rw [hR,←hX2] at h44
  refine dO2 D15 [X++[(⟨43,(keyN 13).map bC,1⟩:PObj)],X2] (by kernel_rfl) ?_ trivial ?_
  ·exact (sL X _ _).symm
  conv=>whnf
  iterate 3 (refine dS ?_;(conv=>whnf))
  apply Exists.intro
  apply And.intro
  ·conv=>whnf
   exact ⟨⟨show (0:Int)≤((3:Nat):Int) by decide,show ((3:Nat):Int)<5 by decide⟩,[.str aedu,.str (ann)],nmAt (x:=nm0[3]) rfl,rfl,rfl,trivial⟩
  conv=>whnf
  (refine dS ?_;(conv=>whnf))
  apply Exists.intro
  apply And.intro
  ·conv=>whnf
   ((conv in (_[_]?)=>tactic=>exact gL X _);(conv=>whnf))
   exact ⟨rfl,rfl,trivial⟩
  conv=>whnf
  refine ⟨_,cO h44 (by rintro _ _ ⟨rfl,rfl⟩;exact ⟨rfl,rfl,trivial⟩),?_⟩
  conv=>whnf
  iterate 5 (refine dS ?_;(conv=>whnf))
  conv=>whnf
  obtain ⟨e,q1,q2,q3,q4,hra2⟩:=(hra.evo (S:=fun _=>False) (Evo.app X [(⟨43,(keyN 13).map bC,1⟩:PObj)]) id).add hA
  have hE:=hA.evo
  have hlt:=(List.getElem?_eq_some_iff.1 hx).1
  have hx2:X2[H.length+1]? = some (xringO l v):=hE.same _ _ hx1 (by show ¬H.length+1=H.length;omega) (xringT l v).1 (xringT l v).2
  have ho2:X2[X.length]? = some (⟨43,(keyN 13).map bC,1⟩:PObj):=hE.same _ _ (gL X _) (by show ¬X.length=H.length;omega) (fun h=>absurd (show 43=keyT from h) (by decide)) (fun h=>absurd (show 43=boxT from h) (by decide))
  have h45:=c45 hx2 (by omega) hkk e (by rw [q4];exact keyN_len _) (by rw [q1,q2,q3]) (by rw [q1];decide) (by rw [q2];decide)
  rw [q1,q2,q4,hR] at h45
  have hX3:xaddH X2 (H.length+1) v l e=X2.set (H.length+1) (xringO (l++[e]) (v+2)):=by unfold xaddH;rw [q1,q2,hb]
  rw [hX3] at h45
  have eX:(H++[ringO [] 0]).length=H.length+1:=by simp
  refine dO2 D16 [X2,X2.set (H.length+1) (xringO (l++[e]) (v+2))] (by kernel_rfl) ?_ trivial ?_
  ·exact rfl
  conv=>whnf
  iterate 3 (refine dS ?_;(conv=>whnf))
  apply Exists.intro
  apply And.intro
  ·conv=>whnf
   exact ⟨⟨show (0:Int)≤((3:Nat):Int) by decide,show ((3:Nat):Int)<5 by decide⟩,[.str aedu,.str (ann)],nmAt (x:=nm0[3]) rfl,rfl,rfl,trivial⟩
  conv=>whnf
  (refine dS ?_;(conv=>whnf))
  apply Exists.intro
  apply And.intro
  ·conv=>whnf
   ((conv in (_[_]?)=>tactic=>exact ho2);(conv=>whnf))
   exact ⟨rfl,rfl,trivial⟩
  conv=>whnf
  refine ⟨_,cA (args':=[.ptr (some (H.length+1,0)),.agg [.str aedu,.str (ann)],.agg ((keyN 13).map bC)]) (by rw [←eX];rfl) (cO h45 (by rintro _ _ ⟨rfl,rfl⟩;exact ⟨rfl,rfl,trivial⟩)),?_⟩
  conv=>whnf
  refine ⟨fun _=>?_,fun h=>absurd rfl h⟩
  conv=>whnf
  have eS:Evo (·=H.length+1) X2 (X2.set (H.length+1) (xringO (l++[e]) (v+2))):=Evo.setOther hx2 rfl (xringT l v).1 (xringT l v).2
  refine ⟨⟨3+1,X2.set (H.length+1) (xringO (l++[e]) (v+2))⟩,⟨(show 3+1≤5 by decide),⟨l++[e],v+2,hsm.snoc (x:=nm0[3]) rfl e q1 q2 (q3.trans (by rw [hno];rfl)) q4,hinc.snoc (by rw [q1,q2,q3]),hra2.evo eS (by show ¬H.length=H.length+1;omega),gS hx2⟩,
   ((hev.trans (Evo.app X [(⟨43,(keyN 13).map bC,1⟩:PObj)])).trans (hE.mono fun _ h=>.inl h)).trans (eS.mono fun _ h=>.inr h)⟩,⟨rfl,rfl,rfl,rfl,rfl,trivial⟩,rfl,(show 5 - (3+1)<5 - 3 by decide)⟩
 | 4,hk,hsm =>
  conv=>whnf
  refine ⟨fun _=>?_,fun h=>absurd (show ((4:Nat):Int)<5 by decide) h⟩
  conv=>whnf
  refine cA (args':=[bC 14]) rfl (cP (c19 14) ?_)
  conv=>whnf
  ((conv in (_[_]?)=>tactic=>exact gL X _);(conv=>whnf))
  refine dP2 (by kernel_rfl) ?_
  conv=>whnf
  iterate 2 (refine dS ?_;(conv=>whnf))
  apply Exists.intro
  apply And.intro
  ·conv=>whnf
   exact ⟨⟨show (0:Int)≤((4:Nat):Int) by decide,show ((4:Nat):Int)<5 by decide⟩,[.str aedu,.str (mail)],nmAt (x:=nm0[4]) rfl,rfl,rfl,trivial⟩
  conv=>whnf
  (refine dS ?_;(conv=>whnf))
  refine ⟨_,cP k2 ⟨rfl,rfl,trivial⟩,?_⟩
  conv=>whnf
  refine ⟨.bool false,?_,?_⟩
  ·conv=>whnf
   exact ⟨⟨fitBg _ _,fitBg _ _⟩,fun h=>absurd (prEq h) (by decide),fun _=>⟨rfl,rfl,trivial⟩⟩
  conv=>whnf
  obtain ⟨v1,hv1⟩:=(hra.evo (S:=fun _=>False) (Evo.app X [(⟨43,(keyN 14).map bC,1⟩:PObj)]) id).ex
  have hx1:(X++[(⟨43,(keyN 14).map bC,1⟩:PObj)])[H.length+1]? = some (xringO l v):=by rw [List.getElem?_append_left (List.getElem?_eq_some_iff.1 hx).1];exact hx
  have hno:lastE (isP aedu (mail)) l=none:=hsm.none (by decide)
  have hpr:isPrincB aedu (mail)=true:=by kernel_rfl
  obtain ⟨X2,hX2⟩:∃X2,X2=addH (X++[(⟨43,(keyN 14).map bC,1⟩:PObj)]) H.length v1 l aedu (mail) (keyN 14):=⟨_,rfl⟩
  have hl5:l.length≤4:=by have:=hsm.len hk;omega
  have hkk:∀e∈l,e.key.length=32∧e.kv≤1000:=fun e he=>⟨hra.klen e he,by obtain ⟨x,_,_,_,h3,_⟩:=hsm.mem he;omega⟩
  obtain ⟨hR,hb,hA⟩:=addY hv1 hl5 aedu (mail) (keyN 14) (keyN_len _) hpr hno
  rw [←hX2] at hA
  have h44:=c44 hv1 (by omega) hkk aedu (mail) (keyN 14) (keyN_len _) (by decide) (by decide)
  rw [hR,←hX2] at h44
  refine dO2 D15 [X++[(⟨43,(keyN 14).map bC,1⟩:PObj)],X2] (by kernel_rfl) ?_ trivial ?_
  ·exact (sL X _ _).symm
  conv=>whnf
  iterate 3 (refine dS ?_;(conv=>whnf))
  apply Exists.intro
  apply And.intro
  ·conv=>whnf
   exact ⟨⟨show (0:Int)≤((4:Nat):Int) by decide,show ((4:Nat):Int)<5 by decide⟩,[.str aedu,.str (mail)],nmAt (x:=nm0[4]) rfl,rfl,rfl,trivial⟩
  conv=>whnf
  (refine dS ?_;(conv=>whnf))
  apply Exists.intro
  apply And.intro
  ·conv=>whnf
   ((conv in (_[_]?)=>tactic=>exact gL X _);(conv=>whnf))
   exact ⟨rfl,rfl,trivial⟩
  conv=>whnf
  refine ⟨_,cO h44 (by rintro _ _ ⟨rfl,rfl⟩;exact ⟨rfl,rfl,trivial⟩),?_⟩
  conv=>whnf
  iterate 5 (refine dS ?_;(conv=>whnf))
  conv=>whnf
  obtain ⟨e,q1,q2,q3,q4,hra2⟩:=(hra.evo (S:=fun _=>False) (Evo.app X [(⟨43,(keyN 14).map bC,1⟩:PObj)]) id).add hA
  have hE:=hA.evo
  have hlt:=(List.getElem?_eq_some_iff.1 hx).1
  have hx2:X2[H.length+1]? = some (xringO l v):=hE.same _ _ hx1 (by show ¬H.length+1=H.length;omega) (xringT l v).1 (xringT l v).2
  have ho2:X2[X.length]? = some (⟨43,(keyN 14).map bC,1⟩:PObj):=hE.same _ _ (gL X _) (by show ¬X.length=H.length;omega) (fun h=>absurd (show 43=keyT from h) (by decide)) (fun h=>absurd (show 43=boxT from h) (by decide))
  have h45:=c45 hx2 (by omega) hkk e (by rw [q4];exact keyN_len _) (by rw [q1,q2,q3]) (by rw [q1];decide) (by rw [q2];decide)
  rw [q1,q2,q4,hR] at h45
  have hX3:xaddH X2 (H.length+1) v l e=X2.set (H.length+1) (xringO (l++[e]) (v+2)):=by unfold xaddH;rw [q1,q2,hb]
  rw [hX3] at h45
  have eX:(H++[ringO [] 0]).length=H.length+1:=by simp
  refine dO2 D16 [X2,X2.set (H.length+1) (xringO (l++[e]) (v+2))] (by kernel_rfl) ?_ trivial ?_
  ·exact rfl
  conv=>whnf
  iterate 3 (refine dS ?_;(conv=>whnf))
  apply Exists.intro
  apply And.intro
  ·conv=>whnf
   exact ⟨⟨show (0:Int)≤((4:Nat):Int) by decide,show ((4:Nat):Int)<5 by decide⟩,[.str aedu,.str (mail)],nmAt (x:=nm0[4]) rfl,rfl,rfl,trivial⟩
  conv=>whnf
  (refine dS ?_;(conv=>whnf))
  apply Exists.intro
  apply And.intro
  ·conv=>whnf
   ((conv in (_[_]?)=>tactic=>exact ho2);(conv=>whnf))
   exact ⟨rfl,rfl,trivial⟩
  conv=>whnf
  refine ⟨_,cA (args':=[.ptr (some (H.length+1,0)),.agg [.str aedu,.str (mail)],.agg ((keyN 14).map bC)]) (by rw [←eX];rfl) (cO h45 (by rintro _ _ ⟨rfl,rfl⟩;exact ⟨rfl,rfl,trivial⟩)),?_⟩
  conv=>whnf
  refine ⟨fun _=>?_,fun h=>absurd rfl h⟩
  conv=>whnf
  have eS:Evo (·=H.length+1) X2 (X2.set (H.length+1) (xringO (l++[e]) (v+2))):=Evo.setOther hx2 rfl (xringT l v).1 (xringT l v).2
  refine ⟨⟨4+1,X2.set (H.length+1) (xringO (l++[e]) (v+2))⟩,⟨(show 4+1≤5 by decide),⟨l++[e],v+2,hsm.snoc (x:=nm0[4]) rfl e q1 q2 (q3.trans (by rw [hno];rfl)) q4,hinc.snoc (by rw [q1,q2,q3]),hra2.evo eS (by show ¬H.length=H.length+1;omega),gS hx2⟩,
   ((hev.trans (Evo.app X [(⟨43,(keyN 14).map bC,1⟩:PObj)])).trans (hE.mono fun _ h=>.inl h)).trans (eS.mono fun _ h=>.inr h)⟩,⟨rfl,rfl,rfl,rfl,rfl,trivial⟩,rfl,(show 5 - (4+1)<5 - 4 by decide)⟩
 | 5,hk,hsm =>
  conv=>whnf
  refine ⟨fun h=>absurd h (show ¬((5:Nat):Int)<5 by decide),fun _=>?_⟩
  conv=>whnf
  refine cP c42 ?_
  conv=>whnf
  refine cO (c41 tree0 aedu (by decide) H.length 0 X) ?_
  rintro _ _ ⟨rfl,rfl⟩
  conv=>whnf
  refine cP c42 ?_
  conv=>whnf
  have his:∀r∈rs0,isRealmB r=true∧r.length≤1000:=by
   intro r hr
   have:(isRealmB r&&decide (r.length≤1000))=true:=by
    revert r
    rw [←List.all_eq_true (l:=rs0)]
    kernel_rfl
   simp only [Bool.and_eq_true,decide_eq_true_eq] at this
   exact this
  refine cO (c46 tree0 his aedu (by decide) (H++[ringO [] 0]).length 0 _) ?_
  rintro _ _ ⟨rfl,rfl⟩
  conv=>whnf
  refine ⟨fun _=>?_,fun h=>absurd rfl h⟩
  conv=>whnf
  have eX:(H++[ringO [] 0]).length=H.length+1:=by simp
  have g1:∀A B C:PObj,(X++[A]++[B]++[C])[X.length]? = some A:=fun A B C=>by simp
  have g2:∀A B C:PObj,(X++[A]++[B]++[C])[(X++[A]).length]? = some B:=fun A B C=>by simp
  have g3:∀A B C:PObj,(X++[A]++[B]++[C])[(X++[A]++[B]).length]? = some C:=fun A B C=>by simp
  have gE:∀A B C:PObj,Evo (fun _=>False) X (X++[A]++[B]++[C]):=fun A B C=>((Evo.app X [A]).trans (Evo.app _ [B])).trans (Evo.app _ [C])
  have hl:l.length=5:=hsm.len (Nat.le_refl 5)
  have eH:Evo (fun _=>False) H X:=by
   have h0:Evo (fun i=>(False∨i=H.length)∨i=H.length+1) H X:=(((Evo.app H [ringO [] 0]).trans (Evo.app _ [xringO [] 0])).trans (hev.mono fun _ h=>h.elim (fun h=>.inl (.inr h)) .inr))
   exact Evo.drop (S:=fun _=>False) (Evo.drop (S:=fun i=>False∨i=H.length) (a:=H.length+1) h0 (Nat.le_succ _)) (Nat.le_refl _)
  refine ⟨X.length,(X++[kdcO aedu (.slice 3 (rs0.map .str) none) (.slice 4 (ls0.flatMap prC) none) (.slice 0 [] none) H.length 0 0 0]).length,_,l,v,rfl,hsm,hinc,⟨hra.evo (gE _ _ _) id,by omega,⟨0,g1 _ _ _⟩⟩,?_,(gE _ _ _).same _ _ hx id (xringT l v).1 (xringT l v).2,g3 _ _ _,eH.trans (gE _ _ _)⟩
  rw [←eX]
  exact g2 _ _ _
set_option maxHeartbeats 8000000
def asMsg (q:AsQ):Msg:={ mZ with kind:=1,a1:=q.cr,a2:=q.cn,a3:=q.sr,a4:=q.sn,aTill:=q.till,aNonce:=q.nonce }
theorem asMsg_is (q:AsQ):isB (asMsg q)=q.ok:=by
 have h:isB (asMsg q)=((isPrincB q.cr q.cn&&isPrincB q.sr q.sn&&inZ q.till 0 1073741824&&inZ q.nonce 0 1073741824)&&othersB (asMsg q)):=rfl
 have h2:othersB (asMsg q)=true:=rfl
 rw [h,h2,Bool.and_true];rfl
theorem asMsg_len (q:AsQ) (h:q.ok=true):(laidB (asMsg q)).length≤2000:=by
 unfold AsQ.ok at h
 simp only [Bool.and_eq_true] at h
 have g1:=princ_len h.1.1.1
 have g2:=princ_len h.1.1.2
 have h0:=wrapB_len 106 [princE q.cr q.cn,princE q.sr q.sn,intE q.till,intE q.nonce].flatten
 have e1:=princE_len q.cr q.cn
 have e2:=princE_len q.sr q.sn
 have e3:=intE_len q.till
 have e4:=intE_len q.nonce
 simp only [List.flatten_cons,List.flatten_nil,List.length_append,List.length_nil] at h0
 show (wrapB 106 [princE q.cr q.cn,princE q.sr q.sn,intE q.till,intE q.nonce].flatten).length≤2000
 simp only [List.flatten_cons,List.flatten_nil]
 omega
theorem encAs_yes (q:AsQ) (h:q.ok=true):encV (asMsg q)=.tup [sl (laidB (asMsg q)),.int .i64 0]:=encV_yes ⟨(asMsg_is q).trans h,asMsg_len q h⟩
theorem encAs_no (q:AsQ) (h:q.ok=false):encV (asMsg q)=.tup [.slice 0 [] (some 5),.int .i64 1]:=encV_no fun hh=>by rw [asMsg_is q,h] at hh;exact absurd hh.1 (by decide)
theorem c50x {H:PH} {kid rid:Nat} {realm:List UInt8} {rs ls ps:PV} {n i:Int} {v:Nat} (hv:H[kid]? = some (kdcO realm rs ls ps rid n i v)) (r:List UInt8) (hr:r.length≤1000000) :
  CK prog 50 [.ptr (some (kid,0)),.str r] H fun x H'=>x=.agg [.str realm,.str (krb r)]∧∃ext,H'=H++ext:=by
 have hv2:∀o,(H++[o])[kid]? = some (kdcO realm rs ls ps rid n i v):=fun o=>by rw [List.getElem?_append_left (List.getElem?_eq_some_iff.1 hv).1];exact hv
 (refine fnS (imm:=imm50) ttK_ok func50 ?_;(conv=>whnf))
 refine drawK_tail 6 {} [H++[(⟨25,[.str [],.str []],0⟩:PObj)]] (by kernel_rfl) rfl trivial ?_
 conv=>whnf
 iterate 3 (refine dS ?_;(conv=>whnf))
 apply Exists.intro
 apply And.intro
 ·conv=>whnf
  ((conv in (_[_]?)=>tactic=>exact hv2 _);(conv=>whnf))
  exact ⟨rfl,rfl,trivial⟩
 conv=>whnf
 (refine dS ?_;(conv=>whnf))
 refine ⟨_,cP (c105 r (by omega)) ⟨rfl,rfl,trivial⟩,?_⟩
 conv=>whnf
 ((conv in (_[_]?)=>tactic=>exact gL H _);(conv=>whnf))
 ((conv in (_[_]?)=>tactic=>exact (show ((H++[_]).set H.length _)[H.length]? = some _ from List.getElem?_set_self (by simp)));(conv=>whnf))
 refine ⟨rfl,[⟨25,[.str realm,.str (krb r)],1⟩],?_⟩
 show (H++[_]).set H.length _=_
 rw [sL];rfl
theorem c50 {H:PH} {kid rid:Nat} {realm:List UInt8} {rs ls ps:PV} {n i:Int} {v:Nat} (hv:H[kid]? = some (kdcO realm rs ls ps rid n i v)) (r:List UInt8) (hr:r.length≤1000000) :
  CK prog 50 [.ptr (some (kid,0)),.str r] H fun x H'=>x=.agg [.str realm,.str (krb r)]∧H'=H :=
 ((c50x hv r hr).gc fun r H' hh=>⟨by rw [hh.1];rfl,hh.2⟩).mono fun x H' hh=>⟨hh.2.elim fun _ h=>h.1,hh.1⟩
theorem fitK (a b:List UInt8):FitP ttK 6 25 [.str a,.str b]:=⟨rfl,⟨by show 1≤2;omega,a,rfl⟩,rfl,⟨by show 1≤1;omega,b,rfl⟩,rfl⟩
theorem two_eq {a b c d:List UInt8} (h:[PV.str a,.str b]=[.str c,.str d]):a=c∧b=d:=by
 injection h with h1 h2
 injection h1 with h1
 injection h2 with h2 _
 injection h2 with h2
 exact ⟨h1,h2⟩
theorem two_eq' {a b c d:List UInt8} (h:a=c∧b=d):[PV.str a,.str b]=[.str c,.str d]:=by rw [h.1,h.2]
structure AsQ.fit (q:AsQ):Prop where
 cr:q.cr.length≤1000000
 cn:q.cn.length≤1000000
 sr:q.sr.length≤1000000
 sn:q.sn.length≤1000000
set_option maxHeartbeats 4000000
theorem c51d {H:PH} {kid rid:Nat} {realm:List UInt8} {rs ls ps:PV} {l:List Ent} {n i:Nat} (hK:Kd H kid rid realm rs ls ps l n i) (hn:n≤100000) (hi:i≤100000)
  (sr sn:List UInt8) (hsr:sr.length≤1000000) (hsn:sn.length≤1000000) (p:Prt) (hr:p.r.length≤1000000) (hpn:p.n.length≤1000000) (ht:p.tr.length≤1000000) (nonce:Int) (bid:Nat) (bkey:List UInt8) (hb:BoxAt H bid bkey) (u:Int) (hu:isUseB u=true) :
  ∃H1,(Kd H1 kid rid realm rs ls ps l (bump (makeV l n sr sn p nonce bkey u) n 2) (bump (makeV l n sr sn p nonce bkey u) i 1)∧Evo (·=kid) H H1∧H1.length=H.length+1)∧CK prog 51 [.ptr (some (kid,0)),.agg ([.str sr,.str sn]++p.cells++[.int .i64 nonce,.ptr (some (bid,0)),.int .i64 u])] H fun x H' =>
   x=.tup [.agg (makeV l n sr sn p nonce bkey u).1.cells,.int .i64 (makeV l n sr sn p nonce bkey u).2]∧H'=H1:=by
 have e1:Evo (fun _=>False) H (H++[ansO]):=Evo.app H _
 have hK1:=hK.evo e1 id id
 have hb1:=e1.box _ _ hb
 have hlt:kid<H.length:=by obtain ⟨v,hv⟩:=hK.k;exact (List.getElem?_eq_some_iff.1 hv).1
 have hne:H.length≠kid:=by omega
 have ha:(H++[ansO])[H.length]? = some ansO:=gL H _
 obtain ⟨v1,hv1⟩:=hK1.k
 have hrl:rid<H.length:=by have:=hK.ring.ex.choose_spec;exact (List.getElem?_eq_some_iff.1 this).1
 have hg:=lastGet hK1.ring (by have:=hK1.len;omega) sr sn
 have hEp:=c106s p hr hpn ht
 have hEr:=c107s (rptOf p sr sn nonce) hsr hsn
 unfold makeV
 cases hL:lastE (isP sr sn) l with
 | none =>
  rw [hL] at hg
  have w:∃o,CK prog 51 [.ptr (some (kid,0)),.agg ([.str sr,.str sn]++p.cells++[.int .i64 nonce,.ptr (some (bid,0)),.int .i64 u])] H fun x H'=>x=.tup [.agg (repZ).cells,.int .i64 4]∧H'=(H++[ansO]).set H.length o:=by
   apply Exists.intro
   (refine fnS (imm:=imm51) ttK_ok func51 ?_;(conv=>whnf))
   refine dP2 (by kernel_rfl) ?_
   conv=>whnf
   iterate 3 (refine dS ?_;(conv=>whnf))
   apply Exists.intro
   apply And.intro
   ·conv=>whnf
    ((conv in (_[_]?)=>tactic=>exact hv1);(conv=>whnf))
    exact ⟨rfl,rfl,trivial⟩
   conv=>whnf
   iterate 2 (refine dS ?_;(conv=>whnf))
   refine ⟨_,cO hg (by rintro _ _ ⟨rfl,rfl⟩;exact ⟨rfl,rfl,trivial⟩),?_⟩
   conv=>whnf
   iterate 7 (refine dS ?_;(conv=>whnf))
   refine ⟨fun h=>absurd h (by decide),fun _=>?_⟩
   conv=>whnf
   ((conv in (_[_]?)=>tactic=>exact ha);(conv=>whnf))
   ((conv in (_[_]?)=>tactic=>exact (show ((H++[ansO]).set H.length _)[H.length]? = some _ from gS ha));(conv=>whnf))
   exact ⟨rfl,rfl⟩
  obtain ⟨o,ho⟩:=w
  have e2:Evo (fun i=>i=kid∨i=H.length) (H++[ansO]) ((H++[ansO]).set H.length o):=Evo.setOther ha (.inr rfl) ansT.1 ansT.2
  have e3:Evo (fun i=>i=H.length) (H++[ansO]) ((H++[ansO]).set H.length o):=Evo.setOther ha rfl ansT.1 ansT.2
  exact ⟨_,⟨hK1.evo e3 (Ne.symm hne) (by show ¬rid=H.length;omega),((e1.mono fun _ h=>h.elim).trans e2).drop (Nat.le_refl _),by simp⟩,ho⟩
 | some e =>
  rw [hL] at hg
  cases hP:isPartB p with
  | false =>
   rw [(ePrt p).2 hP] at hEp
   have w:∃o,CK prog 51 [.ptr (some (kid,0)),.agg ([.str sr,.str sn]++p.cells++[.int .i64 nonce,.ptr (some (bid,0)),.int .i64 u])] H fun x H'=>x=.tup [.agg (repZ).cells,.int .i64 2]∧H'=(H++[ansO]).set H.length o:=by
    apply Exists.intro
    (refine fnS (imm:=imm51) ttK_ok func51 ?_;(conv=>whnf))
    refine dP2 (by kernel_rfl) ?_
    conv=>whnf
    iterate 3 (refine dS ?_;(conv=>whnf))
    apply Exists.intro
    apply And.intro
    ·conv=>whnf
     ((conv in (_[_]?)=>tactic=>exact hv1);(conv=>whnf))
     exact ⟨rfl,rfl,trivial⟩
    conv=>whnf
    iterate 2 (refine dS ?_;(conv=>whnf))
    refine ⟨_,cO hg (by rintro _ _ ⟨rfl,rfl⟩;exact ⟨rfl,rfl,trivial⟩),?_⟩
    conv=>whnf
    iterate 7 (refine dS ?_;(conv=>whnf))
    refine ⟨fun _=>?_,fun h=>absurd rfl h⟩
    conv=>whnf
    refine cP hEp ?_
    conv=>whnf
    refine cP hEr ?_
    conv=>whnf
    refine ⟨fun h=>absurd h (by decide),fun _=>?_⟩
    conv=>whnf
    ((conv in (_[_]?)=>tactic=>exact ha);(conv=>whnf))
    ((conv in (_[_]?)=>tactic=>exact (show ((H++[ansO]).set H.length _)[H.length]? = some _ from gS ha));(conv=>whnf))
    exact ⟨rfl,rfl⟩
   obtain ⟨o,ho⟩:=w
   have e2:Evo (fun i=>i=kid∨i=H.length) (H++[ansO]) ((H++[ansO]).set H.length o):=Evo.setOther ha (.inr rfl) ansT.1 ansT.2
   have e3:Evo (fun i=>i=H.length) (H++[ansO]) ((H++[ansO]).set H.length o):=Evo.setOther ha rfl ansT.1 ansT.2
   exact ⟨_,⟨hK1.evo e3 (Ne.symm hne) (by show ¬rid=H.length;omega),((e1.mono fun _ h=>h.elim).trans e2).drop (Nat.le_refl _),by simp⟩,ho⟩
  | true =>
   cases hR:isRptB (rptOf p sr sn nonce) with
   | false =>
    rw [((ePrt p).1 hP).1,((ePrt p).1 hP).2] at hEp
    rw [(eRpt _).2 hR] at hEr
    have w:∃o,CK prog 51 [.ptr (some (kid,0)),.agg ([.str sr,.str sn]++p.cells++[.int .i64 nonce,.ptr (some (bid,0)),.int .i64 u])] H fun x H'=>x=.tup [.agg (repZ).cells,.int .i64 2]∧H'=(H++[ansO]).set H.length o:=by
     apply Exists.intro
     (refine fnS (imm:=imm51) ttK_ok func51 ?_;(conv=>whnf))
     refine dP2 (by kernel_rfl) ?_
     conv=>whnf
     iterate 3 (refine dS ?_;(conv=>whnf))
     apply Exists.intro
     apply And.intro
     ·conv=>whnf
      ((conv in (_[_]?)=>tactic=>exact hv1);(conv=>whnf))
      exact ⟨rfl,rfl,trivial⟩
     conv=>whnf
     iterate 2 (refine dS ?_;(conv=>whnf))
     refine ⟨_,cO hg (by rintro _ _ ⟨rfl,rfl⟩;exact ⟨rfl,rfl,trivial⟩),?_⟩
     conv=>whnf
     iterate 7 (refine dS ?_;(conv=>whnf))
     refine ⟨fun _=>?_,fun h=>absurd rfl h⟩
     conv=>whnf
     refine cP hEp ?_
     conv=>whnf
     refine cP hEr ?_
     conv=>whnf
     refine ⟨fun _=>?_,fun h=>absurd rfl h⟩
     conv=>whnf
     refine ⟨fun h=>absurd h (by decide),fun _=>?_⟩
     conv=>whnf
     ((conv in (_[_]?)=>tactic=>exact ha);(conv=>whnf))
     ((conv in (_[_]?)=>tactic=>exact (show ((H++[ansO]).set H.length _)[H.length]? = some _ from gS ha));(conv=>whnf))
     exact ⟨rfl,rfl⟩
    obtain ⟨o,ho⟩:=w
    have e2:Evo (fun i=>i=kid∨i=H.length) (H++[ansO]) ((H++[ansO]).set H.length o):=Evo.setOther ha (.inr rfl) ansT.1 ansT.2
    have e3:Evo (fun i=>i=H.length) (H++[ansO]) ((H++[ansO]).set H.length o):=Evo.setOther ha rfl ansT.1 ansT.2
    exact ⟨_,⟨hK1.evo e3 (Ne.symm hne) (by show ¬rid=H.length;omega),((e1.mono fun _ h=>h.elim).trans e2).drop (Nat.le_refl _),by simp⟩,ho⟩
   | true =>
    rw [((ePrt p).1 hP).1,((ePrt p).1 hP).2] at hEp
    rw [((eRpt _).1 hR).1,((eRpt _).1 hR).2] at hEr
    have hP7:=partL_784 hP
    have hR7:=rptL_784 hR
    have hP0:=Nat.zero_lt_of_ne_zero (show (partL p).length≠0 from Nat.succ_ne_zero _)
    have hR0:=Nat.zero_lt_of_ne_zero (show (rptL (rptOf p sr sn nonce)).length≠0 from Nat.succ_ne_zero _)
    show ∃H1,(Kd H1 kid rid realm rs ls ps l (n+2) (i+1)∧Evo (·=kid) H H1∧H1.length=H.length+1)∧CK prog 51 [.ptr (some (kid,0)),.agg ([.str sr,.str sn]++p.cells++[.int .i64 nonce,.ptr (some (bid,0)),.int .i64 u])] H fun x H' =>
     x=.tup [.agg (RepO.cells ⟨p.r,p.n,sr,sn,e.kv,sealK e.key 2 (n+1:Int) (partL p),sealK bkey u (n+2:Int) (rptL (rptOf p sr sn nonce))⟩),.int .i64 0]∧H'=H1
    generalize partL p=pb at *
    generalize rptL (rptOf p sr sn nonce)=rb at *
    have hbx:=hK1.ring.box e (lastE_mem hL)
    have hw1:((n:Int)+1)=((n+1:Nat):Int):=by push_cast;rfl
    have hw2:((n:Int)+2)=((n+2:Nat):Int):=by push_cast;rfl
    obtain ⟨hK2,e2⟩:=hK1.put (n+1) i (v1+1)
    obtain ⟨H3,e3,l3,hc3⟩:=sealX (e2.box _ _ hbx) 2 ((n+1:Nat):Int) rfl (by omega) (by omega) pb hP7 hP0
    have hK3:=hK2.evo e3 id id
    have hb3:=e3.box _ _ (e2.box _ _ hb1)
    obtain ⟨v3,hv3⟩:=hK3.k
    obtain ⟨hK4,e4⟩:=hK3.put (n+2) i (v3+1)
    obtain ⟨H5,e5,l5,hc5⟩:=sealX (e4.box _ _ hb3) u ((n+2:Nat):Int) hu (by omega) (by omega) rb hR7 hR0
    have hK5:=hK4.evo e5 id id
    obtain ⟨v5,hv5⟩:=hK5.k
    obtain ⟨hK6,e6⟩:=hK5.put (n+2) (i+1) (v5+1)
    have e16:Evo (·=kid) (H++[ansO]) (H5.set kid (kdcO realm rs ls ps rid ((n+2:Nat):Int) ((i+1:Nat):Int) (v5+1))):=(((e2.trans (e3.mono fun _ h=>h.elim)).trans e4).trans (e5.mono fun _ h=>h.elim)).trans e6
    have ha6:=e16.same _ _ ha hne ansT.1 ansT.2
    have w:∃o,CK prog 51 [.ptr (some (kid,0)),.agg ([.str sr,.str sn]++p.cells++[.int .i64 nonce,.ptr (some (bid,0)),.int .i64 u])] H fun x H'=>x=.tup [.agg (RepO.cells ⟨p.r,p.n,sr,sn,e.kv,sealK e.key 2 (n+1:Int) pb,sealK bkey u (n+2:Int) rb⟩),.int .i64 0]∧H'=(H5.set kid (kdcO realm rs ls ps rid ((n+2:Nat):Int) ((i+1:Nat):Int) (v5+1))).set H.length o:=by
     apply Exists.intro
     (refine fnS (imm:=imm51) ttK_ok func51 ?_;(conv=>whnf))
     refine dP2 (by kernel_rfl) ?_
     conv=>whnf
     iterate 3 (refine dS ?_;(conv=>whnf))
     apply Exists.intro
     apply And.intro
     ·conv=>whnf
      ((conv in (_[_]?)=>tactic=>exact hv1);(conv=>whnf))
      exact ⟨rfl,rfl,trivial⟩
     conv=>whnf
     iterate 2 (refine dS ?_;(conv=>whnf))
     refine ⟨_,cO hg (by rintro _ _ ⟨rfl,rfl⟩;exact ⟨rfl,rfl,trivial⟩),?_⟩
     conv=>whnf
     iterate 7 (refine dS ?_;(conv=>whnf))
     refine ⟨fun _=>?_,fun h=>absurd rfl h⟩
     conv=>whnf
     refine cP hEp ?_
     conv=>whnf
     refine cP hEr ?_
     conv=>whnf
     refine ⟨fun _=>?_,fun h=>absurd rfl h⟩
     conv=>whnf
     refine ⟨fun _=>?_,fun h=>absurd rfl h⟩
     conv=>whnf
     refine cO (c109x hv1 (by omega)) ?_
     rintro _ _ ⟨rfl,rfl⟩
     conv=>whnf
     refine cO hc3 ?_
     rintro _ _ ⟨hx3,hH3⟩
     rw [hx3,hH3];clear hx3 hH3
     conv=>whnf
     refine dO2 D51 [H3,H3.set kid (kdcO realm rs ls ps rid ((n+2:Nat):Int) i (v3+1)),H5] (by kernel_rfl) rfl trivial ?_
     conv=>whnf
     iterate 4 (refine dS2 ?_;(conv=>whnf))
     (refine dS ?_;(conv=>whnf))
     refine ⟨.int .i64 ((n+2:Nat):Int),?_,?_⟩
     ·conv=>whnf
      refine cO (c109x hv3 (by omega)) ?_
      rintro _ _ ⟨rfl,rfl⟩
      exact ⟨rfl,rfl,trivial⟩
     conv=>whnf
     (refine dS2 ?_;(conv=>whnf))
     refine ⟨_,cO hc5 (by rintro _ _ ⟨rfl,rfl⟩;exact ⟨rfl,rfl,trivial⟩),?_⟩
     conv=>whnf
     iterate 5 (refine dS ?_;(conv=>whnf))
     conv=>whnf
     refine cO (c110 (off:=6) (n:=i) 1 hv5 rfl) ?_
     rintro _ H6 ⟨rfl,hH6⟩
     have hwi:IntKind.i64.wrap ((i:Int)+1)=((i+1:Nat):Int):=by rw [w64 (by omega) (by omega)];rfl
     have hk6:(⟨(kdcO realm rs ls ps rid ((n+2:Nat):Int) i v5).T,setCells 6 [.int .i64 (IntKind.i64.wrap ((i:Int)+1))] (kdcO realm rs ls ps rid ((n+2:Nat):Int) i v5).cs,(kdcO realm rs ls ps rid ((n+2:Nat):Int) i v5).ver+1⟩:PObj)=kdcO realm rs ls ps rid ((n+2:Nat):Int) ((i+1:Nat):Int) (v5+1):=by
      rw [hwi];rfl
     replace hH6:H6=H5.set kid (kdcO realm rs ls ps rid ((n+2:Nat):Int) ((i+1:Nat):Int) (v5+1)):=hH6.trans (congrArg (fun o=>H5.set kid o) hk6)
     rw [hH6];clear hH6 H6
     conv=>whnf
     ((conv in (_[_]?)=>tactic=>exact ha6);(conv=>whnf))
     ((conv in (_[_]?)=>tactic=>exact (show ((H5.set kid (kdcO realm rs ls ps rid ((n+2:Nat):Int) ((i+1:Nat):Int) (v5+1))).set H.length _)[H.length]? = some _ from gS ha6));(conv=>whnf))
     exact ⟨rfl,rfl⟩
    obtain ⟨o,ho⟩:=w
    have e7:Evo (fun i=>i=H.length) (H5.set kid (kdcO realm rs ls ps rid ((n+2:Nat):Int) ((i+1:Nat):Int) (v5+1))) ((H5.set kid (kdcO realm rs ls ps rid ((n+2:Nat):Int) ((i+1:Nat):Int) (v5+1))).set H.length o):=Evo.setOther ha6 rfl ansT.1 ansT.2
    exact ⟨_,⟨hK6.evo e7 (Ne.symm hne) (by show ¬rid=H.length;omega),Evo.drop (S:=(·=kid)) (((e1.mono fun _ h=>h.elim).trans (e16.mono fun _ h=>.inl h)).trans (e7.mono fun _ h=>.inr h)) (Nat.le_refl _),by simp [l3,l5]⟩,ho⟩
set_option maxHeartbeats 8000000
theorem c16g {H:PH} {kid rid:Nat} {realm:List UInt8} {rs ls ps:PV} {l:List Ent} {n i:Nat} (hK:Kd H kid rid realm rs ls ps l n i) (hn:n≤100000) (hi:i≤100000) (hrl:realm.length≤1000000)
  (q:AsQ) (hf:q.fit) (now:Int) (draw:Nat→UInt8) (hl:lateB now=false) (hq:q.ok=true) (c s:Ent) (hC:lastE (isP q.cr q.cn) l=some c) (hS:lastE (isP q.sr q.sn) l=some s)
  (hcr:q.cr=realm) (hs:q.sr=realm∧q.sn=krb realm) (ht:¬q.till<now) :
  ∃H1,(Kd H1 kid rid realm rs ls ps l (bump (makeV l n q.sr q.sn (asPart q now draw) q.nonce c.key 3) n 2) (bump (makeV l n q.sr q.sn (asPart q now draw) q.nonce c.key 3) i 1)∧Evo (·=kid) H H1∧H1.length=H.length+3)∧CK prog 16 [.ptr (some (kid,0)),.agg q.cells,.int .i64 now,.agg (keyC draw)] H fun x H' =>
   x=.tup [.agg (makeV l n q.sr q.sn (asPart q now draw) q.nonce c.key 3).1.cells,.int .i64 (makeV l n q.sr q.sn (asPart q now draw) q.nonce c.key 3).2]∧H'=H1:=by
 have e1:Evo (fun _=>False) H (H++[ansO]):=Evo.app H _
 have hK1:=hK.evo e1 id id
 have hlt:kid<H.length:=by obtain ⟨v,hv⟩:=hK.k;exact (List.getElem?_eq_some_iff.1 hv).1
 have hrlt:rid<H.length:=by have:=hK.ring.ex.choose_spec;exact (List.getElem?_eq_some_iff.1 this).1
 have hne:H.length≠kid:=by omega
 have ha:(H++[ansO])[H.length]? = some ansO:=gL H _
 obtain ⟨v1,hv1⟩:=hK1.k
 have hfit:(asMsg q).fits:=by
  obtain ⟨f1,f2,f3,f4⟩:=hf
  unfold Msg.fits asMsg mZ
  exact ⟨by show q.cr.length≤_;omega,by show q.cn.length≤_;omega,by show q.sr.length≤_;omega,by show q.sn.length≤_;omega,Nat.zero_le _,Nat.zero_le _,Nat.zero_le _,Nat.zero_le _,Nat.zero_le _,Nat.zero_le _,Nat.zero_le _,Nat.zero_le _,Nat.zero_le _,Nat.zero_le _⟩
 have hgC:=lastGet hK1.ring (by have:=hK1.len;omega) q.cr q.cn
 have hgS:=lastGet hK1.ring (by have:=hK1.len;omega) q.sr q.sn
 rw [hC] at hgC
 rw [hS] at hgS
 have hnow:0≤now∧now≤1073741824:=by
  unfold lateB at hl
  rw [Bool.or_eq_false_iff,decide_eq_false_iff_not,decide_eq_false_iff_not] at hl
  omega
 have hw:IntKind.i64.wrap (now+1000)=now+1000:=w64 (by omega) (by omega)
 have hp:asPart q now draw=⟨q.cr,q.cn,draw,[],now,min q.till (IntKind.i64.wrap (now+1000))⟩:=by unfold asPart;rw [hw]
 have e2:Evo (fun _=>False) (H++[ansO]) ((H++[ansO])++[⟨50,(asPart q now draw).cells,1⟩]):=Evo.app _ _
 have hK2:=hK1.evo e2 id id
 obtain ⟨H6,⟨hK6,e6,l6⟩,h51⟩:=c51d hK2 hn hi q.sr q.sn hf.sr hf.sn (asPart q now draw) hf.cr hf.cn (Nat.zero_le _) q.nonce c.box c.key (hK2.ring.box c (lastE_mem hC)) 3 rfl
 have hset5:∀x:PObj,CK prog 51 [.ptr (some (kid,0)),.agg ([.str q.sr,.str q.sn]++(asPart q now draw).cells++[.int .i64 q.nonce,.ptr (some (c.box,0)),.int .i64 3])] (((H++[ansO])++[x]).set (H++[ansO]).length (⟨50,(⟨q.cr,q.cn,draw,[],now,min q.till (IntKind.i64.wrap (now+1000))⟩:Prt).cells,1⟩:PObj)) fun x H'=>x=.tup [.agg (makeV l n q.sr q.sn (asPart q now draw) q.nonce c.key 3).1.cells,.int .i64 (makeV l n q.sr q.sn (asPart q now draw) q.nonce c.key 3).2]∧H'=H6:=fun x=>by
  rw [sL,←hp];exact h51
 have ha2:((H++[ansO])++[(⟨50,(asPart q now draw).cells,1⟩:PObj)])[H.length]? = some ansO:=by rw [List.getElem?_append_left (by simp)];exact ha
 have ha6:H6[H.length]? = some ansO:=e6.same _ _ ha2 hne ansT.1 ansT.2
 have w:∃o,CK prog 16 [.ptr (some (kid,0)),.agg q.cells,.int .i64 now,.agg (keyC draw)] H fun x H'=>x=.tup [.agg (makeV l n q.sr q.sn (asPart q now draw) q.nonce c.key 3).1.cells,.int .i64 (makeV l n q.sr q.sn (asPart q now draw) q.nonce c.key 3).2]∧H'=H6.set H.length o:=by
  apply Exists.intro
  (refine fnS (imm:=imm16) ttK_ok func16 ?_;(conv=>whnf))
  refine cP ((c47 (asMsg q) hfit).of_eq (encAs_yes q hq)) ?_
  conv=>whnf
  refine cP (c48 now) ?_
  rw [hl]
  conv=>whnf
  refine ⟨fun _=>?_,fun h=>absurd rfl h⟩
  conv=>whnf
  refine dP2 (by kernel_rfl) ?_
  conv=>whnf
  iterate 3 (refine dS ?_;(conv=>whnf))
  apply Exists.intro
  apply And.intro
  ·conv=>whnf
   ((conv in (_[_]?)=>tactic=>exact hv1);(conv=>whnf))
   exact ⟨rfl,rfl,trivial⟩
  conv=>whnf
  iterate 2 (refine dS ?_;(conv=>whnf))
  refine ⟨_,cO hgC (by rintro _ _ ⟨rfl,rfl⟩;exact ⟨rfl,rfl,trivial⟩),?_⟩
  conv=>whnf
  iterate 7 (refine dS ?_;(conv=>whnf))
  refine dP2 (by kernel_rfl) ?_
  conv=>whnf
  iterate 3 (refine dS ?_;(conv=>whnf))
  apply Exists.intro
  apply And.intro
  ·conv=>whnf
   ((conv in (_[_]?)=>tactic=>exact hv1);(conv=>whnf))
   exact ⟨rfl,rfl,trivial⟩
  conv=>whnf
  iterate 2 (refine dS ?_;(conv=>whnf))
  refine ⟨_,cO hgS (by rintro _ _ ⟨rfl,rfl⟩;exact ⟨rfl,rfl,trivial⟩),?_⟩
  conv=>whnf
  iterate 7 (refine dS ?_;(conv=>whnf))
  refine dP2 (by kernel_rfl) ?_
  conv=>whnf
  iterate 6 (refine dS ?_;(conv=>whnf))
  apply Exists.intro
  apply And.intro
  ·conv=>whnf
   ((conv in (_[_]?)=>tactic=>exact hv1);(conv=>whnf))
   exact ⟨rfl,rfl,trivial⟩
  conv=>whnf
  refine ⟨.bool false,?_,?_⟩
  ·conv=>whnf
   exact ⟨fun h=>⟨rfl,rfl,trivial⟩,fun h=>absurd hcr h⟩
  conv=>whnf
  iterate 2 (refine dS ?_;(conv=>whnf))
  refine ⟨.bool false,?_,?_⟩
  ·conv=>whnf
   exact ⟨fun h=>⟨rfl,rfl,trivial⟩,fun h=>absurd rfl h⟩
  conv=>whnf
  iterate 2 (refine dS ?_;(conv=>whnf))
  conv=>whnf
  refine dP2 (by kernel_rfl) ?_
  conv=>whnf
  iterate 6 (refine dS ?_;(conv=>whnf))
  apply Exists.intro
  apply And.intro
  ·conv=>whnf
   ((conv in (_[_]?)=>tactic=>exact hv1);(conv=>whnf))
   exact ⟨rfl,rfl,trivial⟩
  conv=>whnf
  refine ⟨_,cO (c50 hv1 realm hrl) (by rintro _ _ ⟨rfl,rfl⟩;exact ⟨rfl,rfl,trivial⟩),?_⟩
  conv=>whnf
  refine ⟨.bool false,?_,?_⟩
  ·conv=>whnf
   exact ⟨⟨fitK _ _,fitK _ _⟩,fun h=>⟨rfl,rfl,trivial⟩,fun h=>absurd (two_eq' hs) h⟩
  conv=>whnf
  iterate 2 (refine dS ?_;(conv=>whnf))
  refine ⟨.bool false,?_,?_⟩
  ·conv=>whnf
   exact ⟨fun h=>⟨rfl,rfl,trivial⟩,fun h=>absurd rfl h⟩
  conv=>whnf
  iterate 2 (refine dS ?_;(conv=>whnf))
  conv=>whnf
  refine ⟨fun h=>absurd h ht,fun h=>?_⟩
  conv=>whnf
  ((conv in (_[_]?)=>tactic=>exact (gL (H++[ansO]) _));(conv=>whnf))
  ((conv in (_[_]?)=>tactic=>exact (show (((H++[ansO])++[_]).set (H++[ansO]).length _)[(H++[ansO]).length]? = some _ from gS (gL (H++[ansO]) _)));(conv=>whnf))
  refine cA (args':=[.ptr (some (kid,0)),.agg ([.str q.sr,.str q.sn]++(asPart q now draw).cells++[.int .i64 q.nonce,.ptr (some (c.box,0)),.int .i64 3])]) (by rw [hp];rfl) ?_
  refine cO (H:=(((H++[ansO])++[_]).set (H++[ansO]).length _)) ((hset5 ⟨50,[.str [],.str []]++List.replicate 32 (.int .u8 0)++[.str [],.int .i64 0,.int .i64 0],0⟩)) ?_
  rintro _ _ ⟨hx6,hH6⟩
  rw [hx6,hH6];clear hx6 hH6
  conv=>whnf
  ((conv in (_[_]?)=>tactic=>exact ha6);(conv=>whnf))
  ((conv in (_[_]?)=>tactic=>exact (show (H6.set H.length _)[H.length]? = some _ from gS ha6));(conv=>whnf))
  exact ⟨rfl,rfl⟩
 obtain ⟨o,ho⟩:=w
 have e7:Evo (fun i=>i=H.length) H6 (H6.set H.length o):=Evo.setOther ha6 rfl ansT.1 ansT.2
 exact ⟨_,⟨hK6.evo e7 (Ne.symm hne) (by show ¬rid=H.length;omega),Evo.drop (S:=(·=kid)) ((((e1.mono fun _ h=>h.elim).trans (e2.mono fun _ h=>h.elim)).trans (e6.mono fun _ h=>.inl h)).trans (e7.mono fun _ h=>.inr h)) (Nat.le_refl _),by simp [l6]⟩,ho⟩
def E30:PObj:=⟨30,[.str [],.str [],.str [],.str [],.int .i64 0,.slice 0 [] (some 5),.slice 0 [] (some 5)],1⟩
theorem c16b {H:PH} {kid rid:Nat} {realm:List UInt8} {rs ls ps:PV} {l:List Ent} {n i:Nat} (hK:Kd H kid rid realm rs ls ps l n i) (hn:n≤100000) (hi:i≤100000) (hrl:realm.length≤1000000)
  (q:AsQ) (hf:q.fit) (now:Int) (draw:Nat→UInt8) (hng:¬(lateB now=false∧q.ok=true∧(∃c,lastE (isP q.cr q.cn) l=some c)∧(∃s,lastE (isP q.sr q.sn) l=some s)∧q.cr=realm∧(q.sr=realm∧q.sn=krb realm)∧¬q.till<now)) :
  CK prog 16 [.ptr (some (kid,0)),.agg q.cells,.int .i64 now,.agg (keyC draw)] H fun x H'=>x=.tup [.agg (asV realm l n q now draw).1.cells,.int .i64 (asV realm l n q now draw).2]∧H'=(H++[ansO]).set H.length E30:=by
 have e1:Evo (fun _=>False) H (H++[ansO]):=Evo.app H _
 have hK1:=hK.evo e1 id id
 have hlt:kid<H.length:=by obtain ⟨v,hv⟩:=hK.k;exact (List.getElem?_eq_some_iff.1 hv).1
 have hrlt:rid<H.length:=by have:=hK.ring.ex.choose_spec;exact (List.getElem?_eq_some_iff.1 this).1
 have hne:H.length≠kid:=by omega
 have ha:(H++[ansO])[H.length]? = some ansO:=gL H _
 obtain ⟨v1,hv1⟩:=hK1.k
 obtain ⟨r,hr⟩:∃r,r=asV realm l n q now draw:=⟨_,rfl⟩
 rw [←hr]
 have bad:∀(e:Int),r=(repZ,e)∧e≠0→(PV.tup [.agg [.str [],.str [],.str [],.str [],.int .i64 0,.slice 0 [] none,.slice 0 [] none],.int .i64 e]=PV.tup [.agg r.1.cells,.int .i64 r.2]) ∧
   (H++[ansO]).set H.length E30=(H++[ansO]).set H.length E30:=fun e he=>⟨by rw [he.1];rfl,rfl⟩
 have hfit:(asMsg q).fits:=by
  obtain ⟨f1,f2,f3,f4⟩:=hf
  unfold Msg.fits asMsg mZ
  exact ⟨by show q.cr.length≤_;omega,by show q.cn.length≤_;omega,by show q.sr.length≤_;omega,by show q.sn.length≤_;omega,Nat.zero_le _,Nat.zero_le _,Nat.zero_le _,Nat.zero_le _,Nat.zero_le _,Nat.zero_le _,Nat.zero_le _,Nat.zero_le _,Nat.zero_le _,Nat.zero_le _⟩
 (refine fnS (imm:=imm16) ttK_ok func16 ?_;(conv=>whnf))
 cases hq:q.ok with
 | false =>
  have hr1:r=(repZ,1):=by rw [hr];unfold asV;rw [hq,Bool.not_false,Bool.or_true]
  refine cP ((c47 (asMsg q) hfit).of_eq (encAs_no q hq)) ?_
  conv=>whnf
  refine cP (c48 now) ?_
  cases hl:lateB now with
  | true =>
   conv=>whnf
   ((conv in (_[_]?)=>tactic=>exact ha);(conv=>whnf))
   ((conv in (_[_]?)=>tactic=>exact (show ((H++[ansO]).set H.length _)[H.length]? = some _ from gS ha));(conv=>whnf))
   exact bad 1 (by exact ⟨hr1,by decide⟩)
  | false =>
   conv=>whnf
   refine ⟨fun h=>absurd h (by decide),fun _=>?_⟩
   conv=>whnf
   ((conv in (_[_]?)=>tactic=>exact ha);(conv=>whnf))
   ((conv in (_[_]?)=>tactic=>exact (show ((H++[ansO]).set H.length _)[H.length]? = some _ from gS ha));(conv=>whnf))
   exact bad 1 (by exact ⟨hr1,by decide⟩)
 | true =>
  refine cP ((c47 (asMsg q) hfit).of_eq (encAs_yes q hq)) ?_
  conv=>whnf
  refine cP (c48 now) ?_
  cases hl:lateB now with
  | true =>
   have hr1:r=(repZ,1):=by rw [hr];unfold asV;rw [hl,Bool.true_or]
   conv=>whnf
   ((conv in (_[_]?)=>tactic=>exact ha);(conv=>whnf))
   ((conv in (_[_]?)=>tactic=>exact (show ((H++[ansO]).set H.length _)[H.length]? = some _ from gS ha));(conv=>whnf))
   exact bad 1 (by exact ⟨hr1,by decide⟩)
  | false =>
   have hr0:r=match lastE (isP q.cr q.cn) l with
     | none=>(repZ,5)
     | some c=>match decide (q.cr=realm) with
      | false=>(repZ,5)
      | true=>match lastE (isP q.sr q.sn) l with
       | none=>(repZ,6)
       | some s=>match decide (q.sr=realm∧q.sn=krb realm) with
        | false=>(repZ,6)
        | true=>match decide (q.till<now) with
         | true=>(repZ,7)
         | false=>makeV l n q.sr q.sn (asPart q now draw) q.nonce c.key 3:=by rw [hr];unfold asV;rw [hl,hq];rfl
   clear hr
   conv=>whnf
   refine ⟨fun _=>?_,fun h=>absurd rfl h⟩
   conv=>whnf
   have hgC:=lastGet hK1.ring (by have:=hK1.len;omega) q.cr q.cn
   have hgS:=lastGet hK1.ring (by have:=hK1.len;omega) q.sr q.sn
   cases hC:lastE (isP q.cr q.cn) l with
   | none =>
    rw [hC] at hgC hr0
    have hr5:r=(repZ,5)∧(5:Int)≠0:=⟨hr0,by decide⟩
    refine dP2 (by kernel_rfl) ?_
    conv=>whnf
    iterate 3 (refine dS ?_;(conv=>whnf))
    apply Exists.intro
    apply And.intro
    ·conv=>whnf
     ((conv in (_[_]?)=>tactic=>exact hv1);(conv=>whnf))
     exact ⟨rfl,rfl,trivial⟩
    conv=>whnf
    iterate 2 (refine dS ?_;(conv=>whnf))
    refine ⟨_,cO hgC (by rintro _ _ ⟨rfl,rfl⟩;exact ⟨rfl,rfl,trivial⟩),?_⟩
    conv=>whnf
    iterate 7 (refine dS ?_;(conv=>whnf))
    cases hS:lastE (isP q.sr q.sn) l with
    | none =>
     rw [hS] at hgS
     refine dP2 (by kernel_rfl) ?_
     conv=>whnf
     iterate 3 (refine dS ?_;(conv=>whnf))
     apply Exists.intro
     apply And.intro
     ·conv=>whnf
      ((conv in (_[_]?)=>tactic=>exact hv1);(conv=>whnf))
      exact ⟨rfl,rfl,trivial⟩
     conv=>whnf
     iterate 2 (refine dS ?_;(conv=>whnf))
     refine ⟨_,cO hgS (by rintro _ _ ⟨rfl,rfl⟩;exact ⟨rfl,rfl,trivial⟩),?_⟩
     conv=>whnf
     iterate 7 (refine dS ?_;(conv=>whnf))
     by_cases hcr:q.cr=realm
     ·refine dP2 (by kernel_rfl) ?_
      conv=>whnf
      iterate 6 (refine dS ?_;(conv=>whnf))
      apply Exists.intro
      apply And.intro
      ·conv=>whnf
       ((conv in (_[_]?)=>tactic=>exact hv1);(conv=>whnf))
       exact ⟨rfl,rfl,trivial⟩
      conv=>whnf
      refine ⟨.bool false,?_,?_⟩
      ·conv=>whnf
       exact ⟨fun h=>⟨rfl,rfl,trivial⟩,fun h=>absurd hcr h⟩
      conv=>whnf
      iterate 2 (refine dS ?_;(conv=>whnf))
      refine ⟨.bool true,?_,?_⟩
      ·conv=>whnf
       exact ⟨fun h=>absurd h (by decide),fun h=>⟨rfl,rfl,trivial⟩⟩
      conv=>whnf
      iterate 2 (refine dS ?_;(conv=>whnf))
      conv=>whnf
      ((conv in (_[_]?)=>tactic=>exact ha);(conv=>whnf))
      ((conv in (_[_]?)=>tactic=>exact (show ((H++[ansO]).set H.length _)[H.length]? = some _ from gS ha));(conv=>whnf))
      exact bad 5 (by exact hr5)
     ·refine dP2 (by kernel_rfl) ?_
      conv=>whnf
      iterate 6 (refine dS ?_;(conv=>whnf))
      apply Exists.intro
      apply And.intro
      ·conv=>whnf
       ((conv in (_[_]?)=>tactic=>exact hv1);(conv=>whnf))
       exact ⟨rfl,rfl,trivial⟩
      conv=>whnf
      refine ⟨.bool true,?_,?_⟩
      ·conv=>whnf
       exact ⟨fun h=>absurd h hcr,fun h=>⟨rfl,rfl,trivial⟩⟩
      conv=>whnf
      iterate 5 (refine dS ?_;(conv=>whnf))
      conv=>whnf
      ((conv in (_[_]?)=>tactic=>exact ha);(conv=>whnf))
      ((conv in (_[_]?)=>tactic=>exact (show ((H++[ansO]).set H.length _)[H.length]? = some _ from gS ha));(conv=>whnf))
      exact bad 5 (by exact hr5)
    | some s =>
     rw [hS] at hgS
     refine dP2 (by kernel_rfl) ?_
     conv=>whnf
     iterate 3 (refine dS ?_;(conv=>whnf))
     apply Exists.intro
     apply And.intro
     ·conv=>whnf
      ((conv in (_[_]?)=>tactic=>exact hv1);(conv=>whnf))
      exact ⟨rfl,rfl,trivial⟩
     conv=>whnf
     iterate 2 (refine dS ?_;(conv=>whnf))
     refine ⟨_,cO hgS (by rintro _ _ ⟨rfl,rfl⟩;exact ⟨rfl,rfl,trivial⟩),?_⟩
     conv=>whnf
     iterate 7 (refine dS ?_;(conv=>whnf))
     by_cases hcr:q.cr=realm
     ·refine dP2 (by kernel_rfl) ?_
      conv=>whnf
      iterate 6 (refine dS ?_;(conv=>whnf))
      apply Exists.intro
      apply And.intro
      ·conv=>whnf
       ((conv in (_[_]?)=>tactic=>exact hv1);(conv=>whnf))
       exact ⟨rfl,rfl,trivial⟩
      conv=>whnf
      refine ⟨.bool false,?_,?_⟩
      ·conv=>whnf
       exact ⟨fun h=>⟨rfl,rfl,trivial⟩,fun h=>absurd hcr h⟩
      conv=>whnf
      iterate 2 (refine dS ?_;(conv=>whnf))
      refine ⟨.bool true,?_,?_⟩
      ·conv=>whnf
       exact ⟨fun h=>absurd h (by decide),fun h=>⟨rfl,rfl,trivial⟩⟩
      conv=>whnf
      iterate 2 (refine dS ?_;(conv=>whnf))
      conv=>whnf
      ((conv in (_[_]?)=>tactic=>exact ha);(conv=>whnf))
      ((conv in (_[_]?)=>tactic=>exact (show ((H++[ansO]).set H.length _)[H.length]? = some _ from gS ha));(conv=>whnf))
      exact bad 5 (by exact hr5)
     ·refine dP2 (by kernel_rfl) ?_
      conv=>whnf
      iterate 6 (refine dS ?_;(conv=>whnf))
      apply Exists.intro
      apply And.intro
      ·conv=>whnf
       ((conv in (_[_]?)=>tactic=>exact hv1);(conv=>whnf))
       exact ⟨rfl,rfl,trivial⟩
      conv=>whnf
      refine ⟨.bool true,?_,?_⟩
      ·conv=>whnf
       exact ⟨fun h=>absurd h hcr,fun h=>⟨rfl,rfl,trivial⟩⟩
      conv=>whnf
      iterate 5 (refine dS ?_;(conv=>whnf))
      conv=>whnf
      ((conv in (_[_]?)=>tactic=>exact ha);(conv=>whnf))
      ((conv in (_[_]?)=>tactic=>exact (show ((H++[ansO]).set H.length _)[H.length]? = some _ from gS ha));(conv=>whnf))
      exact bad 5 (by exact hr5)
   | some c =>
    rw [hC] at hgC hr0
    refine dP2 (by kernel_rfl) ?_
    conv=>whnf
    iterate 3 (refine dS ?_;(conv=>whnf))
    apply Exists.intro
    apply And.intro
    ·conv=>whnf
     ((conv in (_[_]?)=>tactic=>exact hv1);(conv=>whnf))
     exact ⟨rfl,rfl,trivial⟩
    conv=>whnf
    iterate 2 (refine dS ?_;(conv=>whnf))
    refine ⟨_,cO hgC (by rintro _ _ ⟨rfl,rfl⟩;exact ⟨rfl,rfl,trivial⟩),?_⟩
    conv=>whnf
    iterate 7 (refine dS ?_;(conv=>whnf))
    cases hS:lastE (isP q.sr q.sn) l with
    | none =>
     rw [hS] at hgS hr0
     refine dP2 (by kernel_rfl) ?_
     conv=>whnf
     iterate 3 (refine dS ?_;(conv=>whnf))
     apply Exists.intro
     apply And.intro
     ·conv=>whnf
      ((conv in (_[_]?)=>tactic=>exact hv1);(conv=>whnf))
      exact ⟨rfl,rfl,trivial⟩
     conv=>whnf
     iterate 2 (refine dS ?_;(conv=>whnf))
     refine ⟨_,cO hgS (by rintro _ _ ⟨rfl,rfl⟩;exact ⟨rfl,rfl,trivial⟩),?_⟩
     conv=>whnf
     iterate 7 (refine dS ?_;(conv=>whnf))
     by_cases hcr:q.cr=realm
     ·rw [decide_eq_true hcr] at hr0
      have hr6:r=(repZ,6)∧(6:Int)≠0:=⟨hr0,by decide⟩
      refine dP2 (by kernel_rfl) ?_
      conv=>whnf
      iterate 6 (refine dS ?_;(conv=>whnf))
      apply Exists.intro
      apply And.intro
      ·conv=>whnf
       ((conv in (_[_]?)=>tactic=>exact hv1);(conv=>whnf))
       exact ⟨rfl,rfl,trivial⟩
      conv=>whnf
      refine ⟨.bool false,?_,?_⟩
      ·conv=>whnf
       exact ⟨fun h=>⟨rfl,rfl,trivial⟩,fun h=>absurd hcr h⟩
      conv=>whnf
      iterate 2 (refine dS ?_;(conv=>whnf))
      refine ⟨.bool false,?_,?_⟩
      ·conv=>whnf
       exact ⟨fun h=>⟨rfl,rfl,trivial⟩,fun h=>absurd rfl h⟩
      conv=>whnf
      iterate 2 (refine dS ?_;(conv=>whnf))
      conv=>whnf
      refine dP2 (by kernel_rfl) ?_
      conv=>whnf
      iterate 6 (refine dS ?_;(conv=>whnf))
      apply Exists.intro
      apply And.intro
      ·conv=>whnf
       ((conv in (_[_]?)=>tactic=>exact hv1);(conv=>whnf))
       exact ⟨rfl,rfl,trivial⟩
      conv=>whnf
      refine ⟨_,cO (c50 hv1 realm hrl) (by rintro _ _ ⟨rfl,rfl⟩;exact ⟨rfl,rfl,trivial⟩),?_⟩
      conv=>whnf
      by_cases hs:q.sr=realm∧q.sn=krb realm
      ·refine ⟨.bool false,?_,?_⟩
       ·conv=>whnf
        exact ⟨⟨fitK _ _,fitK _ _⟩,fun h=>⟨rfl,rfl,trivial⟩,fun h=>absurd (two_eq' hs) h⟩
       conv=>whnf
       iterate 2 (refine dS ?_;(conv=>whnf))
       refine ⟨.bool true,?_,?_⟩
       ·conv=>whnf
        exact ⟨fun h=>absurd h (by decide),fun h=>⟨rfl,rfl,trivial⟩⟩
       conv=>whnf
       iterate 2 (refine dS ?_;(conv=>whnf))
       conv=>whnf
       ((conv in (_[_]?)=>tactic=>exact ha);(conv=>whnf))
       ((conv in (_[_]?)=>tactic=>exact (show ((H++[ansO]).set H.length _)[H.length]? = some _ from gS ha));(conv=>whnf))
       exact bad 6 (by exact hr6)
      ·refine ⟨.bool true,?_,?_⟩
       ·conv=>whnf
        exact ⟨⟨fitK _ _,fitK _ _⟩,fun h=>absurd (two_eq h) hs,fun h=>⟨rfl,rfl,trivial⟩⟩
       conv=>whnf
       iterate 5 (refine dS ?_;(conv=>whnf))
       conv=>whnf
       ((conv in (_[_]?)=>tactic=>exact ha);(conv=>whnf))
       ((conv in (_[_]?)=>tactic=>exact (show ((H++[ansO]).set H.length _)[H.length]? = some _ from gS ha));(conv=>whnf))
       exact bad 6 (by exact hr6)
     ·rw [decide_eq_false hcr] at hr0
      have hr5:r=(repZ,5)∧(5:Int)≠0:=⟨hr0,by decide⟩
      refine dP2 (by kernel_rfl) ?_
      conv=>whnf
      iterate 6 (refine dS ?_;(conv=>whnf))
      apply Exists.intro
      apply And.intro
      ·conv=>whnf
       ((conv in (_[_]?)=>tactic=>exact hv1);(conv=>whnf))
       exact ⟨rfl,rfl,trivial⟩
      conv=>whnf
      refine ⟨.bool true,?_,?_⟩
      ·conv=>whnf
       exact ⟨fun h=>absurd h hcr,fun h=>⟨rfl,rfl,trivial⟩⟩
      conv=>whnf
      iterate 5 (refine dS ?_;(conv=>whnf))
      conv=>whnf
      ((conv in (_[_]?)=>tactic=>exact ha);(conv=>whnf))
      ((conv in (_[_]?)=>tactic=>exact (show ((H++[ansO]).set H.length _)[H.length]? = some _ from gS ha));(conv=>whnf))
      exact bad 5 (by exact hr5)
    | some s =>
     rw [hS] at hgS hr0
     refine dP2 (by kernel_rfl) ?_
     conv=>whnf
     iterate 3 (refine dS ?_;(conv=>whnf))
     apply Exists.intro
     apply And.intro
     ·conv=>whnf
      ((conv in (_[_]?)=>tactic=>exact hv1);(conv=>whnf))
      exact ⟨rfl,rfl,trivial⟩
     conv=>whnf
     iterate 2 (refine dS ?_;(conv=>whnf))
     refine ⟨_,cO hgS (by rintro _ _ ⟨rfl,rfl⟩;exact ⟨rfl,rfl,trivial⟩),?_⟩
     conv=>whnf
     iterate 7 (refine dS ?_;(conv=>whnf))
     by_cases hcr:q.cr=realm
     ·rw [decide_eq_true hcr] at hr0
      refine dP2 (by kernel_rfl) ?_
      conv=>whnf
      iterate 6 (refine dS ?_;(conv=>whnf))
      apply Exists.intro
      apply And.intro
      ·conv=>whnf
       ((conv in (_[_]?)=>tactic=>exact hv1);(conv=>whnf))
       exact ⟨rfl,rfl,trivial⟩
      conv=>whnf
      refine ⟨.bool false,?_,?_⟩
      ·conv=>whnf
       exact ⟨fun h=>⟨rfl,rfl,trivial⟩,fun h=>absurd hcr h⟩
      conv=>whnf
      iterate 2 (refine dS ?_;(conv=>whnf))
      refine ⟨.bool false,?_,?_⟩
      ·conv=>whnf
       exact ⟨fun h=>⟨rfl,rfl,trivial⟩,fun h=>absurd rfl h⟩
      conv=>whnf
      iterate 2 (refine dS ?_;(conv=>whnf))
      conv=>whnf
      refine dP2 (by kernel_rfl) ?_
      conv=>whnf
      iterate 6 (refine dS ?_;(conv=>whnf))
      apply Exists.intro
      apply And.intro
      ·conv=>whnf
       ((conv in (_[_]?)=>tactic=>exact hv1);(conv=>whnf))
       exact ⟨rfl,rfl,trivial⟩
      conv=>whnf
      refine ⟨_,cO (c50 hv1 realm hrl) (by rintro _ _ ⟨rfl,rfl⟩;exact ⟨rfl,rfl,trivial⟩),?_⟩
      conv=>whnf
      by_cases hs:q.sr=realm∧q.sn=krb realm
      ·rw [decide_eq_true hs] at hr0
       refine ⟨.bool false,?_,?_⟩
       ·conv=>whnf
        exact ⟨⟨fitK _ _,fitK _ _⟩,fun h=>⟨rfl,rfl,trivial⟩,fun h=>absurd (two_eq' hs) h⟩
       conv=>whnf
       iterate 2 (refine dS ?_;(conv=>whnf))
       refine ⟨.bool false,?_,?_⟩
       ·conv=>whnf
        exact ⟨fun h=>⟨rfl,rfl,trivial⟩,fun h=>absurd rfl h⟩
       conv=>whnf
       iterate 2 (refine dS ?_;(conv=>whnf))
       by_cases ht:q.till<now
       ·rw [decide_eq_true ht] at hr0
        have hr7:r=(repZ,7)∧(7:Int)≠0:=⟨hr0,by decide⟩
        conv=>whnf
        refine ⟨fun h=>?_,fun h=>absurd ht h⟩
        conv=>whnf
        ((conv in (_[_]?)=>tactic=>exact ha);(conv=>whnf))
        ((conv in (_[_]?)=>tactic=>exact (show ((H++[ansO]).set H.length _)[H.length]? = some _ from gS ha));(conv=>whnf))
        exact bad 7 (by exact hr7)
       ·exact absurd ⟨hl,hq,⟨c,hC⟩,⟨s,hS⟩,hcr,hs,ht⟩ hng
      ·rw [decide_eq_false hs] at hr0
       have hr6:r=(repZ,6)∧(6:Int)≠0:=⟨hr0,by decide⟩
       refine ⟨.bool true,?_,?_⟩
       ·conv=>whnf
        exact ⟨⟨fitK _ _,fitK _ _⟩,fun h=>absurd (two_eq h) hs,fun h=>⟨rfl,rfl,trivial⟩⟩
       conv=>whnf
       iterate 5 (refine dS ?_;(conv=>whnf))
       conv=>whnf
       ((conv in (_[_]?)=>tactic=>exact ha);(conv=>whnf))
       ((conv in (_[_]?)=>tactic=>exact (show ((H++[ansO]).set H.length _)[H.length]? = some _ from gS ha));(conv=>whnf))
       exact bad 6 (by exact hr6)
     ·rw [decide_eq_false hcr] at hr0
      have hr5:r=(repZ,5)∧(5:Int)≠0:=⟨hr0,by decide⟩
      refine dP2 (by kernel_rfl) ?_
      conv=>whnf
      iterate 6 (refine dS ?_;(conv=>whnf))
      apply Exists.intro
      apply And.intro
      ·conv=>whnf
       ((conv in (_[_]?)=>tactic=>exact hv1);(conv=>whnf))
       exact ⟨rfl,rfl,trivial⟩
      conv=>whnf
      refine ⟨.bool true,?_,?_⟩
      ·conv=>whnf
       exact ⟨fun h=>absurd h hcr,fun h=>⟨rfl,rfl,trivial⟩⟩
      conv=>whnf
      iterate 5 (refine dS ?_;(conv=>whnf))
      conv=>whnf
      ((conv in (_[_]?)=>tactic=>exact ha);(conv=>whnf))
      ((conv in (_[_]?)=>tactic=>exact (show ((H++[ansO]).set H.length _)[H.length]? = some _ from gS ha));(conv=>whnf))
      exact bad 5 (by exact hr5)
set_option maxHeartbeats 1000000
theorem asV_good {realm:List UInt8} {l:List Ent} {n:Int} {q:AsQ} {now:Int} {draw:Nat→UInt8} (hl:lateB now=false) (hq:q.ok=true) {c s:Ent} (hC:lastE (isP q.cr q.cn) l=some c) (hS:lastE (isP q.sr q.sn) l=some s)
  (hcr:q.cr=realm) (hs:q.sr=realm∧q.sn=krb realm) (ht:¬q.till<now):asV realm l n q now draw=makeV l n q.sr q.sn (asPart q now draw) q.nonce c.key 3:=by
 unfold asV
 rw [hl,hq,hC,hS,decide_eq_true hcr,decide_eq_true hs,decide_eq_false ht]
 rfl
theorem asV_bad {realm:List UInt8} {l:List Ent} {n:Int} {q:AsQ} {now:Int} {draw:Nat→UInt8}
  (hng:¬(lateB now=false∧q.ok=true∧(∃c,lastE (isP q.cr q.cn) l=some c)∧(∃s,lastE (isP q.sr q.sn) l=some s)∧q.cr=realm∧(q.sr=realm∧q.sn=krb realm)∧¬q.till<now)) :
  (asV realm l n q now draw).2≠0:=by
 unfold asV
 cases hl:lateB now with
 | true=>rw [Bool.true_or];show (1:Int)≠0;decide
 | false =>
  cases hq:q.ok with
  | false=>show (1:Int)≠0;decide
  | true =>
   cases hC:lastE (isP q.cr q.cn) l with
   | none=>show (5:Int)≠0;decide
   | some c =>
    by_cases hcr:q.cr=realm
    ·rw [decide_eq_true hcr]
     cases hS:lastE (isP q.sr q.sn) l with
     | none=>show (6:Int)≠0;decide
     | some s =>
      by_cases hs:q.sr=realm∧q.sn=krb realm
      ·rw [decide_eq_true hs]
       by_cases ht:q.till<now
       ·rw [decide_eq_true ht];show (7:Int)≠0;decide
       ·exact absurd ⟨hl,hq,⟨c,hC⟩,⟨s,hS⟩,hcr,hs,ht⟩ hng
      ·rw [decide_eq_false hs];show (6:Int)≠0;decide
    ·rw [decide_eq_false hcr];show (5:Int)≠0;decide
theorem c16d {H:PH} {kid rid:Nat} {realm:List UInt8} {rs ls ps:PV} {l:List Ent} {n i:Nat} (hK:Kd H kid rid realm rs ls ps l n i) (hn:n≤100000) (hi:i≤100000) (hrl:realm.length≤1000000)
  (q:AsQ) (hf:q.fit) (now:Int) (draw:Nat→UInt8) :
  ∃H1,(Kd H1 kid rid realm rs ls ps l (bump (asV realm l n q now draw) n 2) (bump (asV realm l n q now draw) i 1)∧Evo (·=kid) H H1) ∧
   CK prog 16 [.ptr (some (kid,0)),.agg q.cells,.int .i64 now,.agg (keyC draw)] H fun x H'=>x=.tup [.agg (asV realm l n q now draw).1.cells,.int .i64 (asV realm l n q now draw).2]∧H'=H1:=by
 by_cases hg:lateB now=false∧q.ok=true∧(∃c,lastE (isP q.cr q.cn) l=some c)∧(∃s,lastE (isP q.sr q.sn) l=some s)∧q.cr=realm∧(q.sr=realm∧q.sn=krb realm)∧¬q.till<now
 ·obtain ⟨hl,hq,⟨c,hC⟩,⟨s,hS⟩,hcr,hs,ht⟩:=hg
  rw [asV_good hl hq hC hS hcr hs ht]
  obtain ⟨H1,⟨h1,h2,_⟩,h3⟩:=c16g hK hn hi hrl q hf now draw hl hq c s hC hS hcr hs ht
  exact ⟨H1,⟨h1,h2⟩,h3⟩
 ·have hb:=c16b hK hn hi hrl q hf now draw hg
  have h0:=asV_bad (n:=(n:Int)) (draw:=draw) hg
  have hbump:∀m k,bump (asV realm l n q now draw) m k=m:=fun m k=>by unfold bump;exact if_neg h0
  rw [hbump,hbump]
  have e1:Evo (fun _=>False) H (H++[ansO]):=Evo.app H _
  have ha:(H++[ansO])[H.length]? = some ansO:=gL H _
  have hlt:kid<H.length:=by obtain ⟨v,hv⟩:=hK.k;exact (List.getElem?_eq_some_iff.1 hv).1
  have hrlt:rid<H.length:=by have:=hK.ring.ex.choose_spec;exact (List.getElem?_eq_some_iff.1 this).1
  have e2:Evo (fun i=>i=kid∨i=H.length) (H++[ansO]) ((H++[ansO]).set H.length E30):=Evo.setOther ha (.inr rfl) ansT.1 ansT.2
  have e3:Evo (fun i=>i=H.length) (H++[ansO]) ((H++[ansO]).set H.length E30):=Evo.setOther ha rfl ansT.1 ansT.2
  exact ⟨_,⟨(hK.evo e1 id id).evo e3 (by show ¬kid=H.length;omega) (by show ¬rid=H.length;omega),((e1.mono fun _ h=>h.elim).trans e2).drop (Nat.le_refl _)⟩,hb⟩
set_option maxHeartbeats 4000000
theorem Small.some {l:List Ent} (h:Small l 5) {x:Pr×UInt8} (hx:x∈nm0):∃e,lastE (isP x.1.1 x.1.2) l=some e∧e.kv=1∧e.key=keyN x.2∧e.r=x.1.1∧e.n=x.1.2:=by
 have hx5:x∈nm0.take 5:=hx
 have hm:(x.1.1,x.1.2,1,keyN x.2)∈l.map (fun e=>(e.r,e.n,e.kv,e.key)):=by
  rw [show l.map (fun e=>(e.r,e.n,e.kv,e.key))=_ from h]
  exact List.mem_map.2 ⟨x,hx5,rfl⟩
 obtain ⟨e0,he0,hh⟩:=List.mem_map.1 hm
 injection hh with h1 h2
 injection h2 with h2 h3
 injection h3 with h3 h4
 cases he:lastE (isP x.1.1 x.1.2) l with
 | none =>
  have:=List.find?_eq_none.1 he e0 (List.mem_reverse.2 he0)
  exact absurd (isP_iff.2 ⟨h1,h2⟩) this
 | some e =>
  have h5:isP x.1.1 x.1.2 e=true:=by
   have:=List.find?_some he
   exact this
  obtain ⟨a,b⟩:=isP_iff.1 h5
  obtain ⟨y,hy,e1,e2,e3,e4⟩:=h.mem (lastE_mem he)
  refine ⟨e,rfl,e3,?_,a,b⟩
  have hxy:(nm0.all fun y=>nm0.all fun x=>!(decide (y.1=x.1))||decide (y.2=x.2))=true:=by decide
  have:=List.all_eq_true.1 (List.all_eq_true.1 hxy y hy) x hx
  have hyx:y.1=x.1:=Prod.ext (e1.symm.trans a) (e2.symm.trans b)
  rw [decide_eq_true hyx,Bool.not_true,Bool.false_or] at this
  rw [e4,of_decide_eq_true this]
def draw1:Nat→UInt8:=fun i=>match i with
 | 0=>1
 | _=>0
def qK1:AsQ:=⟨aedu,ann,aedu,krb aedu,50,3⟩
def qK2:AsQ:=⟨aedu,mail,aedu,ann,50,0⟩
theorem as1 {l:List Ent} (h:Small l 5) (n:Int):(asV aedu l n qK1 5 draw1).2=0∧(asV aedu l n qK1 5 draw1).1.kv=1:=by
 obtain ⟨c,hC,_⟩:=h.some (x:=((aedu,ann),13)) (by decide)
 obtain ⟨s,hS,hk,_⟩:=h.some (x:=((aedu,krb aedu),10)) (by decide)
 rw [show asV aedu l n qK1 5 draw1=_ from asV_good (realm:=aedu) (q:=qK1) (by decide) (by kernel_rfl) hC hS rfl ⟨rfl,rfl⟩ (by decide)]
 unfold makeV
 rw [show lastE (isP qK1.sr qK1.sn) l=Option.some s from hS]
 have hP:(isPartB (asPart qK1 5 draw1)&&isRptB (rptOf (asPart qK1 5 draw1) qK1.sr qK1.sn qK1.nonce))=true:=by kernel_rfl
 simp only [hP]
 exact ⟨trivial,by show (s.kv:Int)=1;rw [hk];rfl⟩
theorem as2 {l:List Ent} (h:Small l 5) (n:Int):(asV aedu l n qK2 5 draw1).2=6:=by
 obtain ⟨c,hC,_⟩:=h.some (x:=((aedu,mail),14)) (by decide)
 obtain ⟨s,hS,hk,_⟩:=h.some (x:=((aedu,ann),13)) (by decide)
 unfold asV
 rw [show lateB 5=false by decide,show qK2.ok=true by kernel_rfl,show lastE (isP qK2.cr qK2.cn) l=Option.some c from hC,show lastE (isP qK2.sr qK2.sn) l=Option.some s from hS]
 rfl
def ttKw:TT:=[(3,⟨.int .i64,1,8,[.int .i64 0]⟩),(4,⟨.bool,1,1,[.bool false]⟩),(5,⟨.int .u8,1,1,[.int .u8 0]⟩),(9,⟨.str,1,16,[.str []]⟩),(22,⟨.ptr,1,8,[.ptr none]⟩),(25,⟨.strct [(9,0),(9,1)],2,32,[.str [],.str []]⟩),(26,⟨.slice 5,1,24,[.slice 0 [] (some 5)]⟩),(28,⟨.strct [(25,0),(3,2),(26,3)],4,64,[.str [],.str [],.int .i64 0,.slice 0 [] (some 5)]⟩),(30,⟨.strct [(25,0),(28,2),(26,6)],7,120,[.str [],.str [],.str [],.str [],.int .i64 0,.slice 0 [] (some 5),.slice 0 [] (some 5)]⟩),(31,⟨.int .i64,1,8,[.int .i64 0]⟩),(33,⟨.ptr,1,8,[.ptr none]⟩),(34,⟨.ptr,1,8,[.ptr none]⟩),(36,⟨.strct [(33,0),(34,1)],2,16,[.ptr none,.ptr none]⟩),(41,⟨.strct [(25,0),(25,2),(3,4),(3,5)],6,80,[.str [],.str [],.str [],.str [],.int .i64 0,.int .i64 0]⟩),(43,⟨.arr 32 5,32,32,List.replicate 32 (.int .u8 0)⟩),(50,⟨.strct [(25,0),(43,2),(9,34),(3,35),(3,36)],37,96,[.str [],.str []]++List.replicate 32 (.int .u8 0)++[.str [],.int .i64 0,.int .i64 0]⟩),(54,⟨.strct [(43,0),(25,32),(3,34),(3,35),(3,36)],37,88,List.replicate 32 (.int .u8 0)++[.str [],.str [],.int .i64 0,.int .i64 0,.int .i64 0]⟩),(58,⟨.slice 4,1,24,[.slice 0 [] (some 4)]⟩),(88,⟨.slice 9,1,24,[.slice 0 [] (some 9)]⟩),(89,⟨.slice 200,1,24,[.slice 0 [] (some 200)]⟩),(90,⟨.slice 261,1,24,[.slice 0 [] (some 261)]⟩),(92,⟨.strct [(88,0),(89,1),(90,2)],3,72,[.slice 0 [] (some 9),.slice 0 [] (some 200),.slice 0 [] (some 261)]⟩),(93,⟨.ptr,1,8,[.ptr none]⟩),(110,⟨.ptr,1,8,[.ptr none]⟩),(113,⟨.slice 210,1,24,[.slice 0 [] (some 210)]⟩),(115,⟨.strct [(113,0)],1,24,[.slice 0 [] (some 210)]⟩),(116,⟨.slice 25,1,24,[.slice 0 [] (some 25)]⟩),(200,⟨.arr 2 9,2,32,[.str [],.str []]⟩),(210,⟨.strct [(25,0),(3,2),(43,3)],35,72,[.str [],.str [],.int .i64 0]++List.replicate 32 (.int .u8 0)⟩),(261,⟨.strct [(9,0),(9,1),(88,2)],3,56,[.str [],.str [],.slice 0 [] (some 9)]⟩)]
theorem ttKw_ok:ttOk prog ttKw=true:=by kernel_rfl
def imm21t:List Nat:=[]
def z30:PObj:=⟨30,[.str [],.str [],.str [],.str [],.int .i64 0,.slice 0 [] (some 5),.slice 0 [] (some 5)],0⟩
def D21 (n:Nat):Draw:={ imp:=[8,13],robs:=[z30],res:=[(12,0)],base:=n,win:=[(9,1,1),(10,1,1),(11,1,2),(12,0,1),(13,1,1),(14,2,2)] }
theorem z30T:z30.T≠keyT∧z30.T≠boxT:=⟨fun h=>absurd (show 30=keyT from h) (by decide),fun h=>absurd (show 30=boxT from h) (by decide)⟩
theorem o36T (a b:PV):(⟨36,[a,b],0⟩:PObj).T≠keyT∧(⟨36,[a,b],0⟩:PObj).T≠boxT:=⟨fun h=>absurd (show 36=keyT from h) (by decide),fun h=>absurd (show 36=boxT from h) (by decide)⟩
theorem c21 (H:PH):CK prog 21 [] H fun r _=>r=.bool true:=by
 (refine fnS (imm:=imm21t) ttKw_ok func21 ?_;(conv=>whnf))
 refine cO (c15x H) ?_
 rintro _ X ⟨kid,xid,pid,l,v,rfl,hsm,hinc,hK,hxk,hxr,hp,hev⟩
 conv=>whnf
 have hlt:kid<X.length:=by obtain ⟨v,hv⟩:=hK.k;exact (List.getElem?_eq_some_iff.1 hv).1
 have hlp:=(List.getElem?_eq_some_iff.1 hp).1
 have hlr:H.length<X.length:=by have:=hK.ring.ex.choose_spec;exact (List.getElem?_eq_some_iff.1 this).1
 have hpk:pid≠kid:=by
  rintro rfl
  obtain ⟨w,hw⟩:=hK.k
  rw [hp] at hw
  exact absurd (congrArg (fun o=>o.map PObj.T) hw) (by intro h;exact absurd (Option.some.inj h) (show ¬36=134 by decide))
 have e1:Evo (fun _=>False) X (X++[z30]):=Evo.app X _
 obtain ⟨X1,⟨hK2,e2⟩,h16⟩:=c16d (hK.evo e1 id id) (by decide) (by decide) (by decide) qK1 ⟨by decide,by decide,by decide,by decide⟩ 5 draw1
 obtain ⟨hR1,hR1k⟩:=as1 hsm ((0:Nat):Int)
 generalize asV aedu l ((0:Nat):Int) qK1 5 draw1=R1 at *
 have hb1:∀m k,bump R1 m k=m+k:=fun m k=>if_pos hR1
 rw [hb1,hb1] at hK2
 have hp1:=e1.same _ _ hp id (o36T _ _).1 (o36T _ _).2
 have hz1:X1[X.length]? = some z30:=e2.same _ _ (gL X _) (by show ¬X.length=kid;omega) z30T.1 z30T.2
 refine dO2 (D21 (X).length) [X++[z30],X1,(X1).set (X).length (⟨30,R1.1.cells,1⟩:PObj)] (by kernel_rfl) ⟨rfl,rfl⟩ trivial ?_
 conv=>whnf
 iterate 3 (refine dS ?_;(conv=>whnf))
 apply Exists.intro
 apply And.intro
 ·conv=>whnf
  ((conv in (_[_]?)=>tactic=>exact hp1);(conv=>whnf))
  exact ⟨rfl,rfl,trivial⟩
 conv=>whnf
 refine ⟨_,cP c17 ⟨rfl,rfl,trivial⟩,?_⟩
 conv=>whnf
 refine ⟨_,cP (c18 aedu aedu (by decide)) ⟨rfl,rfl,trivial⟩,?_⟩
 conv=>whnf
 iterate 2 (refine dS ?_;(conv=>whnf))
 refine ⟨_,cA (args':=[.ptr (some (kid,0)),.agg qK1.cells,.int .i64 5,.agg (keyC draw1)]) rfl (cO h16 (by rintro _ _ ⟨rfl,rfl⟩;exact ⟨rfl,rfl,trivial⟩)),?_⟩
 conv=>whnf
 iterate 2 (refine dS ?_;(conv=>whnf))
 (refine dS2 ?_;(conv=>whnf))
 refine ⟨.ptr (some ((X).length,0)),?_,?_⟩
 ·conv=>whnf
  refine ⟨⟨⟨rfl,rfl,trivial⟩,gL X _⟩,?_⟩
  conv=>whnf
  exact ⟨⟨rfl,rfl,trivial⟩,hz1⟩
 conv=>whnf
 apply Exists.intro
 apply And.intro
 ·conv=>whnf
  ((conv in (_[_]?)=>tactic=>exact hz1);(conv=>whnf))
  exact ⟨rfl,rfl,trivial⟩
 conv=>whnf
 (refine dS ?_;(conv=>whnf))
 conv=>whnf
 have e3:Evo (·=X.length) X1 (X1.set X.length ⟨30,R1.1.cells,1⟩):=Evo.setOther hz1 rfl z30T.1 z30T.2
 have hK3:=hK2.evo e3 (by show ¬kid=X.length;omega) (by show ¬H.length=X.length;omega)
 have hp3:=e3.same _ _ (e2.same _ _ hp1 hpk (o36T _ _).1 (o36T _ _).2) (by show ¬pid=X.length;omega) (o36T _ _).1 (o36T _ _).2
 have ho3:(X1.set X.length (⟨30,R1.1.cells,1⟩:PObj))[X.length]? = some ⟨30,R1.1.cells,1⟩:=gS hz1
 have o30T:(⟨30,R1.1.cells,1⟩:PObj).T≠keyT∧(⟨30,R1.1.cells,1⟩:PObj).T≠boxT:=z30T
 obtain ⟨Y,hY⟩:∃Y,Y=X1.set X.length (⟨30,R1.1.cells,1⟩:PObj):=⟨_,rfl⟩
 rw [←hY] at hK3 hp3 ho3 e3
 have hly:X.length<Y.length:=(List.getElem?_eq_some_iff.1 ho3).1
 have e4:Evo (fun _=>False) Y (Y++[z30]):=Evo.app Y _
 obtain ⟨Y1,⟨hK5,e5⟩,h17⟩:=c16d (hK3.evo e4 id id) (by decide) (by decide) (by decide) qK2 ⟨by decide,by decide,by decide,by decide⟩ 5 draw1
 have hR2:=as2 hsm ((0+2:Nat):Int)
 generalize asV aedu l ((0+2:Nat):Int) qK2 5 draw1=R2 at *
 have hb2:∀m k,bump R2 m k=m:=fun m k=>if_neg (by rw [hR2];decide)
 rw [hb2,hb2] at hK5
 have hp4:=e4.same _ _ hp3 id (o36T _ _).1 (o36T _ _).2
 have hz2:Y1[Y.length]? = some z30:=e5.same _ _ (gL Y _) (by show ¬Y.length=kid;omega) z30T.1 z30T.2
 have e6:Evo (·=Y.length) Y1 (Y1.set Y.length ⟨30,R2.1.cells,1⟩):=Evo.setOther hz2 rfl z30T.1 z30T.2
 have hK6:=hK5.evo e6 (by show ¬kid=Y.length;omega) (by show ¬H.length=Y.length;omega)
 have hp6:=e6.same _ _ (e5.same _ _ hp4 hpk (o36T _ _).1 (o36T _ _).2) (by show ¬pid=Y.length;omega) (o36T _ _).1 (o36T _ _).2
 have ho6:=e6.same _ _ (e5.same _ _ (e4.same _ _ ho3 id o30T.1 o30T.2) (by show ¬X.length=kid;omega) o30T.1 o30T.2) (by show ¬X.length=Y.length;omega) o30T.1 o30T.2
 refine dO2 (D21 (Y).length) [Y++[z30],Y1,(Y1).set (Y).length (⟨30,R2.1.cells,1⟩:PObj)] (by kernel_rfl) ⟨by rw [hY];rfl,by rw [hY];rfl⟩ trivial ?_
 conv=>whnf
 iterate 3 (refine dS ?_;(conv=>whnf))
 apply Exists.intro
 apply And.intro
 ·conv=>whnf
  ((conv in (_[_]?)=>tactic=>exact hp4);(conv=>whnf))
  exact ⟨rfl,rfl,trivial⟩
 conv=>whnf
 refine ⟨_,cP c27 ⟨rfl,rfl,trivial⟩,?_⟩
 conv=>whnf
 refine ⟨_,cP c17 ⟨rfl,rfl,trivial⟩,?_⟩
 conv=>whnf
 iterate 2 (refine dS ?_;(conv=>whnf))
 refine ⟨_,cA (args':=[.ptr (some (kid,0)),.agg qK2.cells,.int .i64 5,.agg (keyC draw1)]) rfl (cO h17 (by rintro _ _ ⟨rfl,rfl⟩;exact ⟨rfl,rfl,trivial⟩)),?_⟩
 conv=>whnf
 iterate 2 (refine dS ?_;(conv=>whnf))
 (refine dS2 ?_;(conv=>whnf))
 refine ⟨.ptr (some ((Y).length,0)),?_,?_⟩
 ·conv=>whnf
  refine ⟨⟨⟨rfl,rfl,trivial⟩,gL Y _⟩,?_⟩
  conv=>whnf
  exact ⟨⟨rfl,rfl,trivial⟩,hz2⟩
 conv=>whnf
 apply Exists.intro
 apply And.intro
 ·conv=>whnf
  ((conv in (_[_]?)=>tactic=>exact hz2);(conv=>whnf))
  exact ⟨rfl,rfl,trivial⟩
 conv=>whnf
 (refine dS ?_;(conv=>whnf))
 conv=>whnf
 refine ⟨fun _=>?_,fun h=>absurd hR1 h⟩
 conv=>whnf
 refine ⟨fun _=>?_,fun h=>absurd hR2 h⟩
 conv=>whnf
 ((conv in (_[_]?)=>tactic=>exact ho6);(conv=>whnf))
 refine ⟨fun _=>?_,fun h=>absurd hR1k h⟩
 conv=>whnf
 ((conv in (_[_]?)=>tactic=>exact hp6);(conv=>whnf))
 obtain ⟨w,hw⟩:=hK6.k
 refine cO (c20 hw) ?_
 rintro _ _ ⟨hx7,hH7⟩
 rw [hx7,hH7];clear hx7 hH7
 conv=>whnf
 refine ⟨fun _=>?_,fun h=>absurd rfl h⟩
 conv=>whnf
 rfl
set_option maxHeartbeats 1000000
def KnownP (r n:List UInt8):Prop:=r=aedu∧(n=ann∨n=mail∨n=krb aedu∨n=krb edu)
instance (r n : List UInt8) : Decidable (KnownP r n) := by unfold KnownP; exact inferInstance
set_option maxHeartbeats 4000000
def drawN (n:UInt8):Nat→UInt8:=fun i=>match i with
 | 0=>n
 | 1=>7
 | _=>0
theorem pne {a b c d:List UInt8} (h:¬(a=c∧b=d)):¬([PV.str a,.str b]=[.str c,.str d]):=fun e=>h (two_eq e)
theorem drawK_at {P:Program} {tt:TT} {imm:List Nat} {N:Nat} {ops:List Oper} {E:Env} {H Y:PH} {K:Env→PH→Prop} (e:H=Y) (h:drawK P tt imm N ops E Y K):drawK P tt imm N ops E H K:=e▸h
theorem callK_at {P:Program} {f:Nat} {args:List PV} {H Y:PH} {K:PV→PH→Prop} (e:H=Y) (h:callK P f args Y K):callK P f args H K:=e▸h
theorem inZ_of {n lo hi:Int} (h1:lo≤n) (h2:n≤hi):inZ n lo hi=true:=by unfold inZ;rw [decide_eq_true h1,decide_eq_true h2];rfl
theorem prAnn:isPrincB aedu ann=true:=by kernel_rfl
theorem prTgt:isPrincB aedu (krb aedu)=true:=by kernel_rfl
theorem late_no {now:Int} (h1:0≤now) (h2:now≤1073741824):lateB now=false:=by
 unfold lateB;rw [decide_eq_false (by omega),decide_eq_false (by omega)];rfl
theorem ebPrt {p:Prt} (h:isPartB p=true):eBPrt p=partL p∧eEPrt p=0:=⟨if_pos h,if_pos h⟩
theorem prPrt {p:Prt} (h:isPartB p=true):p.r.length≤1000000∧p.n.length≤1000000∧p.tr.length≤1000000:=by
 unfold isPartB at h
 simp only [Bool.and_eq_true] at h
 have gp:=princ_len h.1.1
 have gt:=isText_len h.1.2
 have g_st:=inZ_le h.2.1
 have g_en:=inZ_le h.2.2
 exact ⟨by omega,by omega,by omega⟩
theorem lePrt (p:Prt):0<(partL p).length:=by unfold partL wrapB;simp
theorem ebAut {p:Aut} (h:isAutB p=true):eBAut p=autL p∧eEAut p=0:=⟨if_pos h,if_pos h⟩
theorem prAut {p:Aut} (h:isAutB p=true):p.r.length≤1000000∧p.n.length≤1000000:=by
 unfold isAutB at h
 simp only [Bool.and_eq_true] at h
 have gp:=princ_len h.1.1
 have g_tm:=inZ_le h.1.2
 have g_sq:=inZ_le h.2
 exact ⟨by omega,by omega⟩
theorem leAut (p:Aut):0<(autL p).length:=by unfold autL wrapB;simp
theorem backPrt {p:Prt} (h:isPartB p=true):(gPPrt (partC (partL p)) (partL p)).cells=p.cells∧gEPrt (partC (partL p)) (partL p)=0:=by
 have e:=partC_laid p h
 have hok:okPrt (partC (partL p)) (partL p)=true:=by rw [okPrt_same e];exact okPrt_iff.2 ⟨h,partL_le h,rfl⟩
 unfold gPPrt gEPrt
 rw [if_pos hok,if_pos hok]
 exact ⟨part_same_cells e,rfl⟩
set_option maxHeartbeats 2000000
def oldH:PH:=[ringO [] 0,⟨25,[.str [65],.str [120]],1⟩]
theorem oldR:RingAt oldH 0 []:=(newRing (H:=[])).evo (S:=fun _=>False) (Evo.app [ringO [] 0] [_]) id
theorem c22k (key:List UInt8) (hk:key.length=32) (u:Int) (hu:isUseB u=true) (b:List UInt8) (h16:16≤b.length) (h800:b.length≤800):Pure prog 22 [.agg (key.map bC),.int .i64 u,sl b] (openV key u b):=by
 intro H
 unfold openV openK
 refine (c22o key hk u hu b h16 h800 H).demT fun x H' hh=>?_
 obtain ⟨h1,h2⟩:=hh
 cases e:openB (key.drop 16) u b
 ·rw [e] at h1
  exact ⟨_,h1,rfl,h2⟩
 ·rw [e] at h1
  exact ⟨_,h1,rfl,h2⟩
set_option maxHeartbeats 4000000
theorem openV_seal (key:List UInt8) (u n:Int) (p:List UInt8) (hn0:0≤n) (hn1:n≤1099511627776) (hp:p.length≤784):openV key u (sealK key u n p)=.tup [sl p,.int .i64 0]:=by
 unfold openV;rw [open_seal key u n p hn0 hn1 hp]
theorem opens (k:UInt8) (u n:Int) (hu:isUseB u=true) (p:List UInt8) (hn0:0≤n) (hn1:n≤1099511627776) (hp:p.length≤784):Pure prog 22 [.agg ((keyN k).map bC),.int .i64 u,sl (sealK (keyN k) u n p)] (.tup [sl p,.int .i64 0]) :=
 (c22k (keyN k) (keyN_len k) u hu _ (by rw [sealK_len];omega) (by rw [sealK_len];omega)).of_eq (openV_seal _ _ _ _ hn0 hn1 hp)
theorem readsPrt {p:Prt} (h:isPartB p=true):Pure prog 23 [sl (partL p)] (.tup [.agg p.cells,.int .i64 0]):=by
 have h1:=c23s (partL p) (by have:=partL_784 h;omega)
 rw [(backPrt h).1,(backPrt h).2] at h1
 exact h1
def z50:PObj:=⟨50,[.str [],.str []]++List.replicate 32 (.int .u8 0)++[.str [],.int .i64 0,.int .i64 0],0⟩
def ttT3:TT:=[(2,⟨.int .i64,1,8,[.int .i64 0]⟩),(3,⟨.int .i64,1,8,[.int .i64 0]⟩),(4,⟨.bool,1,1,[.bool false]⟩),(5,⟨.int .u8,1,1,[.int .u8 0]⟩),(9,⟨.str,1,16,[.str []]⟩),(25,⟨.strct [(9,0),(9,1)],2,32,[.str [],.str []]⟩),(26,⟨.slice 5,1,24,[.slice 0 [] (some 5)]⟩),(28,⟨.strct [(25,0),(3,2),(26,3)],4,64,[.str [],.str [],.int .i64 0,.slice 0 [] (some 5)]⟩),(30,⟨.strct [(25,0),(28,2),(26,6)],7,120,[.str [],.str [],.str [],.str [],.int .i64 0,.slice 0 [] (some 5),.slice 0 [] (some 5)]⟩),(31,⟨.int .i64,1,8,[.int .i64 0]⟩),(33,⟨.ptr,1,8,[.ptr none]⟩),(41,⟨.strct [(25,0),(25,2),(3,4),(3,5)],6,80,[.str [],.str [],.str [],.str [],.int .i64 0,.int .i64 0]⟩),(43,⟨.arr 32 5,32,32,List.replicate 32 (.int .u8 0)⟩),(50,⟨.strct [(25,0),(43,2),(9,34),(3,35),(3,36)],37,96,[.str [],.str []]++List.replicate 32 (.int .u8 0)++[.str [],.int .i64 0,.int .i64 0]⟩),(64,⟨.strct [(28,0),(26,4),(25,5),(3,7),(3,8)],9,136,[.str [],.str [],.int .i64 0,.slice 0 [] (some 5),.slice 0 [] (some 5),.str [],.str [],.int .i64 0,.int .i64 0]⟩),(68,⟨.strct [(25,0),(3,2),(3,3)],4,48,[.str [],.str [],.int .i64 0,.int .i64 0]⟩),(88,⟨.slice 9,1,24,[.slice 0 [] (some 9)]⟩),(89,⟨.slice 200,1,24,[.slice 0 [] (some 200)]⟩),(90,⟨.slice 261,1,24,[.slice 0 [] (some 261)]⟩),(92,⟨.strct [(88,0),(89,1),(90,2)],3,72,[.slice 0 [] (some 9),.slice 0 [] (some 200),.slice 0 [] (some 261)]⟩),(98,⟨.strct [(28,0),(26,4)],5,88,[.str [],.str [],.int .i64 0,.slice 0 [] (some 5),.slice 0 [] (some 5)]⟩),(100,⟨.strct [(31,0),(3,1)],2,16,[.int .i64 0,.int .i64 0]⟩),(102,⟨.strct [(3,0),(41,1),(64,7),(30,16),(98,23),(100,28)],30,448,[.int .i64 0,.str [],.str [],.str [],.str [],.int .i64 0,.int .i64 0,.str [],.str [],.int .i64 0,.slice 0 [] (some 5),.slice 0 [] (some 5),.str [],.str [],.int .i64 0,.int .i64 0,.str [],.str [],.str [],.str [],.int .i64 0,.slice 0 [] (some 5),.slice 0 [] (some 5),.str [],.str [],.int .i64 0,.slice 0 [] (some 5),.slice 0 [] (some 5),.int .i64 0,.int .i64 0]⟩),(110,⟨.ptr,1,8,[.ptr none]⟩),(126,⟨.ptr,1,8,[.ptr none]⟩),(132,⟨.strB [(129,0),(130,0),(2,0)],1,8,[.int .i64 0]⟩),(134,⟨.strct [(9,0),(92,1),(110,4),(132,5),(132,6)],7,112,[.str [],.slice 0 [] (some 9),.slice 0 [] (some 200),.slice 0 [] (some 261),.ptr none,.int .i64 0,.int .i64 0]⟩),(139,⟨.strct [(25,0),(50,2),(3,39),(126,40),(3,41)],42,152,[.str [],.str [],.str [],.str []]++List.replicate 32 (.int .u8 0)++[.str [],.int .i64 0,.int .i64 0,.int .i64 0,.ptr none,.int .i64 0]⟩),(200,⟨.arr 2 9,2,32,[.str [],.str []]⟩),(221,⟨.arr 16 5,16,16,List.replicate 16 (.int .u8 0)⟩),(238,⟨.ptr,1,8,[.ptr none]⟩),(241,⟨.strct [(238,0),(221,1),(132,17),(132,18),(132,19)],20,48,[.ptr none]++List.replicate 16 (.int .u8 0)++[.int .i64 0,.int .i64 0,.int .i64 0]⟩),(261,⟨.strct [(9,0),(9,1),(88,2)],3,56,[.str [],.str [],.slice 0 [] (some 9)]⟩)]
theorem ttT3_ok:ttOk prog ttT3=true:=by kernel_rfl
def imm65t:List Nat:=[4]
def imm67t:List Nat:=[5]
def imm68t:List Nat:=[3]
def imm69t:List Nat:=[5]
def imm29t:List Nat:=[5,7]
theorem Evo.put {H X:PH} (e:Evo (fun _=>False) H X) {a:Nat} {o:PObj} (ha:X[a]? = some o) (h1:o.T≠keyT) (h2:o.T≠boxT) (hle:H.length≤a) (o':PObj):Evo (fun _=>False) H (X.set a o') :=
 Evo.drop (S:=fun _=>False) ((e.mono fun _ h=>h.elim).trans ((Evo.setOther (S:=(·=a)) ha rfl h1 h2).mono fun _ h=>.inr h)) hle
theorem Evo.look {S:Nat→Prop} {H X:PH} (e:Evo S H X) {id:Nat} {o:PObj} (ho:H[id]? = some o) (hs:¬S id) (h1:o.T≠keyT) (h2:o.T≠boxT):X[id]? = some o:=e.same _ _ ho hs h1 h2
theorem z50T:z50.T≠keyT∧z50.T≠boxT:=⟨fun h=>absurd (show 50=keyT from h) (by decide),fun h=>absurd (show 50=boxT from h) (by decide)⟩
theorem o50T (cs:List PV) (v:Nat):(⟨50,cs,v⟩:PObj).T≠keyT∧(⟨50,cs,v⟩:PObj).T≠boxT:=z50T
def shownV (realm:List UInt8) (l:List Ent) (tr tn:List UInt8) (kv:Int) (tb:List UInt8) (now:Int):Prt×Int:=match decide (tn=krb realm) with
 | false=>(zPrt,6)
 | true=>match lastE (isK tr tn kv) l with
  | none=>(zPrt,4)
  | some e=>match openK e.key 2 tb with
   | none=>(zPrt,3)
   | some b=>match decide (gEPrt (partC b) b=0) with
    | false=>(zPrt,2)
    | true=>match decide ((gPPrt (partC b) b).en<now) with
     | true=>(zPrt,7)
     | false=>match decide (now+5<(gPPrt (partC b) b).st) with
      | true=>(zPrt,8)
      | false=>(gPPrt (partC b) b,0)
theorem openK_len {key:List UInt8} {u:Int} {b p:List UInt8} (h:openK key u b=some p):p.length≤b.length:=by
 unfold openK at h
 split at h
 ·cases h
  unfold xorL
  rw [List.length_zipWith,List.length_drop,List.length_take]
  omega
 ·cases h
section
variable {realm : List UInt8} {l : List Ent} {tr tn : List UInt8} {kv : Int} {tb : List UInt8} {now : Int} {e : Ent} {b : List UInt8}
theorem sh_6 (h2:¬tn=krb realm):shownV realm l tr tn kv tb now=(zPrt,6):=by unfold shownV;rw [decide_eq_false h2]
theorem sh_4 (h2:tn=krb realm) (hL:lastE (isK tr tn kv) l=none):shownV realm l tr tn kv tb now=(zPrt,4):=by unfold shownV;rw [decide_eq_true h2,hL]
theorem sh_3 (h2:tn=krb realm) (hL:lastE (isK tr tn kv) l=some e) (hO:openK e.key 2 tb=none):shownV realm l tr tn kv tb now=(zPrt,3):=by unfold shownV;rw [decide_eq_true h2,hL];dsimp only;rw [hO]
theorem sh_2 (h2:tn=krb realm) (hL:lastE (isK tr tn kv) l=some e) (hO:openK e.key 2 tb=some b) (hG:¬gEPrt (partC b) b=0):shownV realm l tr tn kv tb now=(zPrt,2):=by
 unfold shownV;rw [decide_eq_true h2,hL];dsimp only;rw [hO];dsimp only;rw [decide_eq_false hG]
theorem sh_7 (h2:tn=krb realm) (hL:lastE (isK tr tn kv) l=some e) (hO:openK e.key 2 tb=some b) (hG:gEPrt (partC b) b=0) (h3:(gPPrt (partC b) b).en<now):shownV realm l tr tn kv tb now=(zPrt,7):=by
 unfold shownV;rw [decide_eq_true h2,hL];dsimp only;rw [hO];dsimp only;rw [decide_eq_true hG];dsimp only;rw [decide_eq_true h3]
theorem sh_8 (h2:tn=krb realm) (hL:lastE (isK tr tn kv) l=some e) (hO:openK e.key 2 tb=some b) (hG:gEPrt (partC b) b=0) (h3:¬(gPPrt (partC b) b).en<now) (h4:now+5<(gPPrt (partC b) b).st):shownV realm l tr tn kv tb now=(zPrt,8):=by
 unfold shownV;rw [decide_eq_true h2,hL];dsimp only;rw [hO];dsimp only;rw [decide_eq_true hG];dsimp only;rw [decide_eq_false h3];dsimp only;rw [decide_eq_true h4]
theorem sh_0 (h2:tn=krb realm) (hL:lastE (isK tr tn kv) l=some e) (hO:openK e.key 2 tb=some b) (hG:gEPrt (partC b) b=0) (h3:¬(gPPrt (partC b) b).en<now) (h4:¬now+5<(gPPrt (partC b) b).st):shownV realm l tr tn kv tb now=(gPPrt (partC b) b,0):=by
 unfold shownV;rw [decide_eq_true h2,hL];dsimp only;rw [hO];dsimp only;rw [decide_eq_true hG];dsimp only;rw [decide_eq_false h3];dsimp only;rw [decide_eq_false h4]
end
theorem c65 {H:PH} {kid rid:Nat} {realm:List UInt8} {rs ls ps:PV} {l:List Ent} {n i:Nat} (hK:Kd H kid rid realm rs ls ps l n i) (hrl:realm.length≤1000000) (tr tn:List UInt8) (kv:Int) (tb:List UInt8) (htb:tb.length≤140737488355328) (now:Int) (h0:0≤now) (h1:now≤1073741824) :
  CK prog 65 [.ptr (some (kid,0)),.agg [.str tr,.str tn,.int .i64 kv,sl tb],.int .i64 now] H fun x H' =>
   x=.tup [.agg (shownV realm l tr tn kv tb now).1.cells,.int .i64 (shownV realm l tr tn kv tb now).2]∧Evo (fun _=>False) H H':=by
 have e1:Evo (fun _=>False) H (H++[z50]):=Evo.app H _
 have hK1:=hK.evo e1 id id
 obtain ⟨v1,hv1⟩:=hK1.k
 have k105:=c105 realm (by omega)
 have ha:(H++[z50])[H.length]? = some z50:=gL H _
 have w5:IntKind.i64.wrap (now+5)=now+5:=w64 (by omega) (by omega)
 obtain ⟨S,hS⟩:∃S,S=shownV realm l tr tn kv tb now:=⟨_,rfl⟩
 rw [←hS]
 (refine fnS (imm:=imm65t) ttT3_ok func65 ?_;(conv=>whnf))
 refine dP2 (by kernel_rfl) ?_
 conv=>whnf
 by_cases h2:tn=krb realm
 ·(repeat (first | ((first | (apply exA;(focus exact oN)) | refine ⟨fun _=>?_,fun h=>absurd (by first | assumption | rfl | decide | omega) h⟩ | refine ⟨fun h=>absurd h (by first | assumption | rfl | decide | omega),fun _=>?_⟩ | refine And.intro ⟨by exact fitS,by exact fitS⟩ ⟨fun _=>?_,fun h=>absurd (by first | assumption | rfl | decide | omega) h⟩ | refine And.intro ⟨by exact fitS,by exact fitS⟩ ⟨fun h=>absurd h (by first | assumption | rfl | decide | omega),fun _=>?_⟩ | (apply cP;(focus assumption)) | (apply cE;(focus assumption)) | refine ⟨by first | decide | omega,?_⟩);((conv=>whnf))) | ((conv in (_[_]?)=>tactic=>first | exact oL | exact gS (by assumption));(conv=>whnf))))
  have hg:=boxGet hK1.ring (by have:=hK1.len;omega) tr tn kv
  cases hL:lastE (isK tr tn kv) l with
  | none =>
   rw [hL] at hg
   have hR:=hS.trans (sh_4 h2 hL)
   refine dP2 (by kernel_rfl) ?_
   conv=>whnf
   (repeat (first | ((first | (apply exA;(focus exact oN)) | refine ⟨fun _=>?_,fun h=>absurd (by first | assumption | rfl | decide | omega) h⟩ | refine ⟨fun h=>absurd h (by first | assumption | rfl | decide | omega),fun _=>?_⟩ | refine And.intro ⟨by exact fitS,by exact fitS⟩ ⟨fun _=>?_,fun h=>absurd (by first | assumption | rfl | decide | omega) h⟩ | refine And.intro ⟨by exact fitS,by exact fitS⟩ ⟨fun h=>absurd h (by first | assumption | rfl | decide | omega),fun _=>?_⟩ | (apply cP;(focus assumption)) | (apply cE;(focus assumption)) | refine ⟨by first | decide | omega,?_⟩);((conv=>whnf))) | ((conv in (_[_]?)=>tactic=>first | exact oL | exact gS (by assumption));(conv=>whnf))))
   exact ⟨by rw [hR];rfl,e1.put ha z50T.1 z50T.2 (Nat.le_refl _) _⟩
  | some e =>
   rw [hL] at hg
   refine dP2 (by kernel_rfl) ?_
   conv=>whnf
   (repeat (first | ((first | (apply exA;(focus exact oN)) | refine ⟨fun _=>?_,fun h=>absurd (by first | assumption | rfl | decide | omega) h⟩ | refine ⟨fun h=>absurd h (by first | assumption | rfl | decide | omega),fun _=>?_⟩ | refine And.intro ⟨by exact fitS,by exact fitS⟩ ⟨fun _=>?_,fun h=>absurd (by first | assumption | rfl | decide | omega) h⟩ | refine And.intro ⟨by exact fitS,by exact fitS⟩ ⟨fun h=>absurd h (by first | assumption | rfl | decide | omega),fun _=>?_⟩ | (apply cP;(focus assumption)) | (apply cE;(focus assumption)) | refine ⟨by first | decide | omega,?_⟩);((conv=>whnf))) | ((conv in (_[_]?)=>tactic=>first | exact oL | exact gS (by assumption));(conv=>whnf))))
   refine cO (openAt (hK1.ring.box e (lastE_mem hL)) 2 rfl tb) ?_
   rintro _ H2 ⟨rfl,e2,hl2⟩
   have eA:Evo (fun _=>False) H H2:=e1.trans e2
   have ha2:=e2.look ha id z50T.1 z50T.2
   have hlt:H.length<H2.length:=(List.getElem?_eq_some_iff.1 ha2).1
   cases hO:openK e.key 2 tb with
   | none =>
    have hv:openV e.key 2 tb=.tup [sl [],.int .i64 3]:=by unfold openV;rw [hO]
    have hR:=hS.trans (sh_3 h2 hL hO)
    rw [hv]
    conv=>whnf
    (repeat (first | ((first | (apply exA;(focus exact oN)) | refine ⟨fun _=>?_,fun h=>absurd (by first | assumption | rfl | decide | omega) h⟩ | refine ⟨fun h=>absurd h (by first | assumption | rfl | decide | omega),fun _=>?_⟩ | refine And.intro ⟨by exact fitS,by exact fitS⟩ ⟨fun _=>?_,fun h=>absurd (by first | assumption | rfl | decide | omega) h⟩ | refine And.intro ⟨by exact fitS,by exact fitS⟩ ⟨fun h=>absurd h (by first | assumption | rfl | decide | omega),fun _=>?_⟩ | (apply cP;(focus assumption)) | (apply cE;(focus assumption)) | refine ⟨by first | decide | omega,?_⟩);((conv=>whnf))) | ((conv in (_[_]?)=>tactic=>first | exact oL | exact gS (by assumption));(conv=>whnf))))
    exact ⟨by rw [hR];rfl,eA.put ha2 z50T.1 z50T.2 (Nat.le_refl _) _⟩
   | some b =>
    have hv:openV e.key 2 tb=.tup [sl b,.int .i64 0]:=by unfold openV;rw [hO]
    rw [hv]
    have s2:=fun h=>hS.trans (sh_2 (now:=now) h2 hL hO h)
    have s7:=fun h h3=>hS.trans (sh_7 h2 hL hO h h3)
    have s8:=fun h h3 h4=>hS.trans (sh_8 h2 hL hO h h3 h4)
    have s0:=fun h h3 h4=>hS.trans (sh_0 h2 hL hO h h3 h4)
    have k124:=c124s b (Nat.le_trans (openK_len hO) htb)
    generalize gPPrt (partC b) b=p at *
    generalize gEPrt (partC b) b=G at *
    have ha3:((H2++[z50]).set H2.length (⟨50,p.cells,1⟩:PObj))[H.length]? = some z50:=by rw [List.getElem?_set_ne (by omega),List.getElem?_append_left hlt];exact ha2
    have eC:Evo (fun _=>False) H ((H2++[z50]).set H2.length (⟨50,p.cells,1⟩:PObj)):=(eA.trans (Evo.app _ _)).put (gL H2 _) z50T.1 z50T.2 (by omega) _
    by_cases hG:G=0
    ·by_cases hen:p.en<now
     ·have hR:=s7 hG hen
      conv=>whnf
      (repeat (first | ((first | (apply exA;(focus exact oN)) | refine ⟨fun _=>?_,fun h=>absurd (by first | assumption | rfl | decide | omega) h⟩ | refine ⟨fun h=>absurd h (by first | assumption | rfl | decide | omega),fun _=>?_⟩ | refine And.intro ⟨by exact fitS,by exact fitS⟩ ⟨fun _=>?_,fun h=>absurd (by first | assumption | rfl | decide | omega) h⟩ | refine And.intro ⟨by exact fitS,by exact fitS⟩ ⟨fun h=>absurd h (by first | assumption | rfl | decide | omega),fun _=>?_⟩ | (apply cP;(focus assumption)) | (apply cE;(focus assumption)) | refine ⟨by first | decide | omega,?_⟩);((conv=>whnf))) | ((conv in (_[_]?)=>tactic=>first | exact oL | exact gS (by assumption));(conv=>whnf))))
      exact ⟨by rw [hR];rfl,eC.put ha3 z50T.1 z50T.2 (Nat.le_refl _) _⟩
     ·by_cases hst:now+5<p.st
      ·have hR:=s8 hG hen hst
       have hst':IntKind.i64.wrap (now+5)<p.st:=by rw [w5];exact hst
       conv=>whnf
       (repeat (first | ((first | (apply exA;(focus exact oN)) | refine ⟨fun _=>?_,fun h=>absurd (by first | assumption | rfl | decide | omega) h⟩ | refine ⟨fun h=>absurd h (by first | assumption | rfl | decide | omega),fun _=>?_⟩ | refine And.intro ⟨by exact fitS,by exact fitS⟩ ⟨fun _=>?_,fun h=>absurd (by first | assumption | rfl | decide | omega) h⟩ | refine And.intro ⟨by exact fitS,by exact fitS⟩ ⟨fun h=>absurd h (by first | assumption | rfl | decide | omega),fun _=>?_⟩ | (apply cP;(focus assumption)) | (apply cE;(focus assumption)) | refine ⟨by first | decide | omega,?_⟩);((conv=>whnf))) | ((conv in (_[_]?)=>tactic=>first | exact oL | exact gS (by assumption));(conv=>whnf))))
       exact ⟨by rw [hR];rfl,eC.put ha3 z50T.1 z50T.2 (Nat.le_refl _) _⟩
      ·have hR:=s0 hG hen hst
       have hst':¬IntKind.i64.wrap (now+5)<p.st:=by rw [w5];exact hst
       conv=>whnf
       (repeat (first | ((first | (apply exA;(focus exact oN)) | refine ⟨fun _=>?_,fun h=>absurd (by first | assumption | rfl | decide | omega) h⟩ | refine ⟨fun h=>absurd h (by first | assumption | rfl | decide | omega),fun _=>?_⟩ | refine And.intro ⟨by exact fitS,by exact fitS⟩ ⟨fun _=>?_,fun h=>absurd (by first | assumption | rfl | decide | omega) h⟩ | refine And.intro ⟨by exact fitS,by exact fitS⟩ ⟨fun h=>absurd h (by first | assumption | rfl | decide | omega),fun _=>?_⟩ | (apply cP;(focus assumption)) | (apply cE;(focus assumption)) | refine ⟨by first | decide | omega,?_⟩);((conv=>whnf))) | ((conv in (_[_]?)=>tactic=>first | exact oL | exact gS (by assumption));(conv=>whnf))))
       exact ⟨by rw [hR];rfl,eC.put ha3 z50T.1 z50T.2 (Nat.le_refl _) _⟩
    ·have hR:=s2 hG
     conv=>whnf
     (repeat (first | ((first | (apply exA;(focus exact oN)) | refine ⟨fun _=>?_,fun h=>absurd (by first | assumption | rfl | decide | omega) h⟩ | refine ⟨fun h=>absurd h (by first | assumption | rfl | decide | omega),fun _=>?_⟩ | refine And.intro ⟨by exact fitS,by exact fitS⟩ ⟨fun _=>?_,fun h=>absurd (by first | assumption | rfl | decide | omega) h⟩ | refine And.intro ⟨by exact fitS,by exact fitS⟩ ⟨fun h=>absurd h (by first | assumption | rfl | decide | omega),fun _=>?_⟩ | (apply cP;(focus assumption)) | (apply cE;(focus assumption)) | refine ⟨by first | decide | omega,?_⟩);((conv=>whnf))) | ((conv in (_[_]?)=>tactic=>first | exact oL | exact gS (by assumption));(conv=>whnf))))
     exact ⟨by rw [hR];rfl,eC.put ha3 z50T.1 z50T.2 (Nat.le_refl _) _⟩
 ·have hR:=hS.trans (sh_6 h2)
  (repeat (first | ((first | (apply exA;(focus exact oN)) | refine ⟨fun _=>?_,fun h=>absurd (by first | assumption | rfl | decide | omega) h⟩ | refine ⟨fun h=>absurd h (by first | assumption | rfl | decide | omega),fun _=>?_⟩ | refine And.intro ⟨by exact fitS,by exact fitS⟩ ⟨fun _=>?_,fun h=>absurd (by first | assumption | rfl | decide | omega) h⟩ | refine And.intro ⟨by exact fitS,by exact fitS⟩ ⟨fun h=>absurd h (by first | assumption | rfl | decide | omega),fun _=>?_⟩ | (apply cP;(focus assumption)) | (apply cE;(focus assumption)) | refine ⟨by first | decide | omega,?_⟩);((conv=>whnf))) | ((conv in (_[_]?)=>tactic=>first | exact oL | exact gS (by assumption));(conv=>whnf))))
  exact ⟨by rw [hR];rfl,e1.put ha z50T.1 z50T.2 (Nat.le_refl _) _⟩
def provesV (key:List UInt8) (p:Prt) (ab:List UInt8) (now:Int):Int:=match openK key 7 ab with
 | none=>3
 | some b=>match decide (gEAut (autC b) b=0) with
  | false=>2
  | true=>match decide ((gPAut (autC b) b).r=p.r∧(gPAut (autC b) b).n=p.n) with
   | false=>9
   | true=>match decide (now+5<(gPAut (autC b) b).tm∨(gPAut (autC b) b).tm<now - 5) with
    | true=>8
    | false=>0
def z68:PObj:=⟨68,[.str [],.str [],.int .i64 0,.int .i64 0],0⟩
theorem z68T:z68.T≠keyT∧z68.T≠boxT:=⟨fun h=>absurd (show 68=keyT from h) (by decide),fun h=>absurd (show 68=boxT from h) (by decide)⟩
section
variable {key : List UInt8} {p : Prt} {ab : List UInt8} {now : Int} {b : List UInt8}
theorem pv_3 (hO:openK key 7 ab=none):provesV key p ab now=3:=by unfold provesV;rw [hO]
theorem pv_2 (hO:openK key 7 ab=some b) (hG:¬gEAut (autC b) b=0):provesV key p ab now=2:=by unfold provesV;rw [hO];dsimp only;rw [decide_eq_false hG]
theorem pv_9 (hO:openK key 7 ab=some b) (hG:gEAut (autC b) b=0) (hm:¬((gPAut (autC b) b).r=p.r∧(gPAut (autC b) b).n=p.n)):provesV key p ab now=9:=by unfold provesV;rw [hO];dsimp only;rw [decide_eq_true hG];dsimp only;rw [decide_eq_false hm]
theorem pv_8 (hO:openK key 7 ab=some b) (hG:gEAut (autC b) b=0) (hm:(gPAut (autC b) b).r=p.r∧(gPAut (autC b) b).n=p.n) (ht:now+5<(gPAut (autC b) b).tm∨(gPAut (autC b) b).tm<now - 5):provesV key p ab now=8:=by
 unfold provesV;rw [hO];dsimp only;rw [decide_eq_true hG];dsimp only;rw [decide_eq_true hm];dsimp only;rw [decide_eq_true ht]
theorem pv_0 (hO:openK key 7 ab=some b) (hG:gEAut (autC b) b=0) (hm:(gPAut (autC b) b).r=p.r∧(gPAut (autC b) b).n=p.n) (ht:¬(now+5<(gPAut (autC b) b).tm∨(gPAut (autC b) b).tm<now - 5)):provesV key p ab now=0:=by
 unfold provesV;rw [hO];dsimp only;rw [decide_eq_true hG];dsimp only;rw [decide_eq_true hm];dsimp only;rw [decide_eq_false ht]
end
theorem c67 {H:PH} {bid:Nat} {key:List UInt8} (hb:BoxAt H bid key) (p:Prt) (ab:List UInt8) (hab:ab.length≤140737488355328) (now:Int) (h0:0≤now) (h1:now≤1073741824) :
  CK prog 67 [.ptr (some (bid,0)),.agg p.cells,sl ab,.int .i64 now] H fun x H'=>x=.int .i64 (provesV key p ab now)∧Evo (fun _=>False) H H':=by
 have w5:IntKind.i64.wrap (now+5)=now+5:=w64 (by omega) (by omega)
 have w6:IntKind.i64.wrap (now - 5)=now - 5:=w64 (by omega) (by omega)
 obtain ⟨S,hS⟩:∃S,S=provesV key p ab now:=⟨_,rfl⟩
 rw [←hS]
 (refine fnS (imm:=imm67t) ttT3_ok func67 ?_;(conv=>whnf))
 refine cO (openAt hb 7 rfl ab) ?_
 rintro _ H2 ⟨rfl,e2,hl2⟩
 cases hO:openK key 7 ab with
 | none =>
  have hv:openV key 7 ab=.tup [sl [],.int .i64 3]:=by unfold openV;rw [hO]
  have hR:=hS.trans (pv_3 hO)
  rw [hv]
  conv=>whnf
  (repeat (first | ((first | (apply exA;(focus exact oN)) | refine ⟨fun _=>?_,fun h=>absurd (by first | assumption | rfl | decide | omega) h⟩ | refine ⟨fun h=>absurd h (by first | assumption | rfl | decide | omega),fun _=>?_⟩ | refine And.intro ⟨by exact fitS,by exact fitS⟩ ⟨fun _=>?_,fun h=>absurd (by first | assumption | rfl | decide | omega) h⟩ | refine And.intro ⟨by exact fitS,by exact fitS⟩ ⟨fun h=>absurd h (by first | assumption | rfl | decide | omega),fun _=>?_⟩ | (apply cP;(focus assumption)) | (apply cE;(focus assumption)) | refine ⟨by first | decide | omega,?_⟩);((conv=>whnf))) | ((conv in (_[_]?)=>tactic=>first | exact oL | exact gS (by assumption));(conv=>whnf))))
  exact ⟨by rw [hR];rfl,e2⟩
 | some b =>
  have hv:openV key 7 ab=.tup [sl b,.int .i64 0]:=by unfold openV;rw [hO]
  rw [hv]
  have s2:=fun h=>hS.trans (pv_2 (p:=p) (now:=now) hO h)
  have s9:=fun h h3=>hS.trans (pv_9 (now:=now) hO h h3)
  have s8:=fun h h3 h4=>hS.trans (pv_8 hO h h3 h4)
  have s0:=fun h h3 h4=>hS.trans (pv_0 hO h h3 h4)
  have k126:=c126s b (Nat.le_trans (openK_len hO) hab)
  generalize gPAut (autC b) b=a at *
  generalize gEAut (autC b) b=G at *
  have eC:Evo (fun _=>False) H ((H2++[z68]).set H2.length (⟨68,a.cells,1⟩:PObj)):=(e2.trans (Evo.app _ _)).put (gL H2 _) z68T.1 z68T.2 (by omega) _
  by_cases hG:G=0
  ·by_cases hm:a.r=p.r∧a.n=p.n
   ·have hm':[PV.str a.r,.str a.n]=[.str p.r,.str p.n]:=two_eq' hm
    by_cases ht:now+5<a.tm
    ·have hR:=s8 hG hm (.inl ht)
     have ht':IntKind.i64.wrap (now+5)<a.tm:=by rw [w5];exact ht
     conv=>whnf
     (repeat (first | ((first | (apply exA;(focus exact oN)) | refine ⟨fun _=>?_,fun h=>absurd (by first | assumption | rfl | decide | omega) h⟩ | refine ⟨fun h=>absurd h (by first | assumption | rfl | decide | omega),fun _=>?_⟩ | refine And.intro ⟨by exact fitS,by exact fitS⟩ ⟨fun _=>?_,fun h=>absurd (by first | assumption | rfl | decide | omega) h⟩ | refine And.intro ⟨by exact fitS,by exact fitS⟩ ⟨fun h=>absurd h (by first | assumption | rfl | decide | omega),fun _=>?_⟩ | (apply cP;(focus assumption)) | (apply cE;(focus assumption)) | refine ⟨by first | decide | omega,?_⟩);((conv=>whnf))) | ((conv in (_[_]?)=>tactic=>first | exact oL | exact gS (by assumption));(conv=>whnf))))
     exact ⟨by rw [hR];rfl,eC⟩
    ·have ht':¬IntKind.i64.wrap (now+5)<a.tm:=by rw [w5];exact ht
     by_cases ht2:a.tm<now - 5
     ·have hR:=s8 hG hm (.inr ht2)
      have ht2':a.tm<IntKind.i64.wrap (now - 5):=by rw [w6];exact ht2
      conv=>whnf
      (repeat (first | ((first | (apply exA;(focus exact oN)) | refine ⟨fun _=>?_,fun h=>absurd (by first | assumption | rfl | decide | omega) h⟩ | refine ⟨fun h=>absurd h (by first | assumption | rfl | decide | omega),fun _=>?_⟩ | refine And.intro ⟨by exact fitS,by exact fitS⟩ ⟨fun _=>?_,fun h=>absurd (by first | assumption | rfl | decide | omega) h⟩ | refine And.intro ⟨by exact fitS,by exact fitS⟩ ⟨fun h=>absurd h (by first | assumption | rfl | decide | omega),fun _=>?_⟩ | (apply cP;(focus assumption)) | (apply cE;(focus assumption)) | refine ⟨by first | decide | omega,?_⟩);((conv=>whnf))) | ((conv in (_[_]?)=>tactic=>first | exact oL | exact gS (by assumption));(conv=>whnf))))
      exact ⟨by rw [hR];rfl,eC⟩
     ·have hR:=s0 hG hm (fun h=>h.elim ht ht2)
      have ht2':¬a.tm<IntKind.i64.wrap (now - 5):=by rw [w6];exact ht2
      conv=>whnf
      (repeat (first | ((first | (apply exA;(focus exact oN)) | refine ⟨fun _=>?_,fun h=>absurd (by first | assumption | rfl | decide | omega) h⟩ | refine ⟨fun h=>absurd h (by first | assumption | rfl | decide | omega),fun _=>?_⟩ | refine And.intro ⟨by exact fitS,by exact fitS⟩ ⟨fun _=>?_,fun h=>absurd (by first | assumption | rfl | decide | omega) h⟩ | refine And.intro ⟨by exact fitS,by exact fitS⟩ ⟨fun h=>absurd h (by first | assumption | rfl | decide | omega),fun _=>?_⟩ | (apply cP;(focus assumption)) | (apply cE;(focus assumption)) | refine ⟨by first | decide | omega,?_⟩);((conv=>whnf))) | ((conv in (_[_]?)=>tactic=>first | exact oL | exact gS (by assumption));(conv=>whnf))))
      exact ⟨by rw [hR];rfl,eC⟩
   ·have hR:=s9 hG hm
    have hm':¬([PV.str a.r,.str a.n]=[.str p.r,.str p.n]):=pne hm
    conv=>whnf
    (repeat (first | ((first | (apply exA;(focus exact oN)) | refine ⟨fun _=>?_,fun h=>absurd (by first | assumption | rfl | decide | omega) h⟩ | refine ⟨fun h=>absurd h (by first | assumption | rfl | decide | omega),fun _=>?_⟩ | refine And.intro ⟨by exact fitS,by exact fitS⟩ ⟨fun _=>?_,fun h=>absurd (by first | assumption | rfl | decide | omega) h⟩ | refine And.intro ⟨by exact fitS,by exact fitS⟩ ⟨fun h=>absurd h (by first | assumption | rfl | decide | omega),fun _=>?_⟩ | (apply cP;(focus assumption)) | (apply cE;(focus assumption)) | refine ⟨by first | decide | omega,?_⟩);((conv=>whnf))) | ((conv in (_[_]?)=>tactic=>first | exact oL | exact gS (by assumption));(conv=>whnf))))
    exact ⟨by rw [hR];rfl,eC⟩
  ·have hR:=s2 hG
   conv=>whnf
   (repeat (first | ((first | (apply exA;(focus exact oN)) | refine ⟨fun _=>?_,fun h=>absurd (by first | assumption | rfl | decide | omega) h⟩ | refine ⟨fun h=>absurd h (by first | assumption | rfl | decide | omega),fun _=>?_⟩ | refine And.intro ⟨by exact fitS,by exact fitS⟩ ⟨fun _=>?_,fun h=>absurd (by first | assumption | rfl | decide | omega) h⟩ | refine And.intro ⟨by exact fitS,by exact fitS⟩ ⟨fun h=>absurd h (by first | assumption | rfl | decide | omega),fun _=>?_⟩ | (apply cP;(focus assumption)) | (apply cE;(focus assumption)) | refine ⟨by first | decide | omega,?_⟩);((conv=>whnf))) | ((conv in (_[_]?)=>tactic=>first | exact oL | exact gS (by assumption));(conv=>whnf))))
   exact ⟨by rw [hR];rfl,eC⟩
def z25:PObj:=⟨25,[.str [],.str []],0⟩
theorem z25T:z25.T≠keyT∧z25.T≠boxT:=⟨fun h=>absurd (show 25=keyT from h) (by decide),fun h=>absurd (show 25=boxT from h) (by decide)⟩
def targetV (realm:List UInt8) (l:List Ent) (sn:List UInt8):(List UInt8×List UInt8)×Int:=match lastE (isP realm sn) l with
 | none=>(([],[]),6)
 | some _=>((realm,sn),0)
theorem c68r {H:PH} {kid rid:Nat} {realm:List UInt8} {rs ls ps:PV} {l:List Ent} {n i:Nat} (hK:Kd H kid rid realm rs ls ps l n i) (sn:List UInt8) :
  CK prog 68 [.ptr (some (kid,0)),.agg [.str realm,.str sn]] H fun x H'=>x=.tup [.agg [.str (targetV realm l sn).1.1,.str (targetV realm l sn).1.2],.int .i64 (targetV realm l sn).2]∧Evo (fun _=>False) H H':=by
 have e1:Evo (fun _=>False) H (H++[z25]++[z25]):=(Evo.app H _).trans (Evo.app _ _)
 have hlen:(H++[z25]).length=H.length+1:=by simp
 obtain ⟨X,hX⟩:∃X,X=(H++[z25]++[z25]).set (H++[z25]).length (⟨25,[.str realm,.str sn],1⟩:PObj):=⟨_,rfl⟩
 have eX:Evo (fun _=>False) H X:=by rw [hX];exact e1.put (gL (H++[z25]) _) z25T.1 z25T.2 (by omega) _
 have hro:X[(H++[z25]).length]? = some (⟨25,[.str realm,.str sn],1⟩:PObj):=by rw [hX];exact gS (gL (H++[z25]) _)
 have hra:X[H.length]? = some z25:=by
  rw [hX,List.getElem?_set_ne (by omega),List.getElem?_append_left (by omega)];exact gL H _
 have hKX:=hK.evo eX id id
 obtain ⟨v,hv⟩:=hKX.k
 have hg:=lastGet hKX.ring (by have:=hKX.len;omega) realm sn
 unfold targetV
 (refine fnS (imm:=imm68t) ttT3_ok func68 ?_;(conv=>whnf))
 (repeat (first | ((first | (apply exA;(focus exact oN)) | refine ⟨fun _=>?_,fun h=>absurd (by first | assumption | rfl | decide | omega) h⟩ | refine ⟨fun h=>absurd h (by first | assumption | rfl | decide | omega),fun _=>?_⟩ | refine And.intro ⟨by exact fitS,by exact fitS⟩ ⟨fun _=>?_,fun h=>absurd (by first | assumption | rfl | decide | omega) h⟩ | refine And.intro ⟨by exact fitS,by exact fitS⟩ ⟨fun h=>absurd h (by first | assumption | rfl | decide | omega),fun _=>?_⟩ | (apply cP;(focus assumption)) | (apply cE;(focus assumption)) | refine ⟨by first | decide | omega,?_⟩);((conv=>whnf))) | ((conv in (_[_]?)=>tactic=>first | exact oL | exact gS (by assumption));(conv=>whnf))))
 refine drawK_at hX.symm ?_
 refine dP2 (by kernel_rfl) ?_
 conv=>whnf
 (repeat (first | ((first | (apply exA;(focus exact oN)) | refine ⟨fun _=>?_,fun h=>absurd (by first | assumption | rfl | decide | omega) h⟩ | refine ⟨fun h=>absurd h (by first | assumption | rfl | decide | omega),fun _=>?_⟩ | refine And.intro ⟨by exact fitS,by exact fitS⟩ ⟨fun _=>?_,fun h=>absurd (by first | assumption | rfl | decide | omega) h⟩ | refine And.intro ⟨by exact fitS,by exact fitS⟩ ⟨fun h=>absurd h (by first | assumption | rfl | decide | omega),fun _=>?_⟩ | (apply cP;(focus assumption)) | (apply cE;(focus assumption)) | refine ⟨by first | decide | omega,?_⟩);((conv=>whnf))) | ((conv in (_[_]?)=>tactic=>first | exact oL | exact gS (by assumption));(conv=>whnf))))
 cases hL:lastE (isP realm sn) l with
 | none =>
  rw [hL] at hg
  refine dP2 (by kernel_rfl) ?_
  conv=>whnf
  (repeat (first | ((first | (apply exA;(focus exact oN)) | refine ⟨fun _=>?_,fun h=>absurd (by first | assumption | rfl | decide | omega) h⟩ | refine ⟨fun h=>absurd h (by first | assumption | rfl | decide | omega),fun _=>?_⟩ | refine And.intro ⟨by exact fitS,by exact fitS⟩ ⟨fun _=>?_,fun h=>absurd (by first | assumption | rfl | decide | omega) h⟩ | refine And.intro ⟨by exact fitS,by exact fitS⟩ ⟨fun h=>absurd h (by first | assumption | rfl | decide | omega),fun _=>?_⟩ | (apply cP;(focus assumption)) | (apply cE;(focus assumption)) | refine ⟨by first | decide | omega,?_⟩);((conv=>whnf))) | ((conv in (_[_]?)=>tactic=>first | exact oL | exact gS (by assumption));(conv=>whnf))))
  exact ⟨rfl,eX.put hra z25T.1 z25T.2 (Nat.le_refl _) _⟩
 | some e =>
  rw [hL] at hg
  refine dP2 (by kernel_rfl) ?_
  conv=>whnf
  (repeat (first | ((first | (apply exA;(focus exact oN)) | refine ⟨fun _=>?_,fun h=>absurd (by first | assumption | rfl | decide | omega) h⟩ | refine ⟨fun h=>absurd h (by first | assumption | rfl | decide | omega),fun _=>?_⟩ | refine And.intro ⟨by exact fitS,by exact fitS⟩ ⟨fun _=>?_,fun h=>absurd (by first | assumption | rfl | decide | omega) h⟩ | refine And.intro ⟨by exact fitS,by exact fitS⟩ ⟨fun h=>absurd h (by first | assumption | rfl | decide | omega),fun _=>?_⟩ | (apply cP;(focus assumption)) | (apply cE;(focus assumption)) | refine ⟨by first | decide | omega,?_⟩);((conv=>whnf))) | ((conv in (_[_]?)=>tactic=>first | exact oL | exact gS (by assumption));(conv=>whnf))))
  exact ⟨rfl,eX.put hra z25T.1 z25T.2 (Nat.le_refl _) _⟩
theorem c69r {H:PH} {kid rid:Nat} {realm:List UInt8} {rs ls ps:PV} {l:List Ent} {n i:Nat} (hK:Kd H kid rid realm rs ls ps l n i) (p:Prt) (fr to:List UInt8) (hf:fr=realm∨fr=p.r) :
  CK prog 69 [.ptr (some (kid,0)),.agg p.cells,.str fr,.str to] H fun x H'=>x=.tup [.str p.tr,.int .i64 0]∧Evo (fun _=>False) H H':=by
 obtain ⟨v,hv⟩:=hK.k
 (refine fnS (imm:=imm69t) ttT3_ok func69 ?_;(conv=>whnf))
 by_cases h1:fr=realm
 ·(repeat (first | ((first | (apply exA;(focus exact oN)) | refine ⟨fun _=>?_,fun h=>absurd (by first | assumption | rfl | decide | omega) h⟩ | refine ⟨fun h=>absurd h (by first | assumption | rfl | decide | omega),fun _=>?_⟩ | refine And.intro ⟨by exact fitS,by exact fitS⟩ ⟨fun _=>?_,fun h=>absurd (by first | assumption | rfl | decide | omega) h⟩ | refine And.intro ⟨by exact fitS,by exact fitS⟩ ⟨fun h=>absurd h (by first | assumption | rfl | decide | omega),fun _=>?_⟩ | (apply cP;(focus assumption)) | (apply cE;(focus assumption)) | refine ⟨by first | decide | omega,?_⟩);((conv=>whnf))) | ((conv in (_[_]?)=>tactic=>first | exact oL | exact gS (by assumption));(conv=>whnf))))
  exact ⟨rfl,Evo.refl _⟩
 ·have h2:fr=p.r:=hf.resolve_left h1
  (repeat (first | ((first | (apply exA;(focus exact oN)) | refine ⟨fun _=>?_,fun h=>absurd (by first | assumption | rfl | decide | omega) h⟩ | refine ⟨fun h=>absurd h (by first | assumption | rfl | decide | omega),fun _=>?_⟩ | refine And.intro ⟨by exact fitS,by exact fitS⟩ ⟨fun _=>?_,fun h=>absurd (by first | assumption | rfl | decide | omega) h⟩ | refine And.intro ⟨by exact fitS,by exact fitS⟩ ⟨fun h=>absurd h (by first | assumption | rfl | decide | omega),fun _=>?_⟩ | (apply cP;(focus assumption)) | (apply cE;(focus assumption)) | refine ⟨by first | decide | omega,?_⟩);((conv=>whnf))) | ((conv in (_[_]?)=>tactic=>first | exact oL | exact gS (by assumption));(conv=>whnf))))
  exact ⟨rfl,Evo.refl _⟩
structure TgQ where
 tr:List UInt8
 tn:List UInt8
 kv:Int
 tb:List UInt8
 ab:List UInt8
 sr:List UInt8
 sn:List UInt8
 till:Int
 nonce:Int
def TgQ.cells (q:TgQ):List PV:=[.str q.tr,.str q.tn,.int .i64 q.kv,sl q.tb,sl q.ab,.str q.sr,.str q.sn,.int .i64 q.till,.int .i64 q.nonce]
def tgMsg (q:TgQ):Msg:={ mZ with kind:=2,t1:=q.tr,t2:=q.tn,tKv:=q.kv,tB:=q.tb,tBo:=none,tAu:=q.ab,tAuo:=none,t3:=q.sr,t4:=q.sn,tTill:=q.till,tNonce:=q.nonce }
def TgQ.ok (q:TgQ):Bool:=tickB q.tr q.tn q.kv q.tb.length&&inZ q.ab.length 1 800&&isPrincB q.sr q.sn&&inZ q.till 0 1073741824&&inZ q.nonce 0 1073741824
theorem tgMsg_is (q:TgQ):isB (tgMsg q)=q.ok:=by
 have h:isB (tgMsg q)=(q.ok&&othersB (tgMsg q)):=rfl
 have h2:othersB (tgMsg q)=true:=rfl
 rw [h,h2,Bool.and_true]
theorem tgMsg_len (q:TgQ) (h:q.ok=true):(laidB (tgMsg q)).length≤2000:=by
 unfold TgQ.ok at h
 simp only [Bool.and_eq_true] at h
 have g1:=tick_len h.1.1.1.1
 have g2:=princ_len h.1.1.2
 have g3:=inZ_le h.1.1.1.2
 have h0:=wrapB_len 108 [ticketE q.tr q.tn q.kv q.tb,wrapB 4 q.ab,princE q.sr q.sn,intE q.till,intE q.nonce].flatten
 have e1:=ticketE_len q.tr q.tn q.kv q.tb
 have e2:=wrapB_len 4 q.ab
 have e3:=princE_len q.sr q.sn
 have e4:=intE_len q.till
 have e5:=intE_len q.nonce
 simp only [List.flatten_cons,List.flatten_nil,List.length_append,List.length_nil] at h0
 show (wrapB 108 [ticketE q.tr q.tn q.kv q.tb,wrapB 4 q.ab,princE q.sr q.sn,intE q.till,intE q.nonce].flatten).length≤2000
 simp only [List.flatten_cons,List.flatten_nil,List.length_append,List.length_nil]
 omega
theorem encTg_yes (q:TgQ) (h:q.ok=true):encV (tgMsg q)=.tup [sl (laidB (tgMsg q)),.int .i64 0]:=encV_yes ⟨(tgMsg_is q).trans h,tgMsg_len q h⟩
theorem encTg_no (q:TgQ) (h:q.ok=false):encV (tgMsg q)=.tup [.slice 0 [] (some 5),.int .i64 1]:=encV_no fun hh=>by rw [tgMsg_is q,h] at hh;exact absurd hh.1 (by decide)
structure TgQ.fit (q:TgQ):Prop where
 tr:q.tr.length≤1000000
 tn:q.tn.length≤1000000
 sr:q.sr.length≤1000000
 sn:q.sn.length≤1000000
 tb:q.tb.length≤140737488355328
 ab:q.ab.length≤140737488355328
theorem TgQ.fits {q:TgQ} (h:q.fit):(tgMsg q).fits:=by
 obtain ⟨f1,f2,f3,f4,_,_⟩:=h
 unfold Msg.fits tgMsg mZ
 exact ⟨Nat.zero_le _,Nat.zero_le _,Nat.zero_le _,Nat.zero_le _,by show q.tr.length≤_;omega,by show q.tn.length≤_;omega,by show q.sr.length≤_;omega,by show q.sn.length≤_;omega,Nat.zero_le _,Nat.zero_le _,Nat.zero_le _,Nat.zero_le _,Nat.zero_le _,Nat.zero_le _⟩
theorem newBox (H:PH) {k:List UInt8} (hk:k.length=32):BoxAt (H++[speckO (k.take 16),boxO k H.length]) (H.length+1) k:=by
 refine ⟨hk,H.length,0,0,0,0,speckO (k.take 16),?_,?_,speck_key _⟩
 ·rw [List.getElem?_append_right (by omega),show H.length+1 - H.length=1 by omega];rfl
 ·rw [List.getElem?_append_right (by omega),show H.length - H.length=0 by omega];rfl
def tgsV (realm:List UInt8) (l:List Ent) (n:Int) (q:TgQ) (now:Int) (draw:Nat→UInt8) (T:(List UInt8×List UInt8)×Int) (W:Prt→List UInt8×Int):RepO×Int:=match lateB now||!q.ok with
 | true=>(repZ,1)
 | false=>match shownV realm l q.tr q.tn q.kv q.tb now with
  | (p,e)=>match decide (e=0) with
   | false=>(repZ,e)
   | true=>match decide (provesV (keyB p.k) p q.ab now=0) with
    | false=>(repZ,provesV (keyB p.k) p q.ab now)
    | true=>match decide (T.2=0) with
     | false=>(repZ,T.2)
     | true=>match decide ((W p).2=0) with
      | false=>(repZ,(W p).2)
      | true=>match decide (q.till<now) with
       | true=>(repZ,7)
       | false=>makeV l n T.1.1 T.1.2 ⟨p.r,p.n,draw,(W p).1,now,min q.till p.en⟩ q.nonce (keyB p.k) 8
set_option maxHeartbeats 8000000
theorem shown_ok {realm:List UInt8} {l:List Ent} {tr tn:List UInt8} {kv:Int} {tb:List UInt8} {now:Int} (h:(shownV realm l tr tn kv tb now).2=0):isPartB (shownV realm l tr tn kv tb now).1=true:=by
 by_cases h2:tn=krb realm
 ·cases hL:lastE (isK tr tn kv) l with
  | none=>rw [sh_4 h2 hL] at h;exact absurd h (by decide)
  | some e =>
   cases hO:openK e.key 2 tb with
   | none=>rw [sh_3 h2 hL hO] at h;exact absurd h (by decide)
   | some b =>
    by_cases hG:gEPrt (partC b) b=0
    ·by_cases h3:(gPPrt (partC b) b).en<now
     ·rw [sh_7 h2 hL hO hG h3] at h;exact absurd h (by decide)
     ·by_cases h4:now+5<(gPPrt (partC b) b).st
      ·rw [sh_8 h2 hL hO hG h3 h4] at h;exact absurd h (by decide)
      ·rw [sh_0 h2 hL hO hG h3 h4]
       show isPartB (gPPrt (partC b) b)=true
       unfold gEPrt at hG
       unfold gPPrt
       cases ho:okPrt (partC b) b with
       | false=>rw [ho] at hG;exact absurd hG (by decide)
       | true=>rw [if_pos rfl];exact (okPrt_iff.1 ho).1
    ·rw [sh_2 h2 hL hO hG] at h;exact absurd h (by decide)
 ·rw [sh_6 h2] at h;exact absurd h (by decide)
section
variable {realm : List UInt8} {l : List Ent} {n : Int} {q : TgQ} {now : Int} {draw : Nat → UInt8} {T : (List UInt8 × List UInt8) × Int} {W : Prt → List UInt8 × Int} {p : Prt} {e : Int}
theorem tgs_1 (h:(lateB now||!q.ok)=true):tgsV realm l n q now draw T W=(repZ,1):=by unfold tgsV;rw [h]
theorem tgs_2 (hl:lateB now=false) (hq:q.ok=true) (hS:shownV realm l q.tr q.tn q.kv q.tb now=(p,e)) (he:e≠0):tgsV realm l n q now draw T W=(repZ,e):=by unfold tgsV;rw [hl,hq,hS];dsimp only [Bool.not_true,Bool.or_self];rw [decide_eq_false he];try rfl
theorem tgs_3 (hl:lateB now=false) (hq:q.ok=true) (hS:shownV realm l q.tr q.tn q.kv q.tb now=(p,0)) (hp:provesV (keyB p.k) p q.ab now≠0):tgsV realm l n q now draw T W=(repZ,provesV (keyB p.k) p q.ab now):=by
 unfold tgsV;rw [hl,hq,hS];dsimp only [Bool.not_true,Bool.or_self];rw [decide_eq_true rfl];dsimp only;rw [decide_eq_false hp];try rfl
theorem tgs_4 (hl:lateB now=false) (hq:q.ok=true) (hS:shownV realm l q.tr q.tn q.kv q.tb now=(p,0)) (hp:provesV (keyB p.k) p q.ab now=0) (hT:T.2≠0):tgsV realm l n q now draw T W=(repZ,T.2):=by
 unfold tgsV;rw [hl,hq,hS];dsimp only [Bool.not_true,Bool.or_self];rw [decide_eq_true rfl];dsimp only;rw [decide_eq_true hp];dsimp only;rw [decide_eq_false hT];try rfl
theorem tgs_5 (hl:lateB now=false) (hq:q.ok=true) (hS:shownV realm l q.tr q.tn q.kv q.tb now=(p,0)) (hp:provesV (keyB p.k) p q.ab now=0) (hT:T.2=0) (hW:(W p).2≠0):tgsV realm l n q now draw T W=(repZ,(W p).2):=by
 unfold tgsV;rw [hl,hq,hS];dsimp only [Bool.not_true,Bool.or_self];rw [decide_eq_true rfl];dsimp only;rw [decide_eq_true hp];dsimp only;rw [decide_eq_true hT];dsimp only;rw [decide_eq_false hW];try rfl
theorem tgs_6 (hl:lateB now=false) (hq:q.ok=true) (hS:shownV realm l q.tr q.tn q.kv q.tb now=(p,0)) (hp:provesV (keyB p.k) p q.ab now=0) (hT:T.2=0) (hW:(W p).2=0) (ht:q.till<now):tgsV realm l n q now draw T W=(repZ,7):=by
 unfold tgsV;rw [hl,hq,hS];dsimp only [Bool.not_true,Bool.or_self];rw [decide_eq_true rfl];dsimp only;rw [decide_eq_true hp];dsimp only;rw [decide_eq_true hT];dsimp only;rw [decide_eq_true hW];dsimp only;rw [decide_eq_true ht];try rfl
theorem tgs_7 (hl:lateB now=false) (hq:q.ok=true) (hS:shownV realm l q.tr q.tn q.kv q.tb now=(p,0)) (hp:provesV (keyB p.k) p q.ab now=0) (hT:T.2=0) (hW:(W p).2=0) (ht:¬q.till<now) :
  tgsV realm l n q now draw T W=makeV l n T.1.1 T.1.2 ⟨p.r,p.n,draw,(W p).1,now,min q.till p.en⟩ q.nonce (keyB p.k) 8:=by
 unfold tgsV;rw [hl,hq,hS];dsimp only [Bool.not_true,Bool.or_self];rw [decide_eq_true rfl];dsimp only;rw [decide_eq_true hp];dsimp only;rw [decide_eq_true hT];dsimp only;rw [decide_eq_true hW];dsimp only;rw [decide_eq_false ht];try rfl
end
theorem c29g {H:PH} {kid rid:Nat} {realm:List UInt8} {rs ls ps:PV} {l:List Ent} {n i:Nat} (hK:Kd H kid rid realm rs ls ps l n i) (hn:n≤100000) (hi:i≤100000) (hrl:realm.length≤1000000) (q:TgQ) (hf:q.fit) (now:Int) (draw:Nat→UInt8)
  (T:(List UInt8×List UInt8)×Int) (hT1:T.1.1.length≤1000000) (hT2:T.1.2.length≤1000000) (W:Prt→List UInt8×Int)
  (hTg:∀X,Kd X kid rid realm rs ls ps l n i→CK prog 68 [.ptr (some (kid,0)),.agg [.str q.sr,.str q.sn]] X fun x H'=>x=.tup [.agg [.str T.1.1,.str T.1.2],.int .i64 T.2]∧Evo (fun _=>False) X H')
  (hWl:∀p,isPartB p=true→(W p).1.length≤1000000)
  (hWp:∀X p,isPartB p=true→Kd X kid rid realm rs ls ps l n i→CK prog 69 [.ptr (some (kid,0)),.agg p.cells,.str q.tr,.str q.sr] X fun x H'=>x=.tup [.str (W p).1,.int .i64 (W p).2]∧Evo (fun _=>False) X H') :
  CK prog 29 [.ptr (some (kid,0)),.agg q.cells,.int .i64 now,.agg (keyC draw)] H fun x H'=>x=.tup [.agg (tgsV realm l n q now draw T W).1.cells,.int .i64 (tgsV realm l n q now draw T W).2] ∧
   Kd H' kid rid realm rs ls ps l (bump (tgsV realm l n q now draw T W) n 2) (bump (tgsV realm l n q now draw T W) i 1)∧Evo (·=kid) H H':=by
 obtain ⟨R,hR0⟩:∃R,R=tgsV realm l n q now draw T W:=⟨_,rfl⟩
 rw [←hR0]
 have e1:Evo (fun _=>False) H (H++[z30]):=Evo.app H _
 have hK1:=hK.evo e1 id id
 have hlk:kid<H.length:=by obtain ⟨v,hv⟩:=hK.k;exact (List.getElem?_eq_some_iff.1 hv).1
 have hlr:rid<H.length:=by have:=hK.ring.ex.choose_spec;exact (List.getElem?_eq_some_iff.1 this).1
 have ha:(H++[z30])[H.length]? = some z30:=gL H _
 have bad:∀(X:PH),X[H.length]? = some z30→Evo (fun _=>False) H X→∀(o':PObj) (k:Int),k≠0→R=(repZ,k)→Kd (X.set H.length o') kid rid realm rs ls ps l (bump R n 2) (bump R i 1)∧Evo (·=kid) H (X.set H.length o'):=fun X hX eX o' k hk hR=>by
  have e':=eX.put hX z30T.1 z30T.2 (Nat.le_refl _) o'
  have hb:∀m j,bump R m j=m:=fun m j=>if_neg (by rw [hR];exact hk)
  rw [hb,hb]
  exact ⟨hK.evo e' id id,e'.mono fun _ h=>h.elim⟩
 have k48:=c48 now
 (refine fnS (imm:=imm29t) ttT3_ok func29 ?_;(conv=>whnf))
 cases hq:q.ok with
 | false =>
  have k47:Pure prog 47 [.agg (tgMsg q).cells] _:=(c47 (tgMsg q) (TgQ.fits hf)).of_eq (encTg_no q hq)
  have hR:R=(repZ,1):=by rw [hR0];exact tgs_1 (by rw [hq];simp)
  refine cP k47 ?_
  conv=>whnf
  cases hl:lateB now <;> rw [hl] at k48 <;> (repeat (first | ((first | (apply exA;(focus exact oN)) | refine ⟨fun _=>?_,fun h=>absurd (by first | assumption | rfl | decide | omega) h⟩ | refine ⟨fun h=>absurd h (by first | assumption | rfl | decide | omega),fun _=>?_⟩ | refine And.intro ⟨by exact fitS,by exact fitS⟩ ⟨fun _=>?_,fun h=>absurd (by first | assumption | rfl | decide | omega) h⟩ | refine And.intro ⟨by exact fitS,by exact fitS⟩ ⟨fun h=>absurd h (by first | assumption | rfl | decide | omega),fun _=>?_⟩ | (apply cP;(focus assumption)) | (apply cE;(focus assumption)) | refine ⟨by first | decide | omega,?_⟩);((conv=>whnf))) | ((conv in (_[_]?)=>tactic=>first | exact oL | exact gS (by assumption));(conv=>whnf))))
  ·exact ⟨by rw [hR];rfl,bad _ ha e1 _ _ (by decide) hR⟩
  ·exact ⟨by rw [hR];rfl,bad _ ha e1 _ _ (by decide) hR⟩
 | true =>
  have k47:Pure prog 47 [.agg (tgMsg q).cells] _:=(c47 (tgMsg q) (TgQ.fits hf)).of_eq (encTg_yes q hq)
  refine cP k47 ?_
  conv=>whnf
  cases hl:lateB now with
  | true =>
   have hR:R=(repZ,1):=by rw [hR0];exact tgs_1 (by rw [hl];rfl)
   rw [hl] at k48
   (repeat (first | ((first | (apply exA;(focus exact oN)) | refine ⟨fun _=>?_,fun h=>absurd (by first | assumption | rfl | decide | omega) h⟩ | refine ⟨fun h=>absurd h (by first | assumption | rfl | decide | omega),fun _=>?_⟩ | refine And.intro ⟨by exact fitS,by exact fitS⟩ ⟨fun _=>?_,fun h=>absurd (by first | assumption | rfl | decide | omega) h⟩ | refine And.intro ⟨by exact fitS,by exact fitS⟩ ⟨fun h=>absurd h (by first | assumption | rfl | decide | omega),fun _=>?_⟩ | (apply cP;(focus assumption)) | (apply cE;(focus assumption)) | refine ⟨by first | decide | omega,?_⟩);((conv=>whnf))) | ((conv in (_[_]?)=>tactic=>first | exact oL | exact gS (by assumption));(conv=>whnf))))
   exact ⟨by rw [hR];rfl,bad _ ha e1 _ _ (by decide) hR⟩
  | false =>
   rw [hl] at k48
   have hnow:0≤now∧now≤1073741824:=by
    unfold lateB at hl
    rw [Bool.or_eq_false_iff,decide_eq_false_iff_not,decide_eq_false_iff_not] at hl
    omega
   (repeat (first | ((first | (apply exA;(focus exact oN)) | refine ⟨fun _=>?_,fun h=>absurd (by first | assumption | rfl | decide | omega) h⟩ | refine ⟨fun h=>absurd h (by first | assumption | rfl | decide | omega),fun _=>?_⟩ | refine And.intro ⟨by exact fitS,by exact fitS⟩ ⟨fun _=>?_,fun h=>absurd (by first | assumption | rfl | decide | omega) h⟩ | refine And.intro ⟨by exact fitS,by exact fitS⟩ ⟨fun h=>absurd h (by first | assumption | rfl | decide | omega),fun _=>?_⟩ | (apply cP;(focus assumption)) | (apply cE;(focus assumption)) | refine ⟨by first | decide | omega,?_⟩);((conv=>whnf))) | ((conv in (_[_]?)=>tactic=>first | exact oL | exact gS (by assumption));(conv=>whnf))))
   refine cO (c65 hK1 hrl q.tr q.tn q.kv q.tb hf.tb now hnow.1 hnow.2) ?_
   rintro _ H2 ⟨rfl,e2⟩
   have hok:=@shown_ok realm l q.tr q.tn q.kv q.tb now
   obtain ⟨p,hp⟩:∃p,p=(shownV realm l q.tr q.tn q.kv q.tb now).1:=⟨_,rfl⟩
   obtain ⟨e,he⟩:∃e,e=(shownV realm l q.tr q.tn q.kv q.tb now).2:=⟨_,rfl⟩
   have hS:shownV realm l q.tr q.tn q.kv q.tb now=(p,e):=by rw [hp,he]
   rw [hS] at hok ⊢
   have hok:e=0→isPartB p=true:=hok
   have eA:Evo (fun _=>False) H H2:=e1.trans e2
   have ha2:=e2.look ha id z30T.1 z30T.2
   have hlt:H.length<H2.length:=(List.getElem?_eq_some_iff.1 ha2).1
   have eX3:Evo (fun _=>False) H ((H2++[z50]).set H2.length (⟨50,p.cells,1⟩:PObj)):=(eA.trans (Evo.app _ _)).put (gL H2 _) z50T.1 z50T.2 (by omega) _
   have ho3:((H2++[z50]).set H2.length (⟨50,p.cells,1⟩:PObj))[H2.length]? = some ⟨50,p.cells,1⟩:=gS (gL H2 _)
   have ha3:((H2++[z50]).set H2.length (⟨50,p.cells,1⟩:PObj))[H.length]? = some z30:=by rw [List.getElem?_set_ne (by omega),List.getElem?_append_left hlt];exact ha2
   by_cases he0:e=0
   ·subst he0
    have hpB:=hok rfl
    conv=>whnf
    (repeat (first | ((first | (apply exA;(focus exact oN)) | refine ⟨fun _=>?_,fun h=>absurd (by first | assumption | rfl | decide | omega) h⟩ | refine ⟨fun h=>absurd h (by first | assumption | rfl | decide | omega),fun _=>?_⟩ | refine And.intro ⟨by exact fitS,by exact fitS⟩ ⟨fun _=>?_,fun h=>absurd (by first | assumption | rfl | decide | omega) h⟩ | refine And.intro ⟨by exact fitS,by exact fitS⟩ ⟨fun h=>absurd h (by first | assumption | rfl | decide | omega),fun _=>?_⟩ | (apply cP;(focus assumption)) | (apply cE;(focus assumption)) | refine ⟨by first | decide | omega,?_⟩);((conv=>whnf))) | ((conv in (_[_]?)=>tactic=>first | exact oL | exact gS (by assumption));(conv=>whnf))))
    obtain ⟨X3,hX3⟩:∃X3,X3=(H2++[z50]).set H2.length (⟨50,p.cells,1⟩:PObj):=⟨_,rfl⟩
    rw [←hX3] at eX3 ho3 ha3
    refine callK_at hX3.symm ?_
    refine cO (c66 (keyB p.k) rfl X3) ?_
    rintro _ X4 ⟨rfl,hX4⟩
    have e34:Evo (fun _=>False) X3 X4:=by rw [hX4];exact Evo.app _ _
    have hb4:BoxAt X4 (X3.length+1) (keyB p.k):=by rw [hX4];exact newBox X3 rfl
    have ho4:=e34.look ho3 id (o50T _ _).1 (o50T _ _).2
    have ha4:=e34.look ha3 id z30T.1 z30T.2
    conv=>whnf
    (repeat (first | ((first | (apply exA;(focus exact oN)) | refine ⟨fun _=>?_,fun h=>absurd (by first | assumption | rfl | decide | omega) h⟩ | refine ⟨fun h=>absurd h (by first | assumption | rfl | decide | omega),fun _=>?_⟩ | refine And.intro ⟨by exact fitS,by exact fitS⟩ ⟨fun _=>?_,fun h=>absurd (by first | assumption | rfl | decide | omega) h⟩ | refine And.intro ⟨by exact fitS,by exact fitS⟩ ⟨fun h=>absurd h (by first | assumption | rfl | decide | omega),fun _=>?_⟩ | (apply cP;(focus assumption)) | (apply cE;(focus assumption)) | refine ⟨by first | decide | omega,?_⟩);((conv=>whnf))) | ((conv in (_[_]?)=>tactic=>first | exact oL | exact gS (by assumption));(conv=>whnf))))
    refine cO (c67 hb4 p q.ab hf.ab now hnow.1 hnow.2) ?_
    rintro _ X5 ⟨rfl,e45⟩
    have eX5:Evo (fun _=>False) H X5:=(eX3.trans e34).trans e45
    have ho5:=e45.look ho4 id (o50T _ _).1 (o50T _ _).2
    have ha5:=e45.look ha4 id z30T.1 z30T.2
    have hb5:=e45.box _ _ hb4
    by_cases hpr:provesV (keyB p.k) p q.ab now=0
    ·rw [hpr]
     conv=>whnf
     (repeat (first | ((first | (apply exA;(focus exact oN)) | refine ⟨fun _=>?_,fun h=>absurd (by first | assumption | rfl | decide | omega) h⟩ | refine ⟨fun h=>absurd h (by first | assumption | rfl | decide | omega),fun _=>?_⟩ | refine And.intro ⟨by exact fitS,by exact fitS⟩ ⟨fun _=>?_,fun h=>absurd (by first | assumption | rfl | decide | omega) h⟩ | refine And.intro ⟨by exact fitS,by exact fitS⟩ ⟨fun h=>absurd h (by first | assumption | rfl | decide | omega),fun _=>?_⟩ | (apply cP;(focus assumption)) | (apply cE;(focus assumption)) | refine ⟨by first | decide | omega,?_⟩);((conv=>whnf))) | ((conv in (_[_]?)=>tactic=>first | exact oL | exact gS (by assumption));(conv=>whnf))))
     refine cO (hTg X5 (hK.evo eX5 id id)) ?_
     rintro _ X6 ⟨rfl,e56⟩
     have eX6:=eX5.trans e56
     have ho6:=e56.look ho5 id (o50T _ _).1 (o50T _ _).2
     have ha6:=e56.look ha5 id z30T.1 z30T.2
     have hb6:=e56.box _ _ hb5
     have hl6:H.length<X6.length:=(List.getElem?_eq_some_iff.1 ha6).1
     have ho6l:H2.length<X6.length:=(List.getElem?_eq_some_iff.1 ho6).1
     obtain ⟨X7,hX7⟩:∃X7,X7=(X6++[z25]).set X6.length (⟨25,[.str T.1.1,.str T.1.2],1⟩:PObj):=⟨_,rfl⟩
     have e67:Evo (fun _=>False) X6 X7:=by rw [hX7];exact (Evo.app _ _).put (gL X6 _) z25T.1 z25T.2 (Nat.le_refl _) _
     have eX7:=eX6.trans e67
     have ho7:=e67.look ho6 id (o50T _ _).1 (o50T _ _).2
     have ha7:=e67.look ha6 id z30T.1 z30T.2
     have hb7:=e67.box _ _ hb6
     have ht7:X7[X6.length]? = some (⟨25,[.str T.1.1,.str T.1.2],1⟩:PObj):=by rw [hX7];exact gS (gL X6 _)
     have ho7':=ho7
     have ha7':=ha7
     rw [hX7] at ho7' ha7'
     by_cases hT0:T.2=0
     ·rw [hT0]
      conv=>whnf
      (repeat (first | ((first | (apply exA;(focus exact oN)) | refine ⟨fun _=>?_,fun h=>absurd (by first | assumption | rfl | decide | omega) h⟩ | refine ⟨fun h=>absurd h (by first | assumption | rfl | decide | omega),fun _=>?_⟩ | refine And.intro ⟨by exact fitS,by exact fitS⟩ ⟨fun _=>?_,fun h=>absurd (by first | assumption | rfl | decide | omega) h⟩ | refine And.intro ⟨by exact fitS,by exact fitS⟩ ⟨fun h=>absurd h (by first | assumption | rfl | decide | omega),fun _=>?_⟩ | (apply cP;(focus assumption)) | (apply cE;(focus assumption)) | refine ⟨by first | decide | omega,?_⟩);((conv=>whnf))) | ((conv in (_[_]?)=>tactic=>first | exact oL | exact gS (by assumption));(conv=>whnf))))
      refine callK_at hX7.symm ?_
      refine cO (hWp X7 p hpB (hK.evo eX7 id id)) ?_
      rintro _ X8 ⟨rfl,e78⟩
      have eX8:=eX7.trans e78
      have ho8:=e78.look ho7 id (o50T _ _).1 (o50T _ _).2
      have ha8:=e78.look ha7 id z30T.1 z30T.2
      have hb8:=e78.box _ _ hb7
      have ht8:=e78.look ht7 id z25T.1 z25T.2
      by_cases hW0:(W p).2=0
      ·rw [hW0]
       by_cases ht:q.till<now
       ·have hR:R=(repZ,7):=by rw [hR0];exact tgs_6 hl hq hS hpr hT0 hW0 ht
        conv=>whnf
        (repeat (first | ((first | (apply exA;(focus exact oN)) | refine ⟨fun _=>?_,fun h=>absurd (by first | assumption | rfl | decide | omega) h⟩ | refine ⟨fun h=>absurd h (by first | assumption | rfl | decide | omega),fun _=>?_⟩ | refine And.intro ⟨by exact fitS,by exact fitS⟩ ⟨fun _=>?_,fun h=>absurd (by first | assumption | rfl | decide | omega) h⟩ | refine And.intro ⟨by exact fitS,by exact fitS⟩ ⟨fun h=>absurd h (by first | assumption | rfl | decide | omega),fun _=>?_⟩ | (apply cP;(focus assumption)) | (apply cE;(focus assumption)) | refine ⟨by first | decide | omega,?_⟩);((conv=>whnf))) | ((conv in (_[_]?)=>tactic=>first | exact oL | exact gS (by assumption));(conv=>whnf))))
        exact ⟨by rw [hR];rfl,bad _ ha8 eX8 _ _ (by decide) hR⟩
       ·have hR:=tgs_7 (n:=n) (draw:=draw) (W:=W) hl hq hS hpr hT0 hW0 ht
        rw [←hR0] at hR
        obtain ⟨P,hP⟩:∃P:Prt,P=⟨p.r,p.n,draw,(W p).1,now,min q.till p.en⟩:=⟨_,rfl⟩
        rw [←hP] at hR
        obtain ⟨X9,hX9⟩:∃X9,X9=(X8++[z50]).set X8.length (⟨50,P.cells,1⟩:PObj):=⟨_,rfl⟩
        have e89:Evo (fun _=>False) X8 X9:=by rw [hX9];exact (Evo.app _ _).put (gL X8 _) z50T.1 z50T.2 (Nat.le_refl _) _
        have eX9:=eX8.trans e89
        have ha9:=e89.look ha8 id z30T.1 z30T.2
        have ht9:=e89.look ht8 id z25T.1 z25T.2
        have hb9:=e89.box _ _ hb8
        have hp9:X9[X8.length]? = some (⟨50,P.cells,1⟩:PObj):=by rw [hX9];exact gS (gL X8 _)
        have ht9':=ht9
        rw [hX9,hP] at ht9'
        obtain ⟨g1,g2,g3⟩:=prPrt hpB
        conv=>whnf
        (repeat (first | ((first | (apply exA;(focus exact oN)) | refine ⟨fun _=>?_,fun h=>absurd (by first | assumption | rfl | decide | omega) h⟩ | refine ⟨fun h=>absurd h (by first | assumption | rfl | decide | omega),fun _=>?_⟩ | refine And.intro ⟨by exact fitS,by exact fitS⟩ ⟨fun _=>?_,fun h=>absurd (by first | assumption | rfl | decide | omega) h⟩ | refine And.intro ⟨by exact fitS,by exact fitS⟩ ⟨fun h=>absurd h (by first | assumption | rfl | decide | omega),fun _=>?_⟩ | (apply cP;(focus assumption)) | (apply cE;(focus assumption)) | refine ⟨by first | decide | omega,?_⟩);((conv=>whnf))) | ((conv in (_[_]?)=>tactic=>first | exact oL | exact gS (by assumption));(conv=>whnf))))
        refine callK_at (Y:=X9) (by rw [hX9,hP];rfl) ?_
        refine cA (args':=[.ptr (some (kid,0)),.agg ([.str T.1.1,.str T.1.2]++P.cells++[.int .i64 q.nonce,.ptr (some (X3.length+1,0)),.int .i64 8])]) (by rw [hP];rfl) ?_
        refine cO (c51 (hK.evo eX9 id id) hn hi T.1.1 T.1.2 hT1 hT2 P (by rw [hP];exact g1) (by rw [hP];exact g2) (by rw [hP];exact hWl p hpB) q.nonce (X3.length+1) (keyB p.k) hb9 8 rfl) ?_
        rintro _ X10 ⟨rfl,hK10,e10⟩
        rw [←hR] at hK10 ⊢
        have ha10:=e10.look ha9 (by show ¬H.length=kid;omega) z30T.1 z30T.2
        conv=>whnf
        (repeat (first | ((first | (apply exA;(focus exact oN)) | refine ⟨fun _=>?_,fun h=>absurd (by first | assumption | rfl | decide | omega) h⟩ | refine ⟨fun h=>absurd h (by first | assumption | rfl | decide | omega),fun _=>?_⟩ | refine And.intro ⟨by exact fitS,by exact fitS⟩ ⟨fun _=>?_,fun h=>absurd (by first | assumption | rfl | decide | omega) h⟩ | refine And.intro ⟨by exact fitS,by exact fitS⟩ ⟨fun h=>absurd h (by first | assumption | rfl | decide | omega),fun _=>?_⟩ | (apply cP;(focus assumption)) | (apply cE;(focus assumption)) | refine ⟨by first | decide | omega,?_⟩);((conv=>whnf))) | ((conv in (_[_]?)=>tactic=>first | exact oL | exact gS (by assumption));(conv=>whnf))))
        have e11:∀o,Evo (fun i=>i=H.length) X10 (X10.set H.length o):=fun o=>Evo.setOther ha10 rfl z30T.1 z30T.2
        refine ⟨rfl,hK10.evo (e11 _) (by show ¬kid=H.length;omega) (by show ¬rid=H.length;omega),?_⟩
        exact Evo.drop (S:=(·=kid)) (((eX9.mono fun _ h=>h.elim).trans (e10.mono fun _ h=>.inl h)).trans ((e11 _).mono fun _ h=>.inr h)) (Nat.le_refl _)
      ·have hR:R=(repZ,(W p).2):=by rw [hR0];exact tgs_5 hl hq hS hpr hT0 hW0
       conv=>whnf
       (repeat (first | ((first | (apply exA;(focus exact oN)) | refine ⟨fun _=>?_,fun h=>absurd (by first | assumption | rfl | decide | omega) h⟩ | refine ⟨fun h=>absurd h (by first | assumption | rfl | decide | omega),fun _=>?_⟩ | refine And.intro ⟨by exact fitS,by exact fitS⟩ ⟨fun _=>?_,fun h=>absurd (by first | assumption | rfl | decide | omega) h⟩ | refine And.intro ⟨by exact fitS,by exact fitS⟩ ⟨fun h=>absurd h (by first | assumption | rfl | decide | omega),fun _=>?_⟩ | (apply cP;(focus assumption)) | (apply cE;(focus assumption)) | refine ⟨by first | decide | omega,?_⟩);((conv=>whnf))) | ((conv in (_[_]?)=>tactic=>first | exact oL | exact gS (by assumption));(conv=>whnf))))
       exact ⟨by rw [hR];rfl,bad _ ha8 eX8 _ _ hW0 hR⟩
     ·have hR:R=(repZ,T.2):=by rw [hR0];exact tgs_4 hl hq hS hpr hT0
      conv=>whnf
      (repeat (first | ((first | (apply exA;(focus exact oN)) | refine ⟨fun _=>?_,fun h=>absurd (by first | assumption | rfl | decide | omega) h⟩ | refine ⟨fun h=>absurd h (by first | assumption | rfl | decide | omega),fun _=>?_⟩ | refine And.intro ⟨by exact fitS,by exact fitS⟩ ⟨fun _=>?_,fun h=>absurd (by first | assumption | rfl | decide | omega) h⟩ | refine And.intro ⟨by exact fitS,by exact fitS⟩ ⟨fun h=>absurd h (by first | assumption | rfl | decide | omega),fun _=>?_⟩ | (apply cP;(focus assumption)) | (apply cE;(focus assumption)) | refine ⟨by first | decide | omega,?_⟩);((conv=>whnf))) | ((conv in (_[_]?)=>tactic=>first | exact oL | exact gS (by assumption));(conv=>whnf))))
      refine ⟨by rw [hR];rfl,?_⟩
      have:=bad X7 ha7 eX7
      rw [hX7] at this
      exact this _ _ hT0 hR
    ·have hR:R=(repZ,provesV (keyB p.k) p q.ab now):=by rw [hR0];exact tgs_3 hl hq hS hpr
     generalize provesV (keyB p.k) p q.ab now=z at *
     conv=>whnf
     (repeat (first | ((first | (apply exA;(focus exact oN)) | refine ⟨fun _=>?_,fun h=>absurd (by first | assumption | rfl | decide | omega) h⟩ | refine ⟨fun h=>absurd h (by first | assumption | rfl | decide | omega),fun _=>?_⟩ | refine And.intro ⟨by exact fitS,by exact fitS⟩ ⟨fun _=>?_,fun h=>absurd (by first | assumption | rfl | decide | omega) h⟩ | refine And.intro ⟨by exact fitS,by exact fitS⟩ ⟨fun h=>absurd h (by first | assumption | rfl | decide | omega),fun _=>?_⟩ | (apply cP;(focus assumption)) | (apply cE;(focus assumption)) | refine ⟨by first | decide | omega,?_⟩);((conv=>whnf))) | ((conv in (_[_]?)=>tactic=>first | exact oL | exact gS (by assumption));(conv=>whnf))))
     exact ⟨by rw [hR];rfl,bad _ ha5 eX5 _ _ hpr hR⟩
   ·have hR:R=(repZ,e):=by rw [hR0];exact tgs_2 hl hq hS he0
    conv=>whnf
    (repeat (first | ((first | (apply exA;(focus exact oN)) | refine ⟨fun _=>?_,fun h=>absurd (by first | assumption | rfl | decide | omega) h⟩ | refine ⟨fun h=>absurd h (by first | assumption | rfl | decide | omega),fun _=>?_⟩ | refine And.intro ⟨by exact fitS,by exact fitS⟩ ⟨fun _=>?_,fun h=>absurd (by first | assumption | rfl | decide | omega) h⟩ | refine And.intro ⟨by exact fitS,by exact fitS⟩ ⟨fun h=>absurd h (by first | assumption | rfl | decide | omega),fun _=>?_⟩ | (apply cP;(focus assumption)) | (apply cE;(focus assumption)) | refine ⟨by first | decide | omega,?_⟩);((conv=>whnf))) | ((conv in (_[_]?)=>tactic=>first | exact oL | exact gS (by assumption));(conv=>whnf))))
    exact ⟨by rw [hR];rfl,bad _ ha3 eX3 _ _ he0 hR⟩
end Go.Proofs.Tryz
