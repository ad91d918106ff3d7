import Derived.Test.YtikacleldnaphaaGreatDoorA8
set_option linter.all false
set_option maxRecDepth 100000
set_option maxHeartbeats 4000000
namespace Go.Proofs.Tryz
open Go Ps
def ttN:TT:=[(3,⟨.int .i64,1,8,[.int .i64 0]⟩),(4,⟨.bool,1,1,[.bool false]⟩),(5,⟨.int .u8,1,1,[.int .u8 0]⟩),(9,⟨.str,1,16,[.str []]⟩),(22,⟨.slice 5,1,24,[.slice 0 [] (some 5)]⟩),(30,⟨.strct [(9,0),(9,1)],2,32,[.str [],.str []]⟩),(64,⟨.strct [(30,0),(30,2),(3,4),(3,5)],6,80,[.str [],.str [],.str [],.str [],.int .i64 0,.int .i64 0]⟩),(66,⟨.strct [(30,0),(3,2),(22,3)],4,64,[.str [],.str [],.int .i64 0,.slice 0 [] (some 5)]⟩),(68,⟨.strct [(66,0),(22,4),(30,5),(3,7),(3,8)],9,136,[.str [],.str [],.int .i64 0,.slice 0 [] (some 5),.slice 0 [] (some 5),.str [],.str [],.int .i64 0,.int .i64 0]⟩),(70,⟨.strct [(30,0),(66,2),(22,6)],7,120,[.str [],.str [],.str [],.str [],.int .i64 0,.slice 0 [] (some 5),.slice 0 [] (some 5)]⟩),(72,⟨.strct [(66,0),(22,4)],5,88,[.str [],.str [],.int .i64 0,.slice 0 [] (some 5),.slice 0 [] (some 5)]⟩),(39,⟨.int .i64,1,8,[.int .i64 0]⟩),(74,⟨.strct [(39,0),(3,1)],2,16,[.int .i64 0,.int .i64 0]⟩),(76,⟨.strct [(3,0),(64,1),(68,7),(70,16),(72,23),(74,28)],30,448,[.int .i64 0,.str [],.str [],.str [],.str [],.int .i64 0,.int .i64 0,.str [],.str [],.int .i64 0,.slice 0 [] (some 5),.slice 0 [] (some 5),.str [],.str [],.int .i64 0,.int .i64 0,.str [],.str [],.str [],.str [],.int .i64 0,.slice 0 [] (some 5),.slice 0 [] (some 5),.str [],.str [],.int .i64 0,.slice 0 [] (some 5),.slice 0 [] (some 5),.int .i64 0,.int .i64 0]⟩),(236,⟨.fn,1,8,[.nilF]⟩),(277,⟨.ptr,1,8,[.ptr none]⟩),(279,⟨.strct [(277,0)],1,8,[.ptr none]⟩)]
theorem zo9:ttOk prog ttN=true:=by kernel_rfl
def z03:List Nat:=[1]
def z0f:List Nat:=[]
def z0e:List Nat:=[4]
def imm80:List Nat:=[]
structure TakS (T:Nat) (zc:List PV) (B K:PH) (r a e q:Nat) (s:Option (List UInt8)) (cells:List PV) (ver:Nat):Prop where
 z:K[r]? = some ⟨T,zc,0⟩
 c:K[a]? = some ⟨279,[.ptr (some (e,0))],1⟩
 p:K[q]? = some ⟨T,cells,ver⟩
 cur:curAt K e s
 up:Upd (·=e) B K
 lb:B.length≤q
 n1:r≠e
 n2:a≠e
 n3:q≠e
 n4:q≠a
 n5:q≠r
theorem TakS.call {T:Nat} {zc:List PV} {B K K':PH} {r a e q:Nat} {s s':Option (List UInt8)} {cells:List PV} {ver:Nat} (h:TakS T zc B K r a e q s cells ver) (u:Upd (·=e) K K') (c:curAt K' e s') :
  TakS T zc B K' r a e q s' cells ver:=by
 have lt:∀{i:Nat} {o:PObj},K[i]? = some o→i<K.length:=fun h=>(zq1.1 h).1
 exact ⟨(u.2 _ (lt h.z) h.n1).trans h.z,(u.2 _ (lt h.c) h.n2).trans h.c,(u.2 _ (lt h.p) h.n3).trans h.p,c,h.up.trans u,h.lb,h.n1,h.n2,h.n3,h.n4,h.n5⟩
theorem TakS.store {T:Nat} {zc:List PV} {B K:PH} {r a e q:Nat} {s:Option (List UInt8)} {cells:List PV} {ver:Nat} (h:TakS T zc B K r a e q s cells ver) (cells':List PV) (ver':Nat) :
  TakS T zc B (K.set q ⟨T,cells',ver'⟩) r a e q s cells' ver':=by
 refine ⟨?_,?_,gS h.p,h.cur.set_ne h.n3 _,h.up.set (.inr h.lb) _,h.lb,h.n1,h.n2,h.n3,h.n4,h.n5⟩
 ·rw [zqj h.n5];exact h.z
 ·rw [zqj h.n4];exact h.c
theorem c161 (d:Nat) (s:Option (List UInt8)) (H:PH) (hc:curAt H d s) (hl:∀l,s=some l→l.length≤140737488355328) :
  CK prog 161 [.agg [.ptr (some (d,0))]] H fun r H'=>r=.agg [.str (tickC s).2.r,.str (tickC s).2.n,.int .i64 (tickC s).2.kv,sl (tickC s).2.b]∧Upd (·=d) H H'∧curAt H' d (tickC s).1:=by
 have hd:=hc.lt
 have g0:=zar (tag:=97) hl
 have hs0:∀l,(elemC 97 s).2=some l→l.length≤140737488355328:=fun l h=>(g0.2 l h).1
 have hs1:=(zar (tag:=48) hs0).1
 have hs2:=ze7 hs1
 (refine fnS (imm:=z03) zo9 func161 ?_;(conv=>whnf))
 obtain ⟨H1,hH1⟩:∃H1,H1=H++[PObj.mk 66 [.str [],.str [],.int .i64 0,.slice 0 [] (some 5)] 0]:=⟨_,rfl⟩
 have hl1:H1.length=H.length+1:=by rw [hH1];simp
 have h0:H1[H.length]? = some ⟨66,[.str [],.str [],.int .i64 0,.slice 0 [] (some 5)],0⟩:=by rw [hH1];exact gL _ _
 have u1:Upd (·=d) H H1:=by rw [hH1];exact (Upd.refl H).push _
 have hc1:curAt H1 d s:=hc.keep (X:=fun _=>False) (by rw [hH1];exact (Upd.refl H).push _) (fun f=>f)
 rw [←hH1]
 refine cO (c200 d 97 s H1 hc1 hl) ?_
 rintro _ H2 ⟨e,rfl,k1,k2,k3,k4⟩
 have hle:=k4.lt
 have uB:Upd (·=d) H H2:=u1.trans k2
 conv=>whnf
 ((conv in (_[_]?)=>tactic=>exact gL _ _);(conv=>whnf))
 obtain ⟨H3,hH3⟩:∃H3,H3=(H2++[PObj.mk 279 [.ptr none] 0]).set H2.length (PObj.mk 279 [.ptr (some (e,0))] 1):=⟨_,rfl⟩
 have hH3':H3=H2++[PObj.mk 279 [.ptr (some (e,0))] 1]:=by rw [hH3,sL]
 have u3:Upd (·=e) H2 H3:=by rw [hH3'];exact (Upd.refl H2).push _
 have h3c:H3[H2.length]? = some ⟨279,[.ptr (some (e,0))],1⟩:=by rw [hH3'];exact gL _ _
 have h3e:curAt H3 e (elemC 97 s).2:=k4.keep (X:=fun _=>False) (by rw [hH3'];exact (Upd.refl H2).push _) (fun f=>f)
 have h3z:H3[H.length]? = some ⟨66,[.str [],.str [],.int .i64 0,.slice 0 [] (some 5)],0⟩:=by
  rw [hH3',zq2 (by omega),k2.2 _ (by omega) (by omega)];exact h0
 have h3l:H3.length=H2.length+1:=by rw [hH3'];simp
 subst hH3
 ((conv in (_[_]?)=>tactic=>exact h3c);(conv=>whnf))
 refine cO (c159 e _ _ h3e hs0) ?_
 rintro _ K1 ⟨rfl,u4,g4⟩
 have D1:TakS 66 [.str [],.str [],.int .i64 0,.slice 0 [] (some 5)] H2 ((K1++[PObj.mk 66 [.str [],.str [],.int .i64 0,.slice 0 [] (some 5)] 0]).set K1.length ⟨66,[.str (zac (elemC 97 s).2).2.1,.str (zac (elemC 97 s).2).2.2,.int .i64 0,.slice 0 [] (some 5)],1⟩) H.length H2.length e K1.length (zac (elemC 97 s).2).1 [.str (zac (elemC 97 s).2).2.1,.str (zac (elemC 97 s).2).2.2,.int .i64 0,.slice 0 [] (some 5)] 1:=by
  have hk:H2.length+1≤K1.length:=Nat.le_trans (Nat.le_of_eq h3l.symm) u4.1
  rw [sL]
  refine ⟨?_,?_,gL _ _,g4.keep (X:=fun _=>False) ((Upd.refl K1).push _) (fun f=>f),(u3.trans u4).push _,by omega,by omega,by omega,by omega,by omega,by omega⟩
  ·rw [zq2 (by omega),u4.2 _ (Nat.lt_of_lt_of_le (show H.length<H2.length+1 by omega) (Nat.le_of_eq h3l.symm)) (by omega)];exact h3z
  ·rw [zq2 (by omega),u4.2 _ (Nat.lt_of_lt_of_le (show H2.length<H2.length+1 by omega) (Nat.le_of_eq h3l.symm)) (by omega)];exact h3c
 conv=>whnf
 ((conv in (_[_]?)=>tactic=>exact gL _ _);(conv=>whnf))
 ((conv in (_[_]?)=>tactic=>exact D1.c);(conv=>whnf))
 refine cO (c160 e _ _ D1.cur hs1) ?_
 rintro _ K2 ⟨rfl,u5,g5⟩
 have D2:=D1.call u5 g5
 conv=>whnf
 ((conv in (_[_]?)=>tactic=>exact D2.p);(conv=>whnf))
 have D3:=D2.store [.str (zac (elemC 97 s).2).2.1,.str (zac (elemC 97 s).2).2.2,.int .i64 (intC (zac (elemC 97 s).2).1).2,.slice 0 [] (some 5)] 2
 ((conv in (_[_]?)=>tactic=>exact D3.c);(conv=>whnf))
 refine cO (c162 e _ _ D3.cur hs2) ?_
 rintro _ K4 ⟨rfl,u6,g6,_⟩
 have D4:=D3.call u6 g6
 conv=>whnf
 ((conv in (_[_]?)=>tactic=>exact D4.p);(conv=>whnf))
 have D5:=D4.store [.str (zac (elemC 97 s).2).2.1,.str (zac (elemC 97 s).2).2.2,.int .i64 (intC (zac (elemC 97 s).2).1).2,sl (octC (intC (zac (elemC 97 s).2).1).1).2] 3
 ((conv in (_[_]?)=>tactic=>exact D5.p);(conv=>whnf))
 ((conv in (_[_]?)=>tactic=>exact D5.z);(conv=>whnf))
 ((conv in (_[_]?)=>tactic=>exact gS D5.z);(conv=>whnf))
 have uF:=uB.over D5.up (fun i hi h=>by omega)
 exact ⟨rfl,uF.set (.inr (zqn _)) _,(k3.keep D5.up (by omega)).set_ne (by omega) _⟩
theorem znh (t:UInt8) (b:List UInt8):∀(j:Nat) (c:PV),[bC t][j]? = some c→((t::b).map bC)[0*1+j]? = some c:=by
 intro j c hj
 match j with
 | 0=>exact hj
 | j+1=>simp at hj
theorem zh5 (H:PH) (o o' o'':PObj):((H++[o]++[o']).set (H++[o]).length o'')[H.length]? = some o:=by
 rw [sL];exact zbk _ _ _
theorem c128x (b:List UInt8) (hb:b.length≤140737488355328) (H:PH):CK prog 128 [sl b] H fun r H'=>r=.agg (zek b).d.cells∧∃ext,H'=H++ext:=by
 (refine fnS (imm:=z0f) zo9 func128 ?_;(conv=>whnf))
 ((conv in (_[_]?)=>tactic=>exact gL _ _);(conv=>whnf))
 cases b with
 | nil =>
  refine ⟨fun _=>?_,fun h=>absurd rfl h⟩
  conv=>whnf
  ((conv in (_[_]?)=>tactic=>exact gS (gL _ _));(conv=>whnf))
  ((conv in (_[_]?)=>tactic=>exact zh5 _ _ _ _);(conv=>whnf))
  ((conv in (_[_]?)=>tactic=>exact gS (zh5 _ _ _ _));(conv=>whnf))
  exact ⟨rfl,((((Ext.refl H).push _).push _).set (by simp) _).set (zqn _) _⟩
 | cons t b =>
  refine ⟨fun h=>absurd h (by simp <;> omega),fun _=>?_⟩
  conv=>whnf
  obtain ⟨HA,hHA⟩:∃HA,HA=H++[PObj.mk 76 mZ.cells 0]:=⟨_,rfl⟩
  obtain ⟨H1,hH1⟩:∃H1,H1=(HA++[PObj.mk 76 mZ.cells 0]).set HA.length (PObj.mk 76 mZ.cells 1):=⟨_,rfl⟩
  have hlA:HA.length=H.length+1:=by rw [hHA];simp
  have hH1':H1=HA++[PObj.mk 76 mZ.cells 1]:=by rw [hH1,sL]
  have hl1:H1.length=H.length+2:=by rw [hH1'];simp [hlA]
  have h1r:H1[H.length]? = some ⟨76,mZ.cells,0⟩:=by rw [hH1',zq2 (by omega),hHA];exact gL _ _
  have h1q:H1[HA.length]? = some ⟨76,mZ.cells,1⟩:=by rw [hH1'];exact gL _ _
  have u1:Upd (fun _=>False) H H1:=by rw [hH1',hHA];exact ((Upd.refl H).push _).push _
  refine ⟨⟨by decide,by first | (simp;done) | (simp;omega)⟩,[bC t],znh t b,?_⟩
  conv=>whnf
  subst hH1
  subst hHA
  refine cO (c158 (t::b) t hb _) ?_
  rintro _ H2 ⟨e,rfl,k1,k2,k3⟩
  have k1:((H++[PObj.mk 76 mZ.cells 0]++[PObj.mk 76 mZ.cells 0]).set (H++[PObj.mk 76 mZ.cells 0]).length (PObj.mk 76 mZ.cells 1)).length≤e:=k1
  rw [hl1] at k1
  have k2:Upd (fun _=>False) ((H++[PObj.mk 76 mZ.cells 0]++[PObj.mk 76 mZ.cells 0]).set (H++[PObj.mk 76 mZ.cells 0]).length (PObj.mk 76 mZ.cells 1)) H2:=k2
  have hle:=k3.lt
  have hs0:∀l,(elemC t (some (t::b))).2=some l→l.length≤140737488355328:=fun l h=>((zar (tag:=t) (fun l h=>by cases h;exact hb)).2 l h).1
  show _
  have e0:zek (t::b)=zch t (elemC t (some (t::b))).2:=rfl
  rw [e0]
  generalize (elemC t (some (t::b))).2=s at hs0 k3
  have D0:TakS 76 mZ.cells H ((H2++[PObj.mk 279 [.ptr none] 0]).set H2.length (PObj.mk 279 [.ptr (some (e,0))] 1)) H.length H2.length e (H++[PObj.mk 76 mZ.cells 0]).length s mZ.cells 1:=by
   rw [sL]
   have hk:H.length+2≤H2.length:=Nat.le_trans (Nat.le_of_eq hl1.symm) k2.1
   refine ⟨?_,gL _ _,?_,k3.keep (X:=fun _=>False) ((Upd.refl H2).push _) (fun f=>f),((u1.over k2 (fun _ _ h=>h)).push _).mono (fun i _ h=>h.elim),by omega,by omega,by omega,by omega,by omega,by omega⟩
   ·rw [zq2 (by omega),k2.2 _ (by omega) (fun f=>f)];exact h1r
   ·rw [zq2 (by omega),k2.2 _ (by omega) (fun f=>f)];exact h1q
  have fin:∀{K:PH} {s':Option (List UInt8)} {cells:List PV} {ver:Nat} (D:TakS 76 mZ.cells H K H.length H2.length e (H++[PObj.mk 76 mZ.cells 0]).length s' cells ver) (o:PObj),∃ext,K.set H.length o=H++ext:=fun D o =>
   Upd.ext ((D.up.mono (Y:=fun _=>False) (fun i hi h=>by have h:i=e:=h;omega)).set (.inr (zqn _)) o)
  conv=>whnf
  ((conv in (_[_]?)=>tactic=>exact gL _ _);(conv=>whnf))
  refine ⟨⟨by decide,by first | (simp;done) | (simp;omega)⟩,[bC t],znh t b,?_⟩
  conv=>whnf
  refine ⟨fun h1=>?_,fun h1=>?_⟩
  ·have h1:(t.toNat:Int)=106:=h1
   have et:zch t s=tkAs s:=by unfold zch;rw [zqp (by omega)]
   rw [et]
   conv=>whnf
   ((conv in (_[_]?)=>tactic=>exact D0.p);(conv=>whnf))
   have E0:=D0.store ({ mZ with kind:=1 }:Msg).cells 2
   ((conv in (_[_]?)=>tactic=>exact E0.c);(conv=>whnf))
   have l0:∀l,s=some l→l.length≤140737488355328:=hs0
   refine cO (c159 e _ _ E0.cur l0) ?_
   rintro _ K0 ⟨rfl,u0,g0⟩
   have F0:=E0.call u0 g0
   conv=>whnf
   ((conv in (_[_]?)=>tactic=>exact F0.p);(conv=>whnf))
   have E1:=F0.store ({ mZ with kind:=1,a1:=(zac s).2.1,a2:=(zac s).2.2 }:Msg).cells 3
   ((conv in (_[_]?)=>tactic=>exact E1.c);(conv=>whnf))
   have l1:∀l,(zac s).1=some l→l.length≤140737488355328:=(zar (tag:=48) l0).1
   refine cO (c159 e _ _ E1.cur l1) ?_
   rintro _ K1 ⟨rfl,u1,g1⟩
   have F1:=E1.call u1 g1
   conv=>whnf
   ((conv in (_[_]?)=>tactic=>exact F1.p);(conv=>whnf))
   have E2:=F1.store ({ mZ with kind:=1,a1:=(zac s).2.1,a2:=(zac s).2.2,a3:=(zac (zac s).1).2.1,a4:=(zac (zac s).1).2.2 }:Msg).cells 4
   ((conv in (_[_]?)=>tactic=>exact E2.c);(conv=>whnf))
   have l2:∀l,(zac (zac s).1).1=some l→l.length≤140737488355328:=(zar (tag:=48) l1).1
   refine cO (c160 e _ _ E2.cur l2) ?_
   rintro _ K2 ⟨rfl,u2,g2⟩
   have F2:=E2.call u2 g2
   conv=>whnf
   ((conv in (_[_]?)=>tactic=>exact F2.p);(conv=>whnf))
   have E3:=F2.store ({ mZ with kind:=1,a1:=(zac s).2.1,a2:=(zac s).2.2,a3:=(zac (zac s).1).2.1,a4:=(zac (zac s).1).2.2,aTill:=(intC (zac (zac s).1).1).2 }:Msg).cells 5
   ((conv in (_[_]?)=>tactic=>exact E3.c);(conv=>whnf))
   have l3:∀l,(intC (zac (zac s).1).1).1=some l→l.length≤140737488355328:=ze7 l2
   refine cO (c160 e _ _ E3.cur l3) ?_
   rintro _ K3 ⟨rfl,u3,g3⟩
   have F3:=E3.call u3 g3
   conv=>whnf
   ((conv in (_[_]?)=>tactic=>exact F3.p);(conv=>whnf))
   have E4:=F3.store ({ mZ with kind:=1,a1:=(zac s).2.1,a2:=(zac s).2.2,a3:=(zac (zac s).1).2.1,a4:=(zac (zac s).1).2.2,aTill:=(intC (zac (zac s).1).1).2,aNonce:=(intC (intC (zac (zac s).1).1).1).2 }:Msg).cells 6
   ((conv in (_[_]?)=>tactic=>exact E4.p);(conv=>whnf))
   ((conv in (_[_]?)=>tactic=>exact E4.z);(conv=>whnf))
   ((conv in (_[_]?)=>tactic=>exact gS E4.z);(conv=>whnf))
   exact ⟨rfl,fin E4 _⟩
  conv=>whnf
  have h1:¬(t.toNat:Int)=106:=h1
  refine ⟨fun h2=>?_,fun h2=>?_⟩
  ·have h2:(t.toNat:Int)=108:=h2
   have et:zch t s=tkTgs s:=by unfold zch;rw [zqo (by omega)];rw [zqp (by omega)]
   rw [et]
   conv=>whnf
   ((conv in (_[_]?)=>tactic=>exact D0.p);(conv=>whnf))
   have E0:=D0.store ({ mZ with kind:=2 }:Msg).cells 2
   ((conv in (_[_]?)=>tactic=>exact E0.c);(conv=>whnf))
   have l0:∀l,s=some l→l.length≤140737488355328:=hs0
   refine cO (c161 e _ _ E0.cur l0) ?_
   rintro _ K0 ⟨rfl,u0,g0⟩
   have F0:=E0.call u0 g0
   conv=>whnf
   ((conv in (_[_]?)=>tactic=>exact F0.p);(conv=>whnf))
   have E1:=F0.store ({ mZ with kind:=2,t1:=(tickC s).2.r,t2:=(tickC s).2.n,tKv:=(tickC s).2.kv,tB:=(tickC s).2.b,tBo:=none }:Msg).cells 3
   ((conv in (_[_]?)=>tactic=>exact E1.c);(conv=>whnf))
   have l1:∀l,(tickC s).1=some l→l.length≤140737488355328:=(zar (tag:=97) l0).1
   refine cO (c162 e _ _ E1.cur l1) ?_
   rintro _ K1 ⟨rfl,u1,g1,_⟩
   have F1:=E1.call u1 g1
   conv=>whnf
   ((conv in (_[_]?)=>tactic=>exact F1.p);(conv=>whnf))
   have E2:=F1.store ({ mZ with kind:=2,t1:=(tickC s).2.r,t2:=(tickC s).2.n,tKv:=(tickC s).2.kv,tB:=(tickC s).2.b,tBo:=none,tAu:=(octC (tickC s).1).2,tAuo:=none }:Msg).cells 4
   ((conv in (_[_]?)=>tactic=>exact E2.c);(conv=>whnf))
   have l2:∀l,(octC (tickC s).1).1=some l→l.length≤140737488355328:=(zar (tag:=4) l1).1
   refine cO (c159 e _ _ E2.cur l2) ?_
   rintro _ K2 ⟨rfl,u2,g2⟩
   have F2:=E2.call u2 g2
   conv=>whnf
   ((conv in (_[_]?)=>tactic=>exact F2.p);(conv=>whnf))
   have E3:=F2.store ({ mZ with kind:=2,t1:=(tickC s).2.r,t2:=(tickC s).2.n,tKv:=(tickC s).2.kv,tB:=(tickC s).2.b,tBo:=none,tAu:=(octC (tickC s).1).2,tAuo:=none,t3:=(zac (octC (tickC s).1).1).2.1,t4:=(zac (octC (tickC s).1).1).2.2 }:Msg).cells 5
   ((conv in (_[_]?)=>tactic=>exact E3.c);(conv=>whnf))
   have l3:∀l,(zac (octC (tickC s).1).1).1=some l→l.length≤140737488355328:=(zar (tag:=48) l2).1
   refine cO (c160 e _ _ E3.cur l3) ?_
   rintro _ K3 ⟨rfl,u3,g3⟩
   have F3:=E3.call u3 g3
   conv=>whnf
   ((conv in (_[_]?)=>tactic=>exact F3.p);(conv=>whnf))
   have E4:=F3.store ({ mZ with kind:=2,t1:=(tickC s).2.r,t2:=(tickC s).2.n,tKv:=(tickC s).2.kv,tB:=(tickC s).2.b,tBo:=none,tAu:=(octC (tickC s).1).2,tAuo:=none,t3:=(zac (octC (tickC s).1).1).2.1,t4:=(zac (octC (tickC s).1).1).2.2,tTill:=(intC (zac (octC (tickC s).1).1).1).2 }:Msg).cells 6
   ((conv in (_[_]?)=>tactic=>exact E4.c);(conv=>whnf))
   have l4:∀l,(intC (zac (octC (tickC s).1).1).1).1=some l→l.length≤140737488355328:=ze7 l3
   refine cO (c160 e _ _ E4.cur l4) ?_
   rintro _ K4 ⟨rfl,u4,g4⟩
   have F4:=E4.call u4 g4
   conv=>whnf
   ((conv in (_[_]?)=>tactic=>exact F4.p);(conv=>whnf))
   have E5:=F4.store ({ mZ with kind:=2,t1:=(tickC s).2.r,t2:=(tickC s).2.n,tKv:=(tickC s).2.kv,tB:=(tickC s).2.b,tBo:=none,tAu:=(octC (tickC s).1).2,tAuo:=none,t3:=(zac (octC (tickC s).1).1).2.1,t4:=(zac (octC (tickC s).1).1).2.2,tTill:=(intC (zac (octC (tickC s).1).1).1).2,tNonce:=(intC (intC (zac (octC (tickC s).1).1).1).1).2 }:Msg).cells 7
   ((conv in (_[_]?)=>tactic=>exact E5.p);(conv=>whnf))
   ((conv in (_[_]?)=>tactic=>exact E5.z);(conv=>whnf))
   ((conv in (_[_]?)=>tactic=>exact gS E5.z);(conv=>whnf))
   exact ⟨rfl,fin E5 _⟩
  conv=>whnf
  have h2:¬(t.toNat:Int)=108:=h2
  refine ⟨fun h3=>?_,fun h3=>?_⟩
  ·have h3:(t.toNat:Int)=107:=h3
   have et:zch t s=tkRep s:=by unfold zch;rw [zqo (by omega)];rw [zqo (by omega)];rw [zqp (by omega)]
   rw [et]
   conv=>whnf
   ((conv in (_[_]?)=>tactic=>exact D0.p);(conv=>whnf))
   have E0:=D0.store ({ mZ with kind:=3 }:Msg).cells 2
   ((conv in (_[_]?)=>tactic=>exact E0.c);(conv=>whnf))
   have l0:∀l,s=some l→l.length≤140737488355328:=hs0
   refine cO (c159 e _ _ E0.cur l0) ?_
   rintro _ K0 ⟨rfl,u0,g0⟩
   have F0:=E0.call u0 g0
   conv=>whnf
   ((conv in (_[_]?)=>tactic=>exact F0.p);(conv=>whnf))
   have E1:=F0.store ({ mZ with kind:=3,r1:=(zac s).2.1,r2:=(zac s).2.2 }:Msg).cells 3
   ((conv in (_[_]?)=>tactic=>exact E1.c);(conv=>whnf))
   have l1:∀l,(zac s).1=some l→l.length≤140737488355328:=(zar (tag:=48) l0).1
   refine cO (c161 e _ _ E1.cur l1) ?_
   rintro _ K1 ⟨rfl,u1,g1⟩
   have F1:=E1.call u1 g1
   conv=>whnf
   ((conv in (_[_]?)=>tactic=>exact F1.p);(conv=>whnf))
   have E2:=F1.store ({ mZ with kind:=3,r1:=(zac s).2.1,r2:=(zac s).2.2,r3:=(tickC (zac s).1).2.r,r4:=(tickC (zac s).1).2.n,rKv:=(tickC (zac s).1).2.kv,rB:=(tickC (zac s).1).2.b,rBo:=none }:Msg).cells 4
   ((conv in (_[_]?)=>tactic=>exact E2.c);(conv=>whnf))
   have l2:∀l,(tickC (zac s).1).1=some l→l.length≤140737488355328:=(zar (tag:=97) l1).1
   refine cO (c162 e _ _ E2.cur l2) ?_
   rintro _ K2 ⟨rfl,u2,g2,_⟩
   have F2:=E2.call u2 g2
   conv=>whnf
   ((conv in (_[_]?)=>tactic=>exact F2.p);(conv=>whnf))
   have E3:=F2.store ({ mZ with kind:=3,r1:=(zac s).2.1,r2:=(zac s).2.2,r3:=(tickC (zac s).1).2.r,r4:=(tickC (zac s).1).2.n,rKv:=(tickC (zac s).1).2.kv,rB:=(tickC (zac s).1).2.b,rBo:=none,rBl:=(octC (tickC (zac s).1).1).2,rBlo:=none }:Msg).cells 5
   ((conv in (_[_]?)=>tactic=>exact E3.p);(conv=>whnf))
   ((conv in (_[_]?)=>tactic=>exact E3.z);(conv=>whnf))
   ((conv in (_[_]?)=>tactic=>exact gS E3.z);(conv=>whnf))
   exact ⟨rfl,fin E3 _⟩
  conv=>whnf
  have h3:¬(t.toNat:Int)=107:=h3
  refine ⟨fun h4=>?_,fun h4=>?_⟩
  ·have h4:(t.toNat:Int)=110:=h4
   have et:zch t s=tkAp s:=by unfold zch;rw [zqo (by omega)];rw [zqo (by omega)];rw [zqo (by omega)];rw [zqp (by omega)]
   rw [et]
   conv=>whnf
   ((conv in (_[_]?)=>tactic=>exact D0.p);(conv=>whnf))
   have E0:=D0.store ({ mZ with kind:=4 }:Msg).cells 2
   ((conv in (_[_]?)=>tactic=>exact E0.c);(conv=>whnf))
   have l0:∀l,s=some l→l.length≤140737488355328:=hs0
   refine cO (c161 e _ _ E0.cur l0) ?_
   rintro _ K0 ⟨rfl,u0,g0⟩
   have F0:=E0.call u0 g0
   conv=>whnf
   ((conv in (_[_]?)=>tactic=>exact F0.p);(conv=>whnf))
   have E1:=F0.store ({ mZ with kind:=4,p1:=(tickC s).2.r,p2:=(tickC s).2.n,pKv:=(tickC s).2.kv,pB:=(tickC s).2.b,pBo:=none }:Msg).cells 3
   ((conv in (_[_]?)=>tactic=>exact E1.c);(conv=>whnf))
   have l1:∀l,(tickC s).1=some l→l.length≤140737488355328:=(zar (tag:=97) l0).1
   refine cO (c162 e _ _ E1.cur l1) ?_
   rintro _ K1 ⟨rfl,u1,g1,_⟩
   have F1:=E1.call u1 g1
   conv=>whnf
   ((conv in (_[_]?)=>tactic=>exact F1.p);(conv=>whnf))
   have E2:=F1.store ({ mZ with kind:=4,p1:=(tickC s).2.r,p2:=(tickC s).2.n,pKv:=(tickC s).2.kv,pB:=(tickC s).2.b,pBo:=none,pAu:=(octC (tickC s).1).2,pAuo:=none }:Msg).cells 4
   ((conv in (_[_]?)=>tactic=>exact E2.p);(conv=>whnf))
   ((conv in (_[_]?)=>tactic=>exact E2.z);(conv=>whnf))
   ((conv in (_[_]?)=>tactic=>exact gS E2.z);(conv=>whnf))
   exact ⟨rfl,fin E2 _⟩
  conv=>whnf
  have h4:¬(t.toNat:Int)=110:=h4
  refine ⟨fun h5=>?_,fun h5=>?_⟩
  ·have h5:(t.toNat:Int)=126:=h5
   have et:zch t s=zo8 s:=by unfold zch;rw [zqo (by omega)];rw [zqo (by omega)];rw [zqo (by omega)];rw [zqo (by omega)];rw [zqp (by omega)]
   rw [et]
   conv=>whnf
   ((conv in (_[_]?)=>tactic=>exact D0.p);(conv=>whnf))
   have E0:=D0.store ({ mZ with kind:=5 }:Msg).cells 2
   ((conv in (_[_]?)=>tactic=>exact E0.c);(conv=>whnf))
   have l0:∀l,s=some l→l.length≤140737488355328:=hs0
   refine cO (c160 e _ _ E0.cur l0) ?_
   rintro _ K0 ⟨rfl,u0,g0⟩
   have F0:=E0.call u0 g0
   conv=>whnf
   ((conv in (_[_]?)=>tactic=>exact F0.p);(conv=>whnf))
   have E1:=F0.store ({ mZ with kind:=5,fErr:=(intC s).2 }:Msg).cells 3
   ((conv in (_[_]?)=>tactic=>exact E1.c);(conv=>whnf))
   have l1:∀l,(intC s).1=some l→l.length≤140737488355328:=ze7 l0
   refine cO (c160 e _ _ E1.cur l1) ?_
   rintro _ K1 ⟨rfl,u1,g1⟩
   have F1:=E1.call u1 g1
   conv=>whnf
   ((conv in (_[_]?)=>tactic=>exact F1.p);(conv=>whnf))
   have E2:=F1.store ({ mZ with kind:=5,fErr:=(intC s).2,fNonce:=(intC (intC s).1).2 }:Msg).cells 4
   ((conv in (_[_]?)=>tactic=>exact E2.p);(conv=>whnf))
   ((conv in (_[_]?)=>tactic=>exact E2.z);(conv=>whnf))
   ((conv in (_[_]?)=>tactic=>exact gS E2.z);(conv=>whnf))
   exact ⟨rfl,fin E2 _⟩
  conv=>whnf
  have h5:¬(t.toNat:Int)=126:=h5
  have et:zch t s=mZ:=by unfold zch;rw [zqo (by omega),zqo (by omega),zqo (by omega),zqo (by omega),zqo (by omega)]
  rw [et]
  ((conv in (_[_]?)=>tactic=>exact D0.p);(conv=>whnf))
  ((conv in (_[_]?)=>tactic=>exact D0.z);(conv=>whnf))
  ((conv in (_[_]?)=>tactic=>exact gS D0.z);(conv=>whnf))
  exact ⟨rfl,fin D0 _⟩
theorem zib (m:Msg):oldPs m.d.cells=true:=by
 simp [Msg.cells,Msg.as,Msg.tgs,Msg.rep,Msg.ap,Msg.fail,Msg.d,oldPs,oldP,slo,zc8]
theorem c128 (b:List UInt8) (hb:b.length≤140737488355328):Pure prog 128 [sl b] (.agg (zek b).d.cells):=Pure.of_gc (zib _) (c128x b hb)
theorem small (t:UInt8) (s:Option (List UInt8)):((elemC t s).2.getD []).length≤65535 :=
 zhf (B:=(s.getD []).length) (zar (fun l h=>by subst h;exact zqn _)).2
theorem zjj (t:UInt8) (s:Option (List UInt8)):((elemC t s).2.getD []).length≤1099511620000:=Nat.le_trans (small t s) (by decide)
theorem zpw (b:List UInt8):(zek b).fits:=by
 cases b with
 | nil=>simp [zek,mZ,Msg.fits]
 | cons t b =>
  show (zch t _).fits
  generalize (elemC t (some (t::b))).2=s
  unfold zch
  have z:∀n:Nat,([]:List UInt8).length≤n:=fun n=>Nat.zero_le _
  split
  ·refine ⟨?_,?_,?_,?_,?_,?_,?_,?_,?_,?_,?_,?_,?_,?_⟩ <;> first | exact z _ | exact zjj _ _
  ·split
   ·refine ⟨?_,?_,?_,?_,?_,?_,?_,?_,?_,?_,?_,?_,?_,?_⟩ <;> first | exact z _ | exact zjj _ _
   ·split
    ·refine ⟨?_,?_,?_,?_,?_,?_,?_,?_,?_,?_,?_,?_,?_,?_⟩ <;> first | exact z _ | exact zjj _ _
    ·split
     ·refine ⟨?_,?_,?_,?_,?_,?_,?_,?_,?_,?_,?_,?_,?_,?_⟩ <;> first | exact z _ | exact zjj _ _
     ·split
      ·refine ⟨?_,?_,?_,?_,?_,?_,?_,?_,?_,?_,?_,?_,?_,?_⟩ <;> first | exact z _ | exact zjj _ _
      ·refine ⟨?_,?_,?_,?_,?_,?_,?_,?_,?_,?_,?_,?_,?_,?_⟩ <;> first | exact z _ | exact zjj _ _
def okM (m:Msg) (b:List UInt8):Bool:=isB m&&(decide ((laidB m).length≤2000)&&decide (laidB m=b))
def agM (m:Msg) (b:List UInt8):PV:=match okM m b with
 | true=>.tup [.agg m.d.cells,.int .i64 0]
 | false=>.tup [.agg mZ.d.cells,.int .i64 2]
theorem zjr {m:Msg} {b:List UInt8} (h:okM m b=true):agM m b=.tup [.agg m.d.cells,.int .i64 0]:=by unfold agM;rw [h]
theorem znn {m:Msg} {b:List UInt8} (h:okM m b=false):agM m b=.tup [.agg mZ.d.cells,.int .i64 2]:=by unfold agM;rw [h]
theorem zn4 {m:Msg} (h:isB m=true∧(laidB m).length≤2000):encV m=.tup [sl (laidB m),.int .i64 0]:=zqp h
theorem zr0 {m:Msg} (h:¬(isB m=true∧(laidB m).length≤2000)):encV m=.tup [.slice 0 [] (some 5),.int .i64 1]:=zqo h
theorem c127x (m:Msg) (b:List UInt8) (hm:m.fits) (H:PH):CK prog 127 [sl b,.agg m.d.cells,.func 129 [] []] H fun r H'=>r=agM m b∧∃ext,H'=H++ext:=by
 (refine fnS (imm:=z0e) zo9 func127 ?_;(conv=>whnf))
 have hd:encV m.d=encV m:=rfl
 by_cases hb:isB m=true∧(laidB m).length≤2000
 ·refine cP ((c129 m.d hm).of_eq (hd.trans (zn4 hb))) ?_
  conv=>whnf
  refine ⟨fun _=>?_,fun h=>absurd rfl h⟩
  conv=>whnf
  refine cP (c157 (laidB m) b) ?_
  cases hq:decide (laidB m=b)
  ·have hk:okM m b=false:=by unfold okM;rw [hq,zq3,zq3]
   rw [znn hk]
   conv=>whnf
   ((conv in (_[_]?)=>tactic=>exact gL _ _);(conv=>whnf))
   ((conv in (_[_]?)=>tactic=>exact zbk _ _ _);(conv=>whnf))
   ((conv in (_[_]?)=>tactic=>exact gS (zbk _ _ _));(conv=>whnf))
   exact ⟨rfl,(((Ext.refl H).push _).push _).set (zqn _) _⟩
  ·have hk:okM m b=true:=by unfold okM;rw [hq,hb.1,zqe hb.2];rfl
   rw [zjr hk]
   conv=>whnf
   ((conv in (_[_]?)=>tactic=>exact zbk _ _ _);(conv=>whnf))
   ((conv in (_[_]?)=>tactic=>exact gS (zbk _ _ _));(conv=>whnf))
   exact ⟨rfl,(((Ext.refl H).push _).push _).set (zqn _) _⟩
 ·refine cP ((c129 m.d hm).of_eq (hd.trans (zr0 hb))) ?_
  have hk:okM m b=false:=by
   unfold okM
   cases h1:isB m
   ·rfl
   ·rw [zqd (fun h2=>hb ⟨h1,h2⟩)];rfl
  rw [znn hk]
  conv=>whnf
  refine ⟨fun h=>absurd h (by decide),fun _=>?_⟩
  conv=>whnf
  ((conv in (_[_]?)=>tactic=>exact gL _ _);(conv=>whnf))
  ((conv in (_[_]?)=>tactic=>exact zbk _ _ _);(conv=>whnf))
  ((conv in (_[_]?)=>tactic=>exact gS (zbk _ _ _));(conv=>whnf))
  exact ⟨rfl,(((Ext.refl H).push _).push _).set (zqn _) _⟩
theorem zp1 (m:Msg) (b:List UInt8):oldR (agM m b)=true:=by
 cases h:okM m b
 ·rw [znn h];simp [oldR,oldPs,oldP,zib]
 ·rw [zjr h];simp [oldR,oldPs,oldP,zib]
theorem c127 (m:Msg) (b:List UInt8) (hm:m.fits):Pure prog 127 [sl b,.agg m.d.cells,.func 129 [] []] (agM m b):=Pure.of_gc (zp1 m b) (c127x m b hm)
def decV (b:List UInt8):PV:=agM (zek b) b
theorem c80x (b:List UInt8) (hb:b.length≤140737488355328) (H:PH):CK prog 80 [sl b] H fun r H'=>r=decV b∧∃ext,H'=H++ext:=by
 (refine fnS (imm:=imm80) zo9 func80 ?_;(conv=>whnf))
 refine cP (c128 b hb) ?_
 conv=>whnf
 refine cP (c127 (zek b) b (zpw b)) ?_
 unfold decV
 cases h:okM (zek b) b
 ·rw [znn h]
  conv=>whnf
  ((conv in (_[_]?)=>tactic=>exact gL _ _);(conv=>whnf))
  ((conv in (_[_]?)=>tactic=>exact gS (gL _ _));(conv=>whnf))
  exact ⟨rfl,((Ext.refl H).push _).set (zqn _) _⟩
 ·rw [zjr h]
  conv=>whnf
  ((conv in (_[_]?)=>tactic=>exact gL _ _);(conv=>whnf))
  ((conv in (_[_]?)=>tactic=>exact gS (gL _ _));(conv=>whnf))
  exact ⟨rfl,((Ext.refl H).push _).set (zqn _) _⟩
theorem c80 (b:List UInt8) (hb:b.length≤140737488355328):Pure prog 80 [sl b] (decV b):=Pure.of_gc (zp1 _ b) (c80x b hb)
def ttL:TT:=[(3,⟨.int .i64,1,8,[.int .i64 0]⟩),(4,⟨.bool,1,1,[.bool false]⟩),(5,⟨.int .u8,1,1,[.int .u8 0]⟩),(9,⟨.str,1,16,[.str []]⟩),(22,⟨.slice 5,1,24,[.slice 0 [] (some 5)]⟩),(30,⟨.strct [(9,0),(9,1)],2,32,[.str [],.str []]⟩),(64,⟨.strct [(30,0),(30,2),(3,4),(3,5)],6,80,[.str [],.str [],.str [],.str [],.int .i64 0,.int .i64 0]⟩),(66,⟨.strct [(30,0),(3,2),(22,3)],4,64,[.str [],.str [],.int .i64 0,.slice 0 [] (some 5)]⟩),(68,⟨.strct [(66,0),(22,4),(30,5),(3,7),(3,8)],9,136,[.str [],.str [],.int .i64 0,.slice 0 [] (some 5),.slice 0 [] (some 5),.str [],.str [],.int .i64 0,.int .i64 0]⟩),(70,⟨.strct [(30,0),(66,2),(22,6)],7,120,[.str [],.str [],.str [],.str [],.int .i64 0,.slice 0 [] (some 5),.slice 0 [] (some 5)]⟩),(72,⟨.strct [(66,0),(22,4)],5,88,[.str [],.str [],.int .i64 0,.slice 0 [] (some 5),.slice 0 [] (some 5)]⟩),(39,⟨.int .i64,1,8,[.int .i64 0]⟩),(74,⟨.strct [(39,0),(3,1)],2,16,[.int .i64 0,.int .i64 0]⟩),(76,⟨.strct [(3,0),(64,1),(68,7),(70,16),(72,23),(74,28)],30,448,[.int .i64 0,.str [],.str [],.str [],.str [],.int .i64 0,.int .i64 0,.str [],.str [],.int .i64 0,.slice 0 [] (some 5),.slice 0 [] (some 5),.str [],.str [],.int .i64 0,.int .i64 0,.str [],.str [],.str [],.str [],.int .i64 0,.slice 0 [] (some 5),.slice 0 [] (some 5),.str [],.str [],.int .i64 0,.slice 0 [] (some 5),.slice 0 [] (some 5),.int .i64 0,.int .i64 0]⟩),(132,⟨.ptr,1,8,[.ptr none]⟩),(134,⟨.strct [(22,0),(4,1)],2,32,[.slice 0 [] (some 5),.bool false]⟩),(210,⟨.slice 22,1,24,[.slice 0 [] (some 22)]⟩)]
theorem zfk:ttOk prog ttL=true:=by kernel_rfl
def z0m:List Nat:=[]
def imm94:List Nat:=[]
def imm59:List Nat:=[]
def imm63:List Nat:=[]
def imm75:List Nat:=[]
def imm61:List Nat:=[]
def imm60:List Nat:=[1]
def imm62:List Nat:=[1]
def imm58:List Nat:=[]
def imm30:List Nat:=[1]
theorem c140 (n:Nat):Pure prog 140 [.int .i64 n] (slo (lenB n) (some 5)):=by
 intro H
 (refine fnS (imm:=z0m) zfk func140 ?_;(conv=>whnf))
 refine ⟨fun h=>?_,fun h=>?_⟩
 ·conv=>whnf
  have h:(n:Int)<128:=h
  have e:lenB n=[UInt8.ofNat n]:=by unfold lenB;rw [zqp (by omega)]
  rw [e]
  refine ⟨?_,rfl⟩
  show PV.slice 1 [PV.int .u8 (IntKind.u8.wrap (n:Int))] (some 5)=PV.slice 1 [PV.int .u8 ((UInt8.ofNat n).toNat:Int)] (some 5)
  rw [u8w]
 ·conv=>whnf
  have h:¬(n:Int)<128:=h
  refine ⟨fun h2=>?_,fun h2=>?_⟩
  ·conv=>whnf
   have h2:(n:Int)<256:=h2
   have e:lenB n=[129,UInt8.ofNat n]:=by unfold lenB;rw [zqo (by omega),zqp (by omega)]
   rw [e]
   refine ⟨?_,rfl⟩
   show PV.slice 2 [PV.int .u8 129,PV.int .u8 (IntKind.u8.wrap (n:Int))] (some 5)=PV.slice 2 [PV.int .u8 129,PV.int .u8 ((UInt8.ofNat n).toNat:Int)] (some 5)
   rw [u8w]
  ·conv=>whnf
   have h2:¬(n:Int)<256:=h2
   have e:lenB n=[130,UInt8.ofNat (n / 256),UInt8.ofNat n]:=by unfold lenB;rw [zqo (by omega),zqo (by omega)]
   rw [e]
   refine ⟨by decide,?_⟩
   conv=>whnf
   refine ⟨?_,rfl⟩
   show PV.slice 3 [PV.int .u8 130,PV.int .u8 (IntKind.u8.wrap (ishr .i64 (n:Int) 8)),PV.int .u8 (IntKind.u8.wrap (n:Int))] (some 5)=PV.slice 3 [PV.int .u8 130,PV.int .u8 ((UInt8.ofNat (n / 256)).toNat:Int),PV.int .u8 ((UInt8.ofNat n).toNat:Int)] (some 5)
   rw [shr8,u8w,u8w]
theorem c94 (tag:UInt8) (p:List UInt8) (o:Option Nat) (hp:p.length≤1099511627000):Pure prog 94 [bC tag,slo p o] (slo (wrapB tag p) (some 5)):=by
 intro H
 have hl:=zka p.length
 (refine fnS (imm:=imm94) zfk func94 ?_;(conv=>whnf))
 refine cP (c140 p.length) ?_
 conv=>whnf
 refine ⟨⟨by show (1+(lenB p.length).length)*1≤_;omega,by simp,zbr _⟩,?_⟩
 conv=>whnf
 refine ⟨⟨by show (1+(lenB p.length).length+p.length)*1≤_;omega,by simp,zbr _⟩,?_⟩
 conv=>whnf
 refine ⟨?_,rfl⟩
 show PV.slice (1+(lenB p.length).length+p.length) ([bC tag]++(lenB p.length).map bC++p.map bC) (some 5)=PV.slice (wrapB tag p).length ((wrapB tag p).map bC) (some 5)
 have e1:(wrapB tag p).length=1+(lenB p.length).length+p.length:=by unfold wrapB;rw [List.length_cons,zqf];omega
 have e2:(wrapB tag p).map bC=[bC tag]++(lenB p.length).map bC++p.map bC:=by unfold wrapB;rw [List.map_cons,List.map_append];rfl
 rw [e1,e2]
theorem c63 (p:List UInt8) (o:Option Nat) (hp:p.length≤1099511627000):Pure prog 63 [slo p o] (slo (wrapB 4 p) (some 5)):=by
 intro H
 (refine fnS (imm:=imm63) zfk func63 ?_;(conv=>whnf))
 refine cP (c94 4 p none hp) ?_
 conv=>whnf
 exact ⟨rfl,rfl⟩
theorem c75 (p:List UInt8) (hp:p.length≤1099511627000):Pure prog 75 [.str p] (slo (wrapB 27 p) (some 5)):=by
 intro H
 (refine fnS (imm:=imm75) zfk func75 ?_;(conv=>whnf))
 refine ⟨by omega,?_⟩
 conv=>whnf
 refine cP (c94 27 p none hp) ?_
 conv=>whnf
 exact ⟨rfl,rfl⟩
structure RwS where
 i:Nat
theorem zup (ls:List (List UInt8)) (i:Nat):(ls.take i).flatten.length≤ls.flatten.length:=by
 conv=>rhs;rw [←List.take_append_drop i ls,List.flatten_append,zqf]
 omega
theorem c59 (tag:UInt8) (ls:List (List UInt8)) (hn:ls.length≤1099511627776) (ht:ls.flatten.length≤1099511627000):Pure prog 59 [bC tag,.slice ls.length (ls.map sl) none] (slo (wrapB tag ls.flatten) (some 5)):=by
 intro H
 (refine fnS (imm:=imm59) zfk func59 ?_;(conv=>whnf))
 refine lO RwS (fun x=>[(0,bC tag),(1,.slice ls.length (ls.map sl) none),(6,.int .i64 x.i),(5,slo (ls.take x.i).flatten (some 5))]) (fun _=>H) (fun x=>x.i≤ls.length) (fun x=>ls.length - x.i)
  ⟨⟨0⟩,Nat.zero_le _,⟨rfl,rfl,rfl,rfl,zqv⟩,rfl⟩ ?_
 rintro ⟨i⟩ hi
 have hi:i≤ls.length:=hi
 conv=>whnf
 refine ⟨fun h=>?_,fun h=>?_⟩
 ·conv=>whnf
  have h:(i:Int)<(ls.length:Int):=h
  have hlt:i<ls.length:=by omega
  have hat:(ls.map sl)[(i:Int).toNat*1]? = some (sl ls[i]):=by
   rw [Int.toNat_natCast,Nat.mul_one,List.getElem?_map,zqc hlt];rfl
  refine ⟨⟨by show (0:Int)≤(i:Int);omega,h⟩,[sl ls[i]],at1 hat,?_⟩
  conv=>whnf
  have e1:=zh3 hlt
  have e2:=zup ls (i+1)
  rw [e1,zqf] at e2
  refine ⟨⟨by show ((ls.take i).flatten.length+ls[i].length)*1≤_;omega,by simp,zbr _⟩,?_⟩
  conv=>whnf
  refine ⟨⟨i+1⟩,hlt,⟨rfl,rfl,?_,?_,zqv⟩,rfl,by show ls.length - (i+1)<ls.length - i;omega⟩
  ·show PV.int _ (IntKind.i64.wrap ((i:Int)+1))=PV.int _ ((i+1:Nat):Int)
   rw [w64 (by omega) (by omega)];rfl
  ·show PV.slice ((ls.take i).flatten.length+ls[i].length) ((ls.take i).flatten.map bC++ls[i].map bC) (some 5)=slo (ls.take (i+1)).flatten (some 5)
   rw [e1];unfold slo;rw [zqf,List.map_append]
 ·conv=>whnf
  have h:¬(i:Int)<(ls.length:Int):=h
  have hi2:i=ls.length:=by omega
  subst hi2
  rw [List.take_length]
  refine cP (c94 tag ls.flatten none ht) ?_
  conv=>whnf
  exact ⟨rfl,rfl⟩
def digB (n:Nat):List UInt8:=if n=0 then [0] else (le 9 n).reverse
theorem zul (n:Nat):(digB n).length≤9:=by
 unfold digB
 split
 ·decide
 ·rw [List.length_reverse];exact zol 9 n
theorem zrr (n : Nat) (x : UInt8) (t : List UInt8) (h : digB n = x :: t) : intB n = if 128 ≤ x.toNat then 0 :: x :: t else x :: t := by
  unfold digB at h
  unfold intB padB
  split at h
  · rename_i e
    subst e
    cases h
    rw [zm1, zqp (.inl rfl), zqo (by decide)]; rfl
  · have hl : le 9 n = (x :: t).reverse := by rw [← h, List.reverse_reverse]
    have hg : ((x :: t).reverse.getLast?.getD 0) = x := by simp
    rw [hl, hg]
    by_cases hc : 128 ≤ x.toNat
    · rw [zqp (.inr hc), zqp hc, List.reverse_append, List.reverse_reverse]; rfl
    · rw [zqo (fun hh => by rcases hh with hh | hh; · simp at hh
                            · exact hc hh), zqo hc, List.reverse_reverse]
theorem zxz (n:Nat) (hn:n≤4611686018427387904):digB n≠[]:=by
 unfold digB
 split
 ·simp
 ·rename_i h0
  intro e
  have e:le 9 n=[]:=by rw [←List.reverse_reverse (le 9 n),e];rfl
  exact h0 (z3a 9 n (by omega) e)
structure RiS where
 m:Nat
 p:List UInt8
theorem c61 (n:Int):Pure prog 61 [.int .i64 n] (slo (intE n) (some 5)):=by
 intro H
 (refine fnS (imm:=imm61) zfk func61 ?_;(conv=>whnf))
 have hN:min (max n 0) 4611686018427387904=(zau n:Int):=by unfold zau;omega
 have hN2:zau n≤4611686018427387904:=by unfold zau;omega
 refine ⟨by decide,?_⟩
 conv=>whnf
 have hbw:∀m:Nat,PV.int .u8 (IntKind.u8.wrap (m:Int))=bC (UInt8.ofNat m):=fun m=>zqm (PV.int .u8) (u8w m)
 refine lO RiS (fun x=>[(0,.int .i64 x.m),(3,slo x.p (some 5))]) (fun _=>H)
  (fun x=>∃f,(le f x.m).reverse++x.p=digB (zau n)∧x.m<256 ^ f∧x.m≤4611686018427387904) (fun x=>x.m)
  ⟨⟨zau n / 256,[UInt8.ofNat (zau n)]⟩,⟨8,?_,by show zau n / 256<256 ^ 8;omega,by show zau n / 256≤_;omega⟩,⟨?_,?_,zqv⟩,rfl⟩ ?_
 ·show (le 8 (zau n / 256)).reverse++[UInt8.ofNat (zau n)]=_
  unfold digB
  split
  ·rename_i e
   rw [e];rfl
  ·rename_i e
   have hle:le (8+1) (zau n)=UInt8.ofNat (zau n)::le 8 (zau n / 256):=by
    conv=>lhs;unfold le
    rw [zqo e]
   show _=(le (8+1) (zau n)).reverse
   rw [hle,List.reverse_cons]
 ·show PV.int .i64 (ishr .i64 (min (max n 0) 4611686018427387904) 8)=PV.int .i64 ((zau n / 256:Nat):Int)
  rw [hN,shr8]
 ·show PV.slice 1 [PV.int .u8 (IntKind.u8.wrap (min (max n 0) 4611686018427387904))] (some 5)=slo [UInt8.ofNat (zau n)] (some 5)
  rw [hN,hbw];rfl
 rintro ⟨m,p⟩ ⟨f,g1,g2,g3⟩
 have g1:(le f m).reverse++p=digB (zau n):=g1
 have g2:m<256 ^ f:=g2
 have g3:m≤4611686018427387904:=g3
 have hp9:p.length≤9:=by
  have:=zul (zau n)
  rw [←g1,zqf] at this
  omega
 conv=>whnf
 refine ⟨fun h=>?_,fun h=>?_⟩
 ·conv=>whnf
  have h:(m:Int) > 0:=h
  have hf:∃f',f=f'+1:=by
   cases f with
   | zero=>simp at g2;omega
   | succ f=>exact ⟨f,rfl⟩
  obtain ⟨f,rfl⟩:=hf
  have hle:le (f+1) m=UInt8.ofNat m::le f (m / 256):=by
   conv=>lhs;unfold le
   rw [zqo (by omega)]
  refine ⟨⟨by show (1+p.length)*1≤_;omega,by simp,zbr _⟩,?_⟩
  conv=>whnf
  refine ⟨by decide,?_⟩
  conv=>whnf
  refine ⟨⟨m / 256,UInt8.ofNat m::p⟩,⟨f,?_,?_,by show m / 256≤_;omega⟩,⟨?_,?_,zqv⟩,rfl,by show m / 256<m;omega⟩
  ·show (le f (m / 256)).reverse++(UInt8.ofNat m::p)=_
   rw [←g1,hle,List.reverse_cons,List.append_assoc];rfl
  ·show m / 256<256 ^ f
   rw [Nat.div_lt_iff_lt_mul (by omega),←Nat.pow_succ];exact g2
  ·show PV.int .i64 (ishr .i64 (m:Int) 8)=PV.int .i64 ((m / 256:Nat):Int)
   rw [shr8]
  ·show PV.slice (1+p.length) ([PV.int .u8 (IntKind.u8.wrap (m:Int))]++p.map bC) (some 5)=PV.slice (p.length+1) (bC (UInt8.ofNat m)::p.map bC) (some 5)
   rw [hbw,Nat.add_comm];rfl
 ·conv=>whnf
  have h:¬(m:Int) > 0:=h
  have hm:m=0:=by omega
  subst hm
  rw [zm1] at g1
  have g1:p=digB (zau n):=g1
  have hne:=zxz (zau n) hN2
  rw [←g1] at hne
  have hib:=zrr (zau n)
  cases p with
  | nil=>exact absurd rfl hne
  | cons x t =>
   have hib:=hib x t g1.symm
   refine ⟨⟨by decide,by first | (simp;done) | (simp;omega)⟩,[bC x],znh x t,?_⟩
   conv=>whnf
   refine ⟨fun h=>?_,fun h=>?_⟩
   ·conv=>whnf
    have h:(128:Int)≤(x.toNat:Int):=h
    rw [zqp (by omega)] at hib
    have hp9:t.length+1≤9:=hp9
    refine ⟨⟨by show (1+(t.length+1))*1≤_;omega,by simp,zbr (x::t)⟩,?_⟩
    conv=>whnf
    have hE:slo (0::x::t) (some 5)=PV.slice (1+(x::t).length) ([PV.int .u8 0]++(x::t).map bC) (some 5):=by
     unfold slo
     rw [Nat.add_comm];rfl
    refine cA (args':=[bC 2,slo (0::x::t) none]) (zqm (fun n=>[bC 2,PV.slice n ([PV.int .u8 0]++(x::t).map bC) none]) (Nat.add_comm 1 _)) (cP (c94 2 (0::x::t) none (by simp;omega)) ?_)
    conv=>whnf
    refine ⟨?_,rfl⟩
    unfold intE
    rw [hib];rfl
   ·conv=>whnf
    have h:¬(128:Int)≤(x.toNat:Int):=h
    rw [zqo (by omega)] at hib
    have hp9:t.length+1≤9:=hp9
    refine cP (c94 2 (x::t) none (by simp;omega)) ?_
    conv=>whnf
    refine ⟨?_,rfl⟩
    unfold intE
    rw [hib];rfl
def z3v:Option (List UInt8)→Bool
 | some []=>true
 | _=>false
def stepR (n:Int) (x:UInt8):Int:=ibits .or .i64 (ishl .i64 n 8) (IntKind.i64.wrap (x.toNat:Int))
def numR (l:List UInt8):Int:=l.foldl stepR 0
def okR (p:List UInt8):Bool:=decide (p≠[])&&(decide (p.length≤9)&&(decide (0≤numR p)&&(decide (numR p≤4611686018427387904)&&decide (intE (numR p)=wrapB 2 p))))
def rintR (s':Option (List UInt8)):Option (List UInt8)→Option (List UInt8)×Int
 | none=>(none,0)
 | some p=>if okR p=true then (s',numR p) else (none,0)
def rintC (s:Option (List UInt8)):Option (List UInt8)×Int:=rintR (elemC 2 s).1 (elemC 2 s).2
theorem c60 (r n:List UInt8) (hr:r.length≤1000000) (hn:n.length≤1000000):Pure prog 60 [.agg [.str r,.str n]] (sl (zan r n)):=by
 intro H
 have h1:=zah 27 r
 have h2:=zah 27 n
 (refine fnS (imm:=imm60) zfk func60 ?_;(conv=>whnf))
 refine dP2 (by kernel_rfl) ?_
 conv=>whnf
 iterate 2 (refine dS ?_;(conv=>whnf))
 refine ⟨_,cP (c75 r (by omega)) ⟨rfl,rfl,zqv⟩,?_⟩
 conv=>whnf
 iterate 2 (refine dS ?_;(conv=>whnf))
 refine ⟨_,cP (c75 n (by omega)) ⟨rfl,rfl,zqv⟩,?_⟩
 conv=>whnf
 (refine dS ?_;(conv=>whnf))
 refine ⟨_,cP (c59 48 [wrapB 27 r,wrapB 27 n] (by simp) (by simp only [zqk,zql,zqf,List.length_nil];omega)) ⟨rfl,rfl,zqv⟩,?_⟩
 conv=>whnf
 (refine dS ?_;(conv=>whnf))
 exact ⟨rfl,rfl⟩
theorem c62 (r n:List UInt8) (kv:Int) (b:List UInt8) (o:Option Nat) (hr:r.length≤1000000) (hn:n.length≤1000000) (hb:b.length≤1000000):Pure prog 62 [.agg [.str r,.str n,.int .i64 kv,slo b o]] (sl (zaw r n kv b)):=by
 intro H
 have h1:=zaq r n
 have h2:=zam kv
 have h3:=zah 4 b
 (refine fnS (imm:=imm62) zfk func62 ?_;(conv=>whnf))
 refine dP2 (by kernel_rfl) ?_
 conv=>whnf
 iterate 2 (refine dS ?_;(conv=>whnf))
 refine ⟨_,cP (c60 r n hr hn) ⟨rfl,rfl,zqv⟩,?_⟩
 conv=>whnf
 iterate 2 (refine dS ?_;(conv=>whnf))
 refine ⟨_,cP (c61 kv) ⟨rfl,rfl,zqv⟩,?_⟩
 conv=>whnf
 iterate 2 (refine dS ?_;(conv=>whnf))
 refine ⟨_,cP (c63 b none (by omega)) ⟨rfl,rfl,zqv⟩,?_⟩
 conv=>whnf
 (refine dS ?_;(conv=>whnf))
 refine ⟨_,cP (c59 97 [zan r n,intE kv,wrapB 4 b] (by simp) (by simp only [zqk,zql,zqf,List.length_nil];omega)) ⟨rfl,rfl,zqv⟩,?_⟩
 conv=>whnf
 (refine dS ?_;(conv=>whnf))
 exact ⟨rfl,rfl⟩
theorem c58 (b:List UInt8) (hb:b.length≤2000):Pure prog 58 [sl b] (.tup [sl b,.int .i64 0]):=by
 intro H
 (refine fnS (imm:=imm58) zfk func58 ?_;(conv=>whnf))
 refine ⟨fun h=>absurd (show (2000:Int)<(b.length:Int) from h) (by omega),fun h=>?_⟩
 conv=>whnf
 exact ⟨rfl,rfl⟩
theorem zh1 {m:Msg} (h:isB m=true) (hl:(laidB m).length≤2000):encV m=.tup [sl (laidB m),.int .i64 0]:=zqp ⟨h,hl⟩
theorem c30x (m:Msg) (hm:m.fits) (H:PH):CK prog 30 [.agg m.cells] H fun r H'=>r=encV m∧∃ext,H'=H++ext:=by
 (refine fnS (imm:=imm30) zfk func30 ?_;(conv=>whnf))
 refine cP ((c57 m.d hm).of_eq (show PV.bool (isB m.d)=.bool (isB m) from rfl)) ?_
 cases hb:isB m
 ·conv=>whnf
  exact ⟨(zr0 (fun hh=>by rw [hb] at hh;cases hh.1)).symm,Ext.refl _⟩
 have hm:=(zqb _ _▸hb:_∧_).1
 conv=>whnf
 by_cases h1:m.kind=1
 ·have hk:=h1
  have n2:¬m.kind=2:=by omega
  have n3:¬m.kind=3:=by omega
  have n4:¬m.kind=4:=by omega
  have n5:¬m.kind=5:=by omega
  refine ⟨fun h=>?_,fun h=>?_⟩
  rotate_left
  ·exact (h hk).elim
  conv=>whnf
  rw [zqp hk] at hm
  simp only [zqb] at hm
  have g1:=zaz hm.1.1.1
  have g2:=zaz hm.1.1.2
  have e0:=zaq m.a1 m.a2
  have e1:=zaq m.a3 m.a4
  have e2:=zam m.aTill
  have e3:=zam m.aNonce
  have hw:=zah 106 [zan m.a1 m.a2,zan m.a3 m.a4,intE m.aTill,intE m.aNonce].flatten
  simp only [zqk,zql,zqf,List.length_nil] at hw
  have hlen:(wrapB 106 [zan m.a1 m.a2,zan m.a3 m.a4,intE m.aTill,intE m.aNonce].flatten).length≤2000:=by simp only [zqk,zql];omega
  have hl:laidB m=wrapB 106 [zan m.a1 m.a2,zan m.a3 m.a4,intE m.aTill,intE m.aNonce].flatten:=by unfold laidB;rw [zqp hk]
  ((conv in (_[_]?)=>tactic=>exact gL _ _);(conv=>whnf))
  refine dP2 (by kernel_rfl) ?_
  conv=>whnf
  (refine dS ?_;(conv=>whnf))
  apply exA
  focus
   conv=>whnf
   ((conv in (_[_]?)=>tactic=>exact gS (gL _ _));(conv=>whnf))
   exact ⟨rfl,rfl,zqv⟩
  conv=>whnf
  refine ⟨_,cP (c60 m.a1 m.a2 (by omega) (by omega)) ⟨rfl,rfl,zqv⟩,?_⟩
  conv=>whnf
  (refine dS ?_;(conv=>whnf))
  apply exA
  focus
   conv=>whnf
   ((conv in (_[_]?)=>tactic=>exact gS (gL _ _));(conv=>whnf))
   exact ⟨rfl,rfl,zqv⟩
  conv=>whnf
  refine ⟨_,cP (c60 m.a3 m.a4 (by omega) (by omega)) ⟨rfl,rfl,zqv⟩,?_⟩
  conv=>whnf
  (refine dS ?_;(conv=>whnf))
  apply exA
  focus
   conv=>whnf
   ((conv in (_[_]?)=>tactic=>exact gS (gL _ _));(conv=>whnf))
   exact ⟨rfl,rfl,zqv⟩
  conv=>whnf
  refine ⟨_,cP (c61 m.aTill) ⟨rfl,rfl,zqv⟩,?_⟩
  conv=>whnf
  (refine dS ?_;(conv=>whnf))
  apply exA
  focus
   conv=>whnf
   ((conv in (_[_]?)=>tactic=>exact gS (gL _ _));(conv=>whnf))
   exact ⟨rfl,rfl,zqv⟩
  conv=>whnf
  refine ⟨_,cP (c61 m.aNonce) ⟨rfl,rfl,zqv⟩,?_⟩
  conv=>whnf
  (refine dS ?_;(conv=>whnf))
  refine ⟨_,cP (c59 106 [zan m.a1 m.a2,zan m.a3 m.a4,intE m.aTill,intE m.aNonce] (by simp) (by simp only [zqk,zql,zqf,List.length_nil];omega)) ⟨rfl,rfl,zqv⟩,?_⟩
  conv=>whnf
  refine ⟨_,cP (c58 _ hlen) ⟨rfl,rfl,zqv⟩,?_⟩
  conv=>whnf
  iterate 4 (refine dS ?_;(conv=>whnf))
  exact ⟨(by rw [zh1 hb (by rw [hl];exact hlen),hl] <;> rfl),(Ext.refl _).push _ |>.set (Ext.refl _).len _⟩
 by_cases h2:m.kind=2
 ·have hk:=h2
  have n1:¬m.kind=1:=by omega
  have n3:¬m.kind=3:=by omega
  have n4:¬m.kind=4:=by omega
  have n5:¬m.kind=5:=by omega
  refine ⟨fun h=>?_,fun h=>?_⟩
  ·exact (n1 h).elim
  conv=>whnf
  refine ⟨fun h=>?_,fun h=>?_⟩
  rotate_left
  ·exact (h hk).elim
  conv=>whnf
  rw [zqo n1] at hm
  rw [zqp hk] at hm
  simp only [zqb] at hm
  have g1:=zcp hm.1.1.1.1
  have g2:=za8 hm.1.1.1.2
  have g3:=zaz hm.1.1.2
  have e0:=zbf m.t1 m.t2 m.tKv m.tB
  have e1:=zah 4 m.tAu
  have e2:=zaq m.t3 m.t4
  have e3:=zam m.tTill
  have e4:=zam m.tNonce
  have hw:=zah 108 [zaw m.t1 m.t2 m.tKv m.tB,wrapB 4 m.tAu,zan m.t3 m.t4,intE m.tTill,intE m.tNonce].flatten
  simp only [zqk,zql,zqf,List.length_nil] at hw
  have hlen:(wrapB 108 [zaw m.t1 m.t2 m.tKv m.tB,wrapB 4 m.tAu,zan m.t3 m.t4,intE m.tTill,intE m.tNonce].flatten).length≤2000:=by simp only [zqk,zql];omega
  have hl:laidB m=wrapB 108 [zaw m.t1 m.t2 m.tKv m.tB,wrapB 4 m.tAu,zan m.t3 m.t4,intE m.tTill,intE m.tNonce].flatten:=by unfold laidB;rw [zqo n1];rw [zqp hk]
  ((conv in (_[_]?)=>tactic=>exact gL _ _);(conv=>whnf))
  refine dP2 (by kernel_rfl) ?_
  conv=>whnf
  (refine dS ?_;(conv=>whnf))
  apply exA
  focus
   conv=>whnf
   ((conv in (_[_]?)=>tactic=>exact gS (gL _ _));(conv=>whnf))
   exact ⟨rfl,rfl,zqv⟩
  conv=>whnf
  refine ⟨_,cP (c62 m.t1 m.t2 m.tKv m.tB none (by omega) (by omega) (by omega)) ⟨rfl,rfl,zqv⟩,?_⟩
  conv=>whnf
  (refine dS ?_;(conv=>whnf))
  apply exA
  focus
   conv=>whnf
   ((conv in (_[_]?)=>tactic=>exact gS (gL _ _));(conv=>whnf))
   exact ⟨rfl,rfl,zqv⟩
  conv=>whnf
  refine ⟨_,cP (c63 m.tAu none (by omega)) ⟨rfl,rfl,zqv⟩,?_⟩
  conv=>whnf
  (refine dS ?_;(conv=>whnf))
  apply exA
  focus
   conv=>whnf
   ((conv in (_[_]?)=>tactic=>exact gS (gL _ _));(conv=>whnf))
   exact ⟨rfl,rfl,zqv⟩
  conv=>whnf
  refine ⟨_,cP (c60 m.t3 m.t4 (by omega) (by omega)) ⟨rfl,rfl,zqv⟩,?_⟩
  conv=>whnf
  (refine dS ?_;(conv=>whnf))
  apply exA
  focus
   conv=>whnf
   ((conv in (_[_]?)=>tactic=>exact gS (gL _ _));(conv=>whnf))
   exact ⟨rfl,rfl,zqv⟩
  conv=>whnf
  refine ⟨_,cP (c61 m.tTill) ⟨rfl,rfl,zqv⟩,?_⟩
  conv=>whnf
  (refine dS ?_;(conv=>whnf))
  apply exA
  focus
   conv=>whnf
   ((conv in (_[_]?)=>tactic=>exact gS (gL _ _));(conv=>whnf))
   exact ⟨rfl,rfl,zqv⟩
  conv=>whnf
  refine ⟨_,cP (c61 m.tNonce) ⟨rfl,rfl,zqv⟩,?_⟩
  conv=>whnf
  (refine dS ?_;(conv=>whnf))
  refine ⟨_,cP (c59 108 [zaw m.t1 m.t2 m.tKv m.tB,wrapB 4 m.tAu,zan m.t3 m.t4,intE m.tTill,intE m.tNonce] (by simp) (by simp only [zqk,zql,zqf,List.length_nil];omega)) ⟨rfl,rfl,zqv⟩,?_⟩
  conv=>whnf
  refine ⟨_,cP (c58 _ hlen) ⟨rfl,rfl,zqv⟩,?_⟩
  conv=>whnf
  iterate 4 (refine dS ?_;(conv=>whnf))
  exact ⟨(by rw [zh1 hb (by rw [hl];exact hlen),hl] <;> rfl),(Ext.refl _).push _ |>.set (Ext.refl _).len _⟩
 by_cases h3:m.kind=3
 ·have hk:=h3
  have n1:¬m.kind=1:=by omega
  have n2:¬m.kind=2:=by omega
  have n4:¬m.kind=4:=by omega
  have n5:¬m.kind=5:=by omega
  refine ⟨fun h=>?_,fun h=>?_⟩
  ·exact (n1 h).elim
  conv=>whnf
  refine ⟨fun h=>?_,fun h=>?_⟩
  ·exact (n2 h).elim
  conv=>whnf
  refine ⟨fun h=>?_,fun h=>?_⟩
  rotate_left
  ·exact (h hk).elim
  conv=>whnf
  rw [zqo n1] at hm
  rw [zqo n2] at hm
  rw [zqp hk] at hm
  simp only [zqb] at hm
  have g1:=zaz hm.1.1
  have g2:=zcp hm.1.2
  have g3:=za8 hm.2
  have e0:=zaq m.r1 m.r2
  have e1:=zbf m.r3 m.r4 m.rKv m.rB
  have e2:=zah 4 m.rBl
  have hw:=zah 107 [zan m.r1 m.r2,zaw m.r3 m.r4 m.rKv m.rB,wrapB 4 m.rBl].flatten
  simp only [zqk,zql,zqf,List.length_nil] at hw
  have hlen:(wrapB 107 [zan m.r1 m.r2,zaw m.r3 m.r4 m.rKv m.rB,wrapB 4 m.rBl].flatten).length≤2000:=by simp only [zqk,zql];omega
  have hl:laidB m=wrapB 107 [zan m.r1 m.r2,zaw m.r3 m.r4 m.rKv m.rB,wrapB 4 m.rBl].flatten:=by unfold laidB;rw [zqo n1];rw [zqo n2];rw [zqp hk]
  refine dP2 (by kernel_rfl) ?_
  conv=>whnf
  iterate 3 (refine dS ?_;(conv=>whnf))
  refine ⟨_,cP (c60 m.r1 m.r2 (by omega) (by omega)) ⟨rfl,rfl,zqv⟩,?_⟩
  conv=>whnf
  iterate 3 (refine dS ?_;(conv=>whnf))
  refine ⟨_,cP (c62 m.r3 m.r4 m.rKv m.rB none (by omega) (by omega) (by omega)) ⟨rfl,rfl,zqv⟩,?_⟩
  conv=>whnf
  iterate 3 (refine dS ?_;(conv=>whnf))
  refine ⟨_,cP (c63 m.rBl none (by omega)) ⟨rfl,rfl,zqv⟩,?_⟩
  conv=>whnf
  (refine dS ?_;(conv=>whnf))
  refine ⟨_,cP (c59 107 [zan m.r1 m.r2,zaw m.r3 m.r4 m.rKv m.rB,wrapB 4 m.rBl] (by simp) (by simp only [zqk,zql,zqf,List.length_nil];omega)) ⟨rfl,rfl,zqv⟩,?_⟩
  conv=>whnf
  refine ⟨_,cP (c58 _ hlen) ⟨rfl,rfl,zqv⟩,?_⟩
  conv=>whnf
  iterate 4 (refine dS ?_;(conv=>whnf))
  exact ⟨(by rw [zh1 hb (by rw [hl];exact hlen),hl] <;> rfl),Ext.refl _⟩
 by_cases h4:m.kind=4
 ·have hk:=h4
  have n1:¬m.kind=1:=by omega
  have n2:¬m.kind=2:=by omega
  have n3:¬m.kind=3:=by omega
  have n5:¬m.kind=5:=by omega
  refine ⟨fun h=>?_,fun h=>?_⟩
  ·exact (n1 h).elim
  conv=>whnf
  refine ⟨fun h=>?_,fun h=>?_⟩
  ·exact (n2 h).elim
  conv=>whnf
  refine ⟨fun h=>?_,fun h=>?_⟩
  ·exact (n3 h).elim
  conv=>whnf
  refine ⟨fun h=>?_,fun h=>?_⟩
  rotate_left
  ·exact (h hk).elim
  conv=>whnf
  rw [zqo n1] at hm
  rw [zqo n2] at hm
  rw [zqo n3] at hm
  rw [zqp hk] at hm
  simp only [zqb] at hm
  have g1:=zcp hm.1
  have g2:=za8 hm.2
  have e0:=zbf m.p1 m.p2 m.pKv m.pB
  have e1:=zah 4 m.pAu
  have hw:=zah 110 [zaw m.p1 m.p2 m.pKv m.pB,wrapB 4 m.pAu].flatten
  simp only [zqk,zql,zqf,List.length_nil] at hw
  have hlen:(wrapB 110 [zaw m.p1 m.p2 m.pKv m.pB,wrapB 4 m.pAu].flatten).length≤2000:=by simp only [zqk,zql];omega
  have hl:laidB m=wrapB 110 [zaw m.p1 m.p2 m.pKv m.pB,wrapB 4 m.pAu].flatten:=by unfold laidB;rw [zqo n1];rw [zqo n2];rw [zqo n3];rw [zqp hk]
  refine dP2 (by kernel_rfl) ?_
  conv=>whnf
  iterate 3 (refine dS ?_;(conv=>whnf))
  refine ⟨_,cP (c62 m.p1 m.p2 m.pKv m.pB none (by omega) (by omega) (by omega)) ⟨rfl,rfl,zqv⟩,?_⟩
  conv=>whnf
  iterate 3 (refine dS ?_;(conv=>whnf))
  refine ⟨_,cP (c63 m.pAu none (by omega)) ⟨rfl,rfl,zqv⟩,?_⟩
  conv=>whnf
  (refine dS ?_;(conv=>whnf))
  refine ⟨_,cP (c59 110 [zaw m.p1 m.p2 m.pKv m.pB,wrapB 4 m.pAu] (by simp) (by simp only [zqk,zql,zqf,List.length_nil];omega)) ⟨rfl,rfl,zqv⟩,?_⟩
  conv=>whnf
  refine ⟨_,cP (c58 _ hlen) ⟨rfl,rfl,zqv⟩,?_⟩
  conv=>whnf
  iterate 4 (refine dS ?_;(conv=>whnf))
  exact ⟨(by rw [zh1 hb (by rw [hl];exact hlen),hl] <;> rfl),Ext.refl _⟩
 have n1:¬m.kind=1:=h1
 have n2:¬m.kind=2:=h2
 have n3:¬m.kind=3:=h3
 have n4:¬m.kind=4:=h4
 refine ⟨fun h=>?_,fun h=>?_⟩
 ·exact (n1 h).elim
 conv=>whnf
 refine ⟨fun h=>?_,fun h=>?_⟩
 ·exact (n2 h).elim
 conv=>whnf
 refine ⟨fun h=>?_,fun h=>?_⟩
 ·exact (n3 h).elim
 conv=>whnf
 refine ⟨fun h=>?_,fun h=>?_⟩
 ·exact (n4 h).elim
 conv=>whnf
 by_cases hk:m.kind=5
 ·skip
  rw [zqo n1] at hm
  rw [zqo n2] at hm
  rw [zqo n3] at hm
  rw [zqo n4] at hm
  rw [zqp hk] at hm
  simp only [zqb] at hm
  have e0:=zam m.fErr
  have e1:=zam m.fNonce
  have hw:=zah 126 [intE m.fErr,intE m.fNonce].flatten
  simp only [zqk,zql,zqf,List.length_nil] at hw
  have hlen:(wrapB 126 [intE m.fErr,intE m.fNonce].flatten).length≤2000:=by simp only [zqk,zql];omega
  have hl:laidB m=wrapB 126 [intE m.fErr,intE m.fNonce].flatten:=by unfold laidB;rw [zqo n1];rw [zqo n2];rw [zqo n3];rw [zqo n4];skip
  refine dP2 (by kernel_rfl) ?_
  conv=>whnf
  iterate 3 (refine dS ?_;(conv=>whnf))
  refine ⟨_,cP (c61 m.fErr) ⟨rfl,rfl,zqv⟩,?_⟩
  conv=>whnf
  iterate 3 (refine dS ?_;(conv=>whnf))
  refine ⟨_,cP (c61 m.fNonce) ⟨rfl,rfl,zqv⟩,?_⟩
  conv=>whnf
  (refine dS ?_;(conv=>whnf))
  refine ⟨_,cP (c59 126 [intE m.fErr,intE m.fNonce] (by simp) (by simp only [zqk,zql,zqf,List.length_nil];omega)) ⟨rfl,rfl,zqv⟩,?_⟩
  conv=>whnf
  refine ⟨_,cP (c58 _ hlen) ⟨rfl,rfl,zqv⟩,?_⟩
  conv=>whnf
  iterate 4 (refine dS ?_;(conv=>whnf))
  exact ⟨(by rw [zh1 hb (by rw [hl];exact hlen),hl] <;> rfl),Ext.refl _⟩
 ·rw [zqo n1,zqo n2,zqo n3,zqo n4,zqo hk] at hm
  cases hm
theorem zuo (m:Msg):oldR (encV m)=true:=by
 unfold encV limV
 split
 ·simp [oldR,oldPs,oldP,sl,zc8]
 ·rfl
theorem c30 (m:Msg) (hm:m.fits):Pure prog 30 [.agg m.cells] (encV m):=Pure.of_gc (zuo m) (c30x m hm)
def outR (s t:Option (List UInt8)):Option (List UInt8):=if z3v t=true then s else none
def zii (s:Option (List UInt8)):Option (List UInt8)×(List UInt8×List UInt8) :=
 (outR (elemC 48 s).1 (txtC (txtC (elemC 48 s).2).1).1,((txtC (elemC 48 s).2).2,(txtC (txtC (elemC 48 s).2).1).2))
theorem zyd {m:Msg} {b:List UInt8}:okM m b=true↔isB m=true∧(laidB m).length≤2000∧laidB m=b:=by
 unfold okM
 rw [zqb,zqb,decide_eq_true_eq,decide_eq_true_eq]
def ttQ:TT:=[(3,⟨.int .i64,1,8,[.int .i64 0]⟩),(4,⟨.bool,1,1,[.bool false]⟩),(5,⟨.int .u8,1,1,[.int .u8 0]⟩),(9,⟨.str,1,16,[.str []]⟩),(22,⟨.slice 5,1,24,[.slice 0 [] (some 5)]⟩),(30,⟨.strct [(9,0),(9,1)],2,32,[.str [],.str []]⟩),(39,⟨.int .i64,1,8,[.int .i64 0]⟩),(24,⟨.arr 32 5,32,32,List.replicate 32 (.int .u8 0)⟩),(33,⟨.strct [(30,0),(24,2),(9,34),(3,35),(3,36)],37,96,[.str [],.str []]++List.replicate 32 (.int .u8 0)++[.str [],.int .i64 0,.int .i64 0]⟩),(35,⟨.strct [(30,0),(3,2),(3,3)],4,48,[.str [],.str [],.int .i64 0,.int .i64 0]⟩),(54,⟨.slice 193,1,24,[.slice 0 [] (some 193)]⟩),(290,⟨.fn,1,8,[.nilF]⟩),(215,⟨.arr 16 5,16,16,List.replicate 16 (.int .u8 0)⟩),(132,⟨.ptr,1,8,[.ptr none]⟩),(134,⟨.strct [(22,0),(4,1)],2,32,[.slice 0 [] (some 5),.bool false]⟩),(277,⟨.ptr,1,8,[.ptr none]⟩),(279,⟨.strct [(277,0)],1,8,[.ptr none]⟩),(91,⟨.slice 3,1,24,[.slice 0 [] (some 3)]⟩),(210,⟨.slice 22,1,24,[.slice 0 [] (some 22)]⟩)]
theorem ziy:ttOk prog ttQ=true:=by kernel_rfl
def imm74:List Nat:=[1]
def imm76:List Nat:=[1]
def imm36:List Nat:=[1]
def imm37:List Nat:=[1]
def z1j:List Nat:=[1]
def z1i:List Nat:=[4]
def z0j:List Nat:=[]
def keyR (s:Option (List UInt8)):Option (List UInt8)×(Nat→UInt8):=if (octC s).2.length=32 then ((octC s).1,keyOf (octC s).2) else (none,fun _=>0)
theorem zih {p q:Prt} (h:p.same q):p.cells=q.cells:=by
 obtain ⟨h0,h1,h2,h3,h4,h5⟩:=h
 unfold Prt.cells
 rw [zj9,zj9]
 rw [h0,h1,h2,h3,h4,h5]
theorem zs1 {p:Prt} {b:List UInt8}:okPrt p b=true↔zao p=true∧(partL p).length≤2000∧partL p=b:=by
 unfold okPrt
 rw [zqb,zqb,decide_eq_true_eq,decide_eq_true_eq]
theorem zpr {p q:Prt} {b:List UInt8} (h:p.same q):okPrt p b=okPrt q b:=by
 unfold okPrt
 rw [(zlw h).1,(zlw h).2]
def zw4 (s:Option (List UInt8)):Prt:=⟨(zii s).2.1,(zii s).2.2,(keyR (zii s).1).2,(txtC (keyR (zii s).1).1).2,(rintC (txtC (keyR (zii s).1).1).1).2,(rintC (rintC (txtC (keyR (zii s).1).1).1).1).2⟩
def z3p (s:Option (List UInt8)):Option (List UInt8):=(rintC (rintC (txtC (keyR (zii s).1).1).1).1).1
def partR (b:List UInt8):Option (List UInt8):=(elemC 99 (some b)).2
def refPV (b:List UInt8):PV:=match !(z3p (partR b)).isNone&&okPrt (zw4 (partR b)) b with
 | true=>.tup [.agg (zw4 (partR b)).cells,.int .i64 0]
 | false=>.tup [.agg zPrt.cells,.int .i64 2]
structure Aut where
 r:List UInt8
 n:List UInt8
 tm:Int
 sq:Int
def Aut.cells (p:Aut):List PV:=[.str p.r,.str p.n]++[.int .i64 p.tm]++[.int .i64 p.sq]
def zax (p:Aut):Bool:=zap p.r p.n&&inZ p.tm 0 1073741824&&inZ p.sq 0 1073741824
def autL (p:Aut):List UInt8:=wrapB 98 [zan p.r p.n,intE p.tm,intE p.sq].flatten
def encAV (p:Aut):PV:=if zax p=true∧(autL p).length≤2000 then .tup [sl (autL p),.int .i64 0] else .tup [sl [],.int .i64 1]
theorem zlf {p:Aut} (h:zax p=true∧(autL p).length≤2000):encAV p=.tup [sl (autL p),.int .i64 0]:=zqp h
theorem zf1 {p:Aut} (h:¬(zax p=true∧(autL p).length≤2000)):encAV p=.tup [sl [],.int .i64 1]:=zqo h
def autD (s:Option (List UInt8)):Aut:=⟨(zac s).2.1,(zac s).2.2,(intC (zac s).1).2,(intC (intC (zac s).1).1).2⟩
def autC (b:List UInt8):Aut:=autD (elemC 98 (some b)).2
def Aut.same (p q:Aut):Prop:=p.r=q.r∧p.n=q.n∧p.tm=q.tm∧p.sq=q.sq
def zAut:Aut:=⟨[],[],0,0⟩
theorem zno {p q:Aut} (h:p.same q):zax p=zax q∧autL p=autL q:=by
 obtain ⟨h0,h1,h2,h3⟩:=h
 unfold zax autL
 rw [h0,h1,h2,h3]
 exact ⟨rfl,rfl⟩
theorem zp7 (p:Aut):(autL p).length≤p.r.length+p.n.length+100:=by
 have h0:=zah 98 [zan p.r p.n,intE p.tm,intE p.sq].flatten
 have e0:=zaq p.r p.n
 have e1:=zam p.tm
 have e2:=zam p.sq
 simp only [zqk,zql,zqf,List.length_nil] at h0
 unfold autL
 simp only [zqk,zql]
 omega
def okAut (p:Aut) (b:List UInt8):Bool:=zax p&&(decide ((autL p).length≤2000)&&decide (autL p=b))
def agAV (p:Aut) (b:List UInt8):PV:=match okAut p b with
 | true=>.tup [.agg p.cells,.int .i64 0]
 | false=>.tup [.agg zAut.cells,.int .i64 2]
theorem zjq {p:Aut} {b:List UInt8} (h:okAut p b=true):agAV p b=.tup [.agg p.cells,.int .i64 0]:=by unfold agAV;rw [h]
theorem zjp {p:Aut} {b:List UInt8} (h:okAut p b=false):agAV p b=.tup [.agg zAut.cells,.int .i64 2]:=by unfold agAV;rw [h]
theorem zi1 {p q:Aut} (h:p.same q):p.cells=q.cells:=by
 obtain ⟨h0,h1,h2,h3⟩:=h
 unfold Aut.cells
 rw [h0,h1,h2,h3]
theorem zs0 {p:Aut} {b:List UInt8}:okAut p b=true↔zax p=true∧(autL p).length≤2000∧autL p=b:=by
 unfold okAut
 rw [zqb,zqb,decide_eq_true_eq,decide_eq_true_eq]
theorem zpq {p q:Aut} {b:List UInt8} (h:p.same q):okAut p b=okAut q b:=by
 unfold okAut
 rw [(zno h).1,(zno h).2]
theorem zp5 (p:Aut) (h:zax p=true):(autC (autL p)).same p:=by
 unfold zax at h
 simp only [zqb] at h
 have gp:=zaz h.1.1
 have g_tm:=za8 h.1.2
 have g_sq:=za8 h.2
 have e0:=zaq p.r p.n
 have e1:=zam p.tm
 have e2:=zam p.sq
 have e0x:=zbm 98 [zan p.r p.n,intE p.tm,intE p.sq].flatten [] (by simp only [zqk,zql,zqf,List.length_nil];omega)
 rw [List.append_nil] at e0x
 have w0:=zb3 p.r p.n (intE p.tm++(intE p.sq++[])) (by omega) (by omega)
 have w1:=zbu p.tm (by omega) (by omega) (intE p.sq++[])
 have w2:=zbu p.sq (by omega) (by omega) []
 unfold autC autL
 rw [e0x]
 show (autD (some [zan p.r p.n,intE p.tm,intE p.sq].flatten)).same p
 simp only [zqk,zql]
 unfold autD
 simp only [w0,w1,w2]
 exact ⟨rfl,rfl,rfl,rfl⟩
theorem c177 (p:Aut) (hr:p.r.length≤1000000) (hn:p.n.length≤1000000):Pure prog 177 [.agg p.cells] (encAV p):=by
 intro H
 have e0:=zaq p.r p.n
 have e1:=zam p.tm
 have e2:=zam p.sq
 (refine fnS (imm:=z1j) ziy func177 ?_;(conv=>whnf))
 refine dP2 (by kernel_rfl) ?_
 conv=>whnf
 iterate 2 (refine dS ?_;(conv=>whnf))
 refine ⟨_,cP (c64 p.r p.n (by omega) (by omega)) ⟨rfl,rfl,zqv⟩,?_⟩
 conv=>whnf
 cases f0:zap p.r p.n
 ·skip
  iterate 13 (refine dS ?_;(conv=>whnf))
  refine ⟨_,cP (c211 p.r p.n hr hn) ⟨rfl,rfl,zqv⟩,?_⟩
  conv=>whnf
  iterate 2 (refine dS ?_;(conv=>whnf))
  refine ⟨_,cP (c212 p.tm) ⟨rfl,rfl,zqv⟩,?_⟩
  conv=>whnf
  iterate 2 (refine dS ?_;(conv=>whnf))
  refine ⟨_,cP (c212 p.sq) ⟨rfl,rfl,zqv⟩,?_⟩
  conv=>whnf
  (refine dS ?_;(conv=>whnf))
  refine ⟨_,cP (c210p 98 [zan p.r p.n,intE p.tm,intE p.sq] (by simp) (by simp only [zqk,zql,zqf,List.length_nil];omega)) ⟨rfl,rfl,zqv⟩,?_⟩
  conv=>whnf
  have hb:zax p=false:=by unfold zax;simp only [f0,zq6,zq5,zq3,zq4]
  refine ⟨_,cP ((c164 false (autL p)).of_eq (zep (fun h=>by cases h.1))) ⟨rfl,rfl,zqv⟩,?_⟩
  conv=>whnf
  iterate 4 (refine dS ?_;(conv=>whnf))
  exact ⟨(zf1 (fun h=>by rw [hb] at h;cases h.1)).symm,rfl⟩
 iterate 4 (refine dS ?_;(conv=>whnf))
 refine ⟨_,cP (c204a p.tm) ⟨rfl,rfl,zqv⟩,?_⟩
 conv=>whnf
 cases f1:inZ p.tm 0 1073741824
 ·skip
  iterate 8 (refine dS ?_;(conv=>whnf))
  refine ⟨_,cP (c211 p.r p.n hr hn) ⟨rfl,rfl,zqv⟩,?_⟩
  conv=>whnf
  iterate 2 (refine dS ?_;(conv=>whnf))
  refine ⟨_,cP (c212 p.tm) ⟨rfl,rfl,zqv⟩,?_⟩
  conv=>whnf
  iterate 2 (refine dS ?_;(conv=>whnf))
  refine ⟨_,cP (c212 p.sq) ⟨rfl,rfl,zqv⟩,?_⟩
  conv=>whnf
  (refine dS ?_;(conv=>whnf))
  refine ⟨_,cP (c210p 98 [zan p.r p.n,intE p.tm,intE p.sq] (by simp) (by simp only [zqk,zql,zqf,List.length_nil];omega)) ⟨rfl,rfl,zqv⟩,?_⟩
  conv=>whnf
  have hb:zax p=false:=by unfold zax;simp only [f0,f1,zq6,zq5,zq3,zq4]
  refine ⟨_,cP ((c164 false (autL p)).of_eq (zep (fun h=>by cases h.1))) ⟨rfl,rfl,zqv⟩,?_⟩
  conv=>whnf
  iterate 4 (refine dS ?_;(conv=>whnf))
  exact ⟨(zf1 (fun h=>by rw [hb] at h;cases h.1)).symm,rfl⟩
 iterate 4 (refine dS ?_;(conv=>whnf))
 refine ⟨_,cP (c205 p.sq) ⟨rfl,rfl,zqv⟩,?_⟩
 conv=>whnf
 cases f2:inZ p.sq 0 1073741824
 ·skip
  iterate 3 (refine dS ?_;(conv=>whnf))
  refine ⟨_,cP (c211 p.r p.n hr hn) ⟨rfl,rfl,zqv⟩,?_⟩
  conv=>whnf
  iterate 2 (refine dS ?_;(conv=>whnf))
  refine ⟨_,cP (c212 p.tm) ⟨rfl,rfl,zqv⟩,?_⟩
  conv=>whnf
  iterate 2 (refine dS ?_;(conv=>whnf))
  refine ⟨_,cP (c212 p.sq) ⟨rfl,rfl,zqv⟩,?_⟩
  conv=>whnf
  (refine dS ?_;(conv=>whnf))
  refine ⟨_,cP (c210p 98 [zan p.r p.n,intE p.tm,intE p.sq] (by simp) (by simp only [zqk,zql,zqf,List.length_nil];omega)) ⟨rfl,rfl,zqv⟩,?_⟩
  conv=>whnf
  have hb:zax p=false:=by unfold zax;simp only [f0,f1,f2,zq6,zq5,zq3,zq4]
  refine ⟨_,cP ((c164 false (autL p)).of_eq (zep (fun h=>by cases h.1))) ⟨rfl,rfl,zqv⟩,?_⟩
  conv=>whnf
  iterate 4 (refine dS ?_;(conv=>whnf))
  exact ⟨(zf1 (fun h=>by rw [hb] at h;cases h.1)).symm,rfl⟩
 iterate 3 (refine dS ?_;(conv=>whnf))
 refine ⟨_,cP (c211 p.r p.n hr hn) ⟨rfl,rfl,zqv⟩,?_⟩
 conv=>whnf
 iterate 2 (refine dS ?_;(conv=>whnf))
 refine ⟨_,cP (c212 p.tm) ⟨rfl,rfl,zqv⟩,?_⟩
 conv=>whnf
 iterate 2 (refine dS ?_;(conv=>whnf))
 refine ⟨_,cP (c212 p.sq) ⟨rfl,rfl,zqv⟩,?_⟩
 conv=>whnf
 (refine dS ?_;(conv=>whnf))
 refine ⟨_,cP (c210p 98 [zan p.r p.n,intE p.tm,intE p.sq] (by simp) (by simp only [zqk,zql,zqf,List.length_nil];omega)) ⟨rfl,rfl,zqv⟩,?_⟩
 conv=>whnf
 have hb:zax p=true:=by unfold zax;simp only [f0,f1,f2,zq6,zq5,zq3,zq4]
 by_cases hlen:(autL p).length≤2000
 ·have hlim:=zon (ok:=true) (b:=autL p) ⟨rfl,hlen⟩
  refine ⟨_,cP ((c164 true (autL p)).of_eq hlim) ⟨rfl,rfl,zqv⟩,?_⟩
  conv=>whnf
  iterate 4 (refine dS ?_;(conv=>whnf))
  exact ⟨(zlf ⟨hb,hlen⟩).symm,rfl⟩
 ·have hlim:=zep (ok:=true) (b:=autL p) (fun h=>hlen h.2)
  refine ⟨_,cP ((c164 true (autL p)).of_eq hlim) ⟨rfl,rfl,zqv⟩,?_⟩
  conv=>whnf
  iterate 4 (refine dS ?_;(conv=>whnf))
  exact ⟨(zf1 (fun h=>hlen h.2)).symm,rfl⟩
theorem c176x (p:Aut) (b:List UInt8) (hr:p.r.length≤1000000) (hn:p.n.length≤1000000) (H:PH) :
  CK prog 176 [sl b,.agg p.cells,.func 177 [] []] H fun r H'=>r=agAV p b∧∃ext,H'=H++ext:=by
 (refine fnS (imm:=z1i) ziy func176 ?_;(conv=>whnf))
 have ext3:∀a b c:PObj,∃ext,((H++[a]++[b]).set H.length c)=H++ext:=fun a b c=>(((Ext.refl H).push _).push _).set (zqn _) _
 by_cases hb:zax p=true∧(autL p).length≤2000
 ·refine cP ((c177 p hr hn).of_eq (zlf hb)) ?_
  conv=>whnf
  refine ⟨fun _=>?_,fun h=>absurd rfl h⟩
  conv=>whnf
  refine cP (c157 (autL p) b) ?_
  cases hq:decide (autL p=b)
  ·have hk:okAut p b=false:=by unfold okAut;rw [hq,zq3,zq3]
   rw [zjp hk]
   conv=>whnf
   ((conv in (_[_]?)=>tactic=>exact gL _ _);(conv=>whnf))
   ((conv in (_[_]?)=>tactic=>exact zbk _ _ _);(conv=>whnf))
   ((conv in (_[_]?)=>tactic=>exact gS (zbk _ _ _));(conv=>whnf))
   exact ⟨rfl,ext3 _ _ _⟩
  ·have hk:okAut p b=true:=by unfold okAut;rw [hq,hb.1,zqe hb.2];rfl
   rw [zjq hk]
   conv=>whnf
   ((conv in (_[_]?)=>tactic=>exact zbk _ _ _);(conv=>whnf))
   ((conv in (_[_]?)=>tactic=>exact gS (zbk _ _ _));(conv=>whnf))
   exact ⟨rfl,ext3 _ _ _⟩
 ·refine cP ((c177 p hr hn).of_eq (zf1 hb)) ?_
  have hk:okAut p b=false:=by
   unfold okAut
   cases h1:zax p
   ·rfl
   ·rw [zqd (fun h2=>hb ⟨h1,h2⟩)];rfl
  rw [zjp hk]
  conv=>whnf
  refine ⟨fun h=>absurd h (by decide),fun _=>?_⟩
  conv=>whnf
  ((conv in (_[_]?)=>tactic=>exact gL _ _);(conv=>whnf))
  ((conv in (_[_]?)=>tactic=>exact zbk _ _ _);(conv=>whnf))
  ((conv in (_[_]?)=>tactic=>exact gS (zbk _ _ _));(conv=>whnf))
  exact ⟨rfl,ext3 _ _ _⟩
theorem znm (p:Aut) (b:List UInt8):oldR (agAV p b)=true:=by unfold agAV;cases okAut p b <;> rfl
theorem c176 (p:Aut) (b:List UInt8) (hr:p.r.length≤1000000) (hn:p.n.length≤1000000):Pure prog 176 [sl b,.agg p.cells,.func 177 [] []] (agAV p b):=Pure.of_gc (znm p b) (c176x p b hr hn)
theorem c133x (b:List UInt8) (hb:b.length≤140737488355328) (H:PH):CK prog 133 [sl b] H fun r H'=>r=agAV (autC b) b∧∃ext,H'=H++ext:=by
 (refine fnS (imm:=z0j) ziy func133 ?_;(conv=>whnf))
 refine cO (c158 b 98 hb (H++[PObj.mk 35 zAut.cells 0])) ?_
 rintro _ H2 ⟨d,rfl,k1,k2,k3⟩
 obtain ⟨o1,o2,e1,e2,e3,e4⟩:=zld k1 k2 k3
 have hs0:∀l,(elemC 98 (some b)).2=some l→l.length≤140737488355328:=fun l h=>((zar (tag:=98) (fun l h=>by cases h;exact hb)).2 l h).1
 show _
 unfold autC
 generalize (elemC 98 (some b)).2=s at hs0 k3 e3
 conv=>whnf
 ((conv in (_[_]?)=>tactic=>exact gL _ _);(conv=>whnf))
 ((conv in (_[_]?)=>tactic=>exact e2);(conv=>whnf))
 have l0:∀l,s=some l→l.length≤140737488355328:=hs0
 refine cO (c159 d s _ e3 l0) ?_
 rintro _ K0 ⟨rfl,u0,g0⟩
 have D1:=zn2 o1 o2 e1 e2 e4 u0 g0 (Aut.mk (zac s).2.1 (zac s).2.2 0 0).cells 1
 conv=>whnf
 ((conv in (_[_]?)=>tactic=>exact gL _ _);(conv=>whnf))
 have l1:∀l,(zac s).1=some l→l.length≤140737488355328:=(zar (tag:=48) l0).1
 ((conv in (_[_]?)=>tactic=>exact D1.c);(conv=>whnf))
 refine cO (c160 d (zac s).1 _ D1.cur l1) ?_
 rintro _ K1 ⟨rfl,u1,g1⟩
 have D2:=D1.call u1 g1
 conv=>whnf
 ((conv in (_[_]?)=>tactic=>exact D2.p);(conv=>whnf))
 have D3:=D2.store (Aut.mk (zac s).2.1 (zac s).2.2 (intC (zac s).1).2 0).cells 2
 have l2:∀l,(intC (zac s).1).1=some l→l.length≤140737488355328:=ze7 l1
 ((conv in (_[_]?)=>tactic=>exact D3.c);(conv=>whnf))
 refine cO (c160 d (intC (zac s).1).1 _ D3.cur l2) ?_
 rintro _ K2 ⟨rfl,u2,g2⟩
 have D4:=D3.call u2 g2
 conv=>whnf
 ((conv in (_[_]?)=>tactic=>exact D4.p);(conv=>whnf))
 have D5:=D4.store (Aut.mk (zac s).2.1 (zac s).2.2 (intC (zac s).1).2 (intC (intC (zac s).1).1).2).cells 3
 ((conv in (_[_]?)=>tactic=>exact D5.p);(conv=>whnf))
 refine cP (c176 (autD s) b (by unfold autD;exact Nat.le_trans (small _ _) (by decide)) (by unfold autD;exact Nat.le_trans (small _ _) (by decide))) ?_
 cases hk:okAut (autD s) b
 ·rw [zjp hk]
  conv=>whnf
  ((conv in (_[_]?)=>tactic=>exact D5.z);(conv=>whnf))
  ((conv in (_[_]?)=>tactic=>exact gS D5.z);(conv=>whnf))
  exact ⟨rfl,Upd.ext (D5.up.set (.inr (zqn _)) _)⟩
 ·rw [zjq hk]
  conv=>whnf
  ((conv in (_[_]?)=>tactic=>exact D5.z);(conv=>whnf))
  ((conv in (_[_]?)=>tactic=>exact gS D5.z);(conv=>whnf))
  exact ⟨rfl,Upd.ext (D5.up.set (.inr (zqn _)) _)⟩
theorem c133 (b:List UInt8) (hb:b.length≤140737488355328):Pure prog 133 [sl b] (agAV (autC b) b):=Pure.of_gc (znm _ b) (c133x b hb)
theorem c74 (p:Prt) (hr:p.r.length≤1099511627775) (hn:p.n.length≤1099511627775) (ht:p.tr.length≤1099511627775):Pure prog 74 [.agg p.cells] (.bool (zao p)):=by
 intro H
 (refine fnS (imm:=imm74) ziy func74 ?_;(conv=>whnf))
 refine lO RwS (fun x=>[(1,.elem p.cells),(3,.int .i64 x.i)]) (fun _=>H) (fun x=>x.i≤p.tr.length∧(p.tr.take x.i).all okT8=true) (fun x=>p.tr.length - x.i)
  ⟨⟨0⟩,⟨Nat.zero_le _,rfl⟩,⟨rfl,rfl,zqv⟩,rfl⟩ ?_
 rintro ⟨i⟩ ⟨hi,hall⟩
 have hi:i≤p.tr.length:=hi
 have hall:(p.tr.take i).all okT8=true:=hall
 conv=>whnf
 refine ⟨fun h=>?_,fun h=>?_⟩
 ·conv=>whnf
  have h:(i:Int)<(p.tr.length:Int):=h
  have hlt:i<p.tr.length:=by omega
  have hix:(0:Int)≤(i:Int)∧(i:Int)<(p.tr.length:Int):=⟨by omega,h⟩
  have bad:okT8 p.tr[i]=false→zao p=false:=fun hb=>by
   have:p.tr.all okT8=false:=by
    rw [Bool.eq_false_iff]
    intro ha
    rw [List.all_eq_true] at ha
    rw [ha _ (List.getElem_mem hlt)] at hb
    cases hb
   unfold zao zby
   rw [this,zq3,zq3,zq4]
  refine ⟨hix,p.tr[i],zqc hlt,?_⟩
  conv=>whnf
  refine ⟨fun b1=>?_,fun b1=>?_⟩
  ·have b1:(p.tr[i].toNat:Int)<32:=b1
   conv=>whnf
   exact ⟨zqm PV.bool (bad (by unfold okT8;rw [zqd (show ¬32≤p.tr[i].toNat by omega),zq4])).symm,rfl⟩
  have b1:¬(p.tr[i].toNat:Int)<32:=b1
  conv=>whnf
  refine ⟨hix,p.tr[i],zqc hlt,?_⟩
  conv=>whnf
  refine ⟨fun b2=>?_,fun b2=>?_⟩
  ·have b2:(p.tr[i].toNat:Int) > 126:=b2
   conv=>whnf
   exact ⟨zqm PV.bool (bad (by unfold okT8;rw [zqd (show ¬p.tr[i].toNat≤126 by omega),zq3])).symm,rfl⟩
  have b2:¬(p.tr[i].toNat:Int) > 126:=b2
  conv=>whnf
  refine ⟨⟨i+1⟩,⟨hlt,?_⟩,⟨rfl,?_,zqv⟩,rfl,by show p.tr.length - (i+1)<p.tr.length - i;omega⟩
  ·show (p.tr.take (i+1)).all okT8=true
   rw [List.take_succ_eq_append_getElem hlt,List.all_append,hall]
   show (true&&(okT8 p.tr[i]&&true))=true
   unfold okT8
   rw [zqe (show 32≤p.tr[i].toNat by omega),zqe (show p.tr[i].toNat≤126 by omega)];rfl
  ·show PV.int _ (IntKind.i64.wrap ((i:Int)+1))=PV.int _ ((i+1:Nat):Int)
   rw [w64 (by omega) (by omega)];rfl
 ·conv=>whnf
  have h:¬(i:Int)<(p.tr.length:Int):=h
  rw [List.take_of_length_le (by omega)] at hall
  refine cP (c29 p.r p.n (by omega) (by omega)) ?_
  cases f1:zap p.r p.n
  ·conv=>whnf
   exact ⟨zqm PV.bool (by unfold zao zby;simp only [hall,f1,zq6,zq5,zq3,zq4]),rfl⟩
  conv=>whnf
  refine ⟨fun h=>?_,fun h=>?_⟩
  rotate_left
  ·have f2:decide (p.tr.length≤300)=false:=zqd (fun hh=>h (show (p.tr.length:Int)≤300 by omega))
   conv=>whnf
   exact ⟨zqm PV.bool (by unfold zao zby;simp only [hall,f1,f2,zq6,zq5,zq3,zq4]),rfl⟩
  have f2:decide (p.tr.length≤300)=true:=zqe (by have h:(p.tr.length:Int)≤300:=h;omega)
  conv=>whnf
  refine cP (c103 p.st 0 1073741824) ?_
  cases f3:inZ p.st 0 1073741824
  ·conv=>whnf
   exact ⟨zqm PV.bool (by unfold zao zby;simp only [hall,f1,f2,f3,zq6,zq5,zq3,zq4]),rfl⟩
  conv=>whnf
  refine cP (c103 p.en 0 1073741824) ?_
  cases f4:inZ p.en 0 1073741824
  ·conv=>whnf
   exact ⟨zqm PV.bool (by unfold zao zby;simp only [hall,f1,f2,f3,f4,zq6,zq5,zq3,zq4]),rfl⟩
  conv=>whnf
  exact ⟨zqm PV.bool (by unfold zao zby;simp only [hall,f1,f2,f3,f4,zq6,zq5,zq3,zq4]),rfl⟩
theorem c76 (p:Aut) (hr:p.r.length≤1099511627775) (hn:p.n.length≤1099511627775):Pure prog 76 [.agg p.cells] (.bool (zax p)):=by
 intro H
 (refine fnS (imm:=imm76) ziy func76 ?_;(conv=>whnf))
 refine cP (c29 p.r p.n (by omega) (by omega)) ?_
 cases f0:zap p.r p.n
 ·conv=>whnf
  exact ⟨zqm PV.bool (by unfold zax;simp only [f0,zq6,zq5,zq3,zq4]),rfl⟩
 conv=>whnf
 refine cP (c103 p.tm 0 1073741824) ?_
 cases f1:inZ p.tm 0 1073741824
 ·conv=>whnf
  exact ⟨zqm PV.bool (by unfold zax;simp only [f0,f1,zq6,zq5,zq3,zq4]),rfl⟩
 conv=>whnf
 refine cP (c103 p.sq 0 1073741824) ?_
 cases f2:inZ p.sq 0 1073741824
 ·conv=>whnf
  exact ⟨zqm PV.bool (by unfold zax;simp only [f0,f1,f2,zq6,zq5,zq3,zq4]),rfl⟩
 conv=>whnf
 exact ⟨zqm PV.bool (by unfold zax;simp only [f0,f1,f2,zq6,zq5,zq3,zq4]),rfl⟩
def zil (p:Prt):PV:=if zao p=true then .tup [sl (partL p),.int .i64 0] else .tup [.slice 0 [] (some 5),.int .i64 1]
theorem zo0 {p:Prt} (h:zao p=true):(partL p).length≤2000:=by
 have h0:=zo1 p
 unfold zao at h
 simp only [zqb] at h
 have gp:=zaz h.1.1
 have gt:=ze8 h.1.2
 have g_st:=za8 h.2.1
 have g_en:=za8 h.2.2
 omega
theorem c36 (p:Prt) (hr:p.r.length≤1000000) (hn:p.n.length≤1000000) (ht:p.tr.length≤1000000):Pure prog 36 [.agg p.cells] (zil p):=by
 intro H
 have e0:=zaq p.r p.n
 have e1:=zah 4 (keyB p.k)
 have e2:=zah 27 p.tr
 have e3:=zam p.st
 have e4:=zam p.en
 have ek:=zhg p.k
 (refine fnS (imm:=imm36) ziy func36 ?_;(conv=>whnf))
 refine cP (c74 p (by omega) (by omega) (by omega)) ?_
 cases hb:zao p
 ·conv=>whnf
  exact ⟨(zqo (by rw [hb];decide):zil p=_).symm,rfl⟩
 have hlen:=zo0 hb
 conv=>whnf
 refine dP2 (by kernel_rfl) ?_
 conv=>whnf
 iterate 2 (refine dS ?_;(conv=>whnf))
 refine ⟨_,cP (c60 p.r p.n hr hn) ⟨rfl,rfl,zqv⟩,?_⟩
 conv=>whnf
 iterate 2 (refine dS ?_;(conv=>whnf))
 refine ⟨_,cP (c63 (keyB p.k) none (by omega)) ⟨rfl,rfl,zqv⟩,?_⟩
 conv=>whnf
 iterate 2 (refine dS ?_;(conv=>whnf))
 refine ⟨_,cP (c75 p.tr (by omega)) ⟨rfl,rfl,zqv⟩,?_⟩
 conv=>whnf
 iterate 2 (refine dS ?_;(conv=>whnf))
 refine ⟨_,cP (c61 p.st) ⟨rfl,rfl,zqv⟩,?_⟩
 conv=>whnf
 iterate 2 (refine dS ?_;(conv=>whnf))
 refine ⟨_,cP (c61 p.en) ⟨rfl,rfl,zqv⟩,?_⟩
 conv=>whnf
 (refine dS ?_;(conv=>whnf))
 refine ⟨_,cP (c59 99 [zan p.r p.n,wrapB 4 (keyB p.k),wrapB 27 p.tr,intE p.st,intE p.en] (by simp) (by simp only [zqk,zql,zqf,List.length_nil];omega)) ⟨rfl,rfl,zqv⟩,?_⟩
 conv=>whnf
 refine ⟨_,cP (c58 _ hlen) ⟨rfl,rfl,zqv⟩,?_⟩
 conv=>whnf
 iterate 4 (refine dS ?_;(conv=>whnf))
 exact ⟨(zqp hb:zil p=_).symm,rfl⟩
def zik (p:Aut):PV:=if zax p=true then .tup [sl (autL p),.int .i64 0] else .tup [.slice 0 [] (some 5),.int .i64 1]
theorem zp6 {p:Aut} (h:zax p=true):(autL p).length≤2000:=by
 have h0:=zp7 p
 unfold zax at h
 simp only [zqb] at h
 have gp:=zaz h.1.1
 have g_tm:=za8 h.1.2
 have g_sq:=za8 h.2
 omega
theorem c37 (p:Aut) (hr:p.r.length≤1000000) (hn:p.n.length≤1000000):Pure prog 37 [.agg p.cells] (zik p):=by
 intro H
 have e0:=zaq p.r p.n
 have e1:=zam p.tm
 have e2:=zam p.sq
 (refine fnS (imm:=imm37) ziy func37 ?_;(conv=>whnf))
 refine cP (c76 p (by omega) (by omega)) ?_
 cases hb:zax p
 ·conv=>whnf
  exact ⟨(zqo (by rw [hb];decide):zik p=_).symm,rfl⟩
 have hlen:=zp6 hb
 conv=>whnf
 refine dP2 (by kernel_rfl) ?_
 conv=>whnf
 iterate 2 (refine dS ?_;(conv=>whnf))
 refine ⟨_,cP (c60 p.r p.n hr hn) ⟨rfl,rfl,zqv⟩,?_⟩
 conv=>whnf
 iterate 2 (refine dS ?_;(conv=>whnf))
 refine ⟨_,cP (c61 p.tm) ⟨rfl,rfl,zqv⟩,?_⟩
 conv=>whnf
 iterate 2 (refine dS ?_;(conv=>whnf))
 refine ⟨_,cP (c61 p.sq) ⟨rfl,rfl,zqv⟩,?_⟩
 conv=>whnf
 (refine dS ?_;(conv=>whnf))
 refine ⟨_,cP (c59 98 [zan p.r p.n,intE p.tm,intE p.sq] (by simp) (by simp only [zqk,zql,zqf,List.length_nil];omega)) ⟨rfl,rfl,zqv⟩,?_⟩
 conv=>whnf
 refine ⟨_,cP (c58 _ hlen) ⟨rfl,rfl,zqv⟩,?_⟩
 conv=>whnf
 iterate 4 (refine dS ?_;(conv=>whnf))
 exact ⟨(zqp hb:zik p=_).symm,rfl⟩
def eBPrt (p:Prt):List UInt8:=if zao p=true then partL p else []
def eEPrt (p:Prt):Int:=if zao p=true then 0 else 1
def gPPrt (p:Prt) (b:List UInt8):Prt:=if okPrt p b=true then p else zPrt
def gEPrt (p:Prt) (b:List UInt8):Int:=if okPrt p b=true then 0 else 2
theorem zt8 (p:Prt) (b:List UInt8):agPV p b=.tup [.agg (gPPrt p b).cells,.int .i64 (gEPrt p b)]:=by
 unfold gPPrt gEPrt
 cases h:okPrt p b
 ·rw [zmk h];rfl
 ·rw [zjs h];rfl
theorem ztf (p:Prt):∃cs,zil p=.tup cs∧PV.tup (cs.map dem)=.tup [sl (eBPrt p),.int .i64 (eEPrt p)]:=by
 unfold zil eBPrt eEPrt
 cases h:zao p
 ·exact ⟨_,rfl,rfl⟩
 ·exact ⟨_,rfl,rfl⟩
theorem c36s (p:Prt) (hr:p.r.length≤1000000) (hn:p.n.length≤1000000) (ht:p.tr.length≤1000000):Pure prog 36 [.agg p.cells] (.tup [sl (eBPrt p),.int .i64 (eEPrt p)]):=by
 obtain ⟨cs,h1,h2⟩:=ztf p
 exact ((c36 p hr hn ht).of_eq h1).demT.of_eq h2
theorem c132s (b:List UInt8) (hb:b.length≤140737488355328):Pure prog 132 [sl b] (.tup [.agg (gPPrt (partC b) b).cells,.int .i64 (gEPrt (partC b) b)]):=(c132 b hb).of_eq (zt8 _ _)
def eBAut (p:Aut):List UInt8:=if zax p=true then autL p else []
def eEAut (p:Aut):Int:=if zax p=true then 0 else 1
def gPAut (p:Aut) (b:List UInt8):Aut:=if okAut p b=true then p else zAut
def gEAut (p:Aut) (b:List UInt8):Int:=if okAut p b=true then 0 else 2
theorem zt7 (p:Aut) (b:List UInt8):agAV p b=.tup [.agg (gPAut p b).cells,.int .i64 (gEAut p b)]:=by
 unfold gPAut gEAut
 cases h:okAut p b
 ·rw [zjp h];rfl
 ·rw [zjq h];rfl
theorem zte (p:Aut):∃cs,zik p=.tup cs∧PV.tup (cs.map dem)=.tup [sl (eBAut p),.int .i64 (eEAut p)]:=by
 unfold zik eBAut eEAut
 cases h:zax p
 ·exact ⟨_,rfl,rfl⟩
 ·exact ⟨_,rfl,rfl⟩
theorem c37s (p:Aut) (hr:p.r.length≤1000000) (hn:p.n.length≤1000000):Pure prog 37 [.agg p.cells] (.tup [sl (eBAut p),.int .i64 (eEAut p)]):=by
 obtain ⟨cs,h1,h2⟩:=zte p
 exact ((c37 p hr hn).of_eq h1).demT.of_eq h2
theorem c133s (b:List UInt8) (hb:b.length≤140737488355328):Pure prog 133 [sl b] (.tup [.agg (gPAut (autC b) b).cells,.int .i64 (gEAut (autC b) b)]):=(c133 b hb).of_eq (zt7 _ _)
theorem ebPrt {p:Prt} (h:zao p=true):eBPrt p=partL p∧eEPrt p=0:=⟨zqp h,zqp h⟩
theorem prPrt {p:Prt} (h:zao p=true):p.r.length≤1000000∧p.n.length≤1000000∧p.tr.length≤1000000:=by
 unfold zao at h
 simp only [zqb] at h
 have gp:=zaz h.1.1
 have gt:=ze8 h.1.2
 have g_st:=za8 h.2.1
 have g_en:=za8 h.2.2
 exact ⟨by omega,by omega,by omega⟩
theorem ebAut {p:Aut} (h:zax p=true):eBAut p=autL p∧eEAut p=0:=⟨zqp h,zqp h⟩
theorem prAut {p:Aut} (h:zax p=true):p.r.length≤1000000∧p.n.length≤1000000:=by
 unfold zax at h
 simp only [zqb] at h
 have gp:=zaz h.1.1
 have g_tm:=za8 h.1.2
 have g_sq:=za8 h.2
 exact ⟨by omega,by omega⟩
theorem zra {p:Prt} (h:zao p=true):(gPPrt (partC (partL p)) (partL p)).cells=p.cells∧gEPrt (partC (partL p)) (partL p)=0:=by
 have e:=zpu p h
 have hok:okPrt (partC (partL p)) (partL p)=true:=by rw [zpr e];exact zs1.2 ⟨h,zo0 h,rfl⟩
 unfold gPPrt gEPrt
 rw [zqp hok,zqp hok]
 exact ⟨zih e,rfl⟩
theorem zp9 {p:Aut} (h:zax p=true):(gPAut (autC (autL p)) (autL p)).cells=p.cells∧gEAut (autC (autL p)) (autL p)=0:=by
 have e:=zp5 p h
 have hok:okAut (autC (autL p)) (autL p)=true:=by rw [zpq e];exact zs0.2 ⟨h,zp6 h,rfl⟩
 unfold gPAut gEAut
 rw [zqp hok,zqp hok]
 exact ⟨zi1 e,rfl⟩
end Go.Proofs.Tryz
