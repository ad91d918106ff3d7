import Derived.Test.YtldfjimgfnjdjaaGreatDoorA4
import Derived.Test.YtldfjimgfnjdjaaGreatDoorA2
import Derived.Test.YtldfjimgfnjdjaaGreatDoorCards
import Derived.Test.YtldfjimgfnjdjaaGreatDoorTie
import Derived.WalkKit
import Derived.ProofKit
import Derived.OpenShut
import Derived.Deep.DeepHandedRow
import Derived.Lib.LaidTab
import Derived.Test.YtldfjimgfnjdjaaGreatDoorA3
set_option linter.all false
set_option maxRecDepth 100000
set_option maxHeartbeats 4000000
namespace Go.Proofs.Tryz
open Go Ps
def ttN:TT:=[(3,⟨.int .i64,1,8,[.int .i64 0]⟩),(4,⟨.bool,1,1,[.bool false]⟩),(5,⟨.int .u8,1,1,[.int .u8 0]⟩),(9,⟨.str,1,16,[.str []]⟩),(25,⟨.slice 5,1,24,[.slice 0 [] (some 5)]⟩),(36,⟨.strct [(9,0),(9,1)],2,32,[.str [],.str []]⟩),(51,⟨.strct [(36,0),(36,2),(3,4),(3,5)],6,80,[.str [],.str [],.str [],.str [],.int .i64 0,.int .i64 0]⟩),(53,⟨.strct [(36,0),(3,2),(25,3)],4,64,[.str [],.str [],.int .i64 0,.slice 0 [] (some 5)]⟩),(55,⟨.strct [(53,0),(25,4),(36,5),(3,7),(3,8)],9,136,[.str [],.str [],.int .i64 0,.slice 0 [] (some 5),.slice 0 [] (some 5),.str [],.str [],.int .i64 0,.int .i64 0]⟩),(57,⟨.strct [(36,0),(53,2),(25,6)],7,120,[.str [],.str [],.str [],.str [],.int .i64 0,.slice 0 [] (some 5),.slice 0 [] (some 5)]⟩),(59,⟨.strct [(53,0),(25,4)],5,88,[.str [],.str [],.int .i64 0,.slice 0 [] (some 5),.slice 0 [] (some 5)]⟩),(26,⟨.int .i64,1,8,[.int .i64 0]⟩),(61,⟨.strct [(26,0),(3,1)],2,16,[.int .i64 0,.int .i64 0]⟩),(63,⟨.strct [(3,0),(51,1),(55,7),(57,16),(59,23),(61,28)],30,448,[.int .i64 0,.str [],.str [],.str [],.str [],.int .i64 0,.int .i64 0,.str [],.str [],.int .i64 0,.slice 0 [] (some 5),.slice 0 [] (some 5),.str [],.str [],.int .i64 0,.int .i64 0,.str [],.str [],.str [],.str [],.int .i64 0,.slice 0 [] (some 5),.slice 0 [] (some 5),.str [],.str [],.int .i64 0,.slice 0 [] (some 5),.slice 0 [] (some 5),.int .i64 0,.int .i64 0]⟩),(150,⟨.fn,1,8,[.nilF]⟩),(213,⟨.ptr,1,8,[.ptr none]⟩),(215,⟨.strct [(213,0)],1,8,[.ptr none]⟩)]
theorem ttN_ok:ttOk prog ttN=true:=by kernel_rfl
def imm136:List Nat:=[1]
def imm87:List Nat:=[]
def imm86:List Nat:=[4]
def imm44:List Nat:=[]
structure TakS (T:Nat) (zc:List PV) (B K:PH) (r a e q:Nat) (s:Option (List UInt8)) (cells:List PV) (ver:Nat):Prop where
 z:K[r]? = some ⟨T,zc,0⟩
 c:K[a]? = some ⟨215,[.ptr (some (e,0))],1⟩
 p:K[q]? = some ⟨T,cells,ver⟩
 cur:curAt K e s
 up:Upd (·=e) B K
 lb:B.length≤q
 n1:r≠e
 n2:a≠e
 n3:q≠e
 n4:q≠a
 n5:q≠r
theorem TakS.call {T:Nat} {zc:List PV} {B K K':PH} {r a e q:Nat} {s s':Option (List UInt8)} {cells:List PV} {ver:Nat} (h:TakS T zc B K r a e q s cells ver) (u:Upd (·=e) K K') (c:curAt K' e s') :
  TakS T zc B K' r a e q s' cells ver:=by
 have lt:∀{i:Nat} {o:PObj},K[i]? = some o→i<K.length:=fun h=>(zq1.1 h).1
 exact ⟨(u.2 _ (lt h.z) h.n1).trans h.z,(u.2 _ (lt h.c) h.n2).trans h.c,(u.2 _ (lt h.p) h.n3).trans h.p,c,h.up.trans u,h.lb,h.n1,h.n2,h.n3,h.n4,h.n5⟩
theorem TakS.store {T:Nat} {zc:List PV} {B K:PH} {r a e q:Nat} {s:Option (List UInt8)} {cells:List PV} {ver:Nat} (h:TakS T zc B K r a e q s cells ver) (cells':List PV) (ver':Nat) :
  TakS T zc B (K.set q ⟨T,cells',ver'⟩) r a e q s cells' ver':=by
 refine ⟨?_,?_,gS h.p,h.cur.set_ne h.n3 _,h.up.set (.inr h.lb) _,h.lb,h.n1,h.n2,h.n3,h.n4,h.n5⟩
 ·rw [zqj h.n5];exact h.z
 ·rw [zqj h.n4];exact h.c
theorem c136 (d:Nat) (s:Option (List UInt8)) (H:PH) (hc:curAt H d s) (hl:∀l,s=some l→l.length≤140737488355328) :
  CK prog 136 [.agg [.ptr (some (d,0))]] H fun r H'=>r=.agg [.str (tickC s).2.r,.str (tickC s).2.n,.int .i64 (tickC s).2.kv,sl (tickC s).2.b]∧Upd (·=d) H H'∧curAt H' d (tickC s).1:=by
 have hd:=hc.lt
 have g0:=elemC_len (tag:=97) hl
 have hs0:∀l,(elemC 97 s).2=some l→l.length≤140737488355328:=fun l h=>(g0.2 l h).1
 have hs1:=(elemC_len (tag:=48) hs0).1
 have hs2:=intC_len hs1
 (refine fnS (imm:=imm136) ttN_ok func136 ?_;(conv=>whnf))
 obtain ⟨H1,hH1⟩:∃H1,H1=H++[PObj.mk 53 [.str [],.str [],.int .i64 0,.slice 0 [] (some 5)] 0]:=⟨_,rfl⟩
 have hl1:H1.length=H.length+1:=by rw [hH1];simp
 have h0:H1[H.length]? = some ⟨53,[.str [],.str [],.int .i64 0,.slice 0 [] (some 5)],0⟩:=by rw [hH1];exact gL _ _
 have u1:Upd (·=d) H H1:=by rw [hH1];exact (Upd.refl H).push _
 have hc1:curAt H1 d s:=hc.keep (X:=fun _=>False) (by rw [hH1];exact (Upd.refl H).push _) (fun f=>f)
 rw [←hH1]
 refine cO (c171 d 97 s H1 hc1 hl) ?_
 rintro _ H2 ⟨e,rfl,k1,k2,k3,k4⟩
 have hle:=k4.lt
 have uB:Upd (·=d) H H2:=u1.trans k2
 conv=>whnf
 ((conv in (_[_]?)=>tactic=>exact gL _ _);(conv=>whnf))
 obtain ⟨H3,hH3⟩:∃H3,H3=(H2++[PObj.mk 215 [.ptr none] 0]).set H2.length (PObj.mk 215 [.ptr (some (e,0))] 1):=⟨_,rfl⟩
 have hH3':H3=H2++[PObj.mk 215 [.ptr (some (e,0))] 1]:=by rw [hH3,sL]
 have u3:Upd (·=e) H2 H3:=by rw [hH3'];exact (Upd.refl H2).push _
 have h3c:H3[H2.length]? = some ⟨215,[.ptr (some (e,0))],1⟩:=by rw [hH3'];exact gL _ _
 have h3e:curAt H3 e (elemC 97 s).2:=k4.keep (X:=fun _=>False) (by rw [hH3'];exact (Upd.refl H2).push _) (fun f=>f)
 have h3z:H3[H.length]? = some ⟨53,[.str [],.str [],.int .i64 0,.slice 0 [] (some 5)],0⟩:=by
  rw [hH3',zq2 (by omega),k2.2 _ (by omega) (by omega)];exact h0
 have h3l:H3.length=H2.length+1:=by rw [hH3'];simp
 subst hH3
 ((conv in (_[_]?)=>tactic=>exact h3c);(conv=>whnf))
 refine cO (c134 e _ _ h3e hs0) ?_
 rintro _ K1 ⟨rfl,u4,g4⟩
 have D1:TakS 53 [.str [],.str [],.int .i64 0,.slice 0 [] (some 5)] H2 ((K1++[PObj.mk 53 [.str [],.str [],.int .i64 0,.slice 0 [] (some 5)] 0]).set K1.length ⟨53,[.str (princC (elemC 97 s).2).2.1,.str (princC (elemC 97 s).2).2.2,.int .i64 0,.slice 0 [] (some 5)],1⟩) H.length H2.length e K1.length (princC (elemC 97 s).2).1 [.str (princC (elemC 97 s).2).2.1,.str (princC (elemC 97 s).2).2.2,.int .i64 0,.slice 0 [] (some 5)] 1:=by
  have hk:H2.length+1≤K1.length:=Nat.le_trans (Nat.le_of_eq h3l.symm) u4.1
  rw [sL]
  refine ⟨?_,?_,gL _ _,g4.keep (X:=fun _=>False) ((Upd.refl K1).push _) (fun f=>f),(u3.trans u4).push _,by omega,by omega,by omega,by omega,by omega,by omega⟩
  ·rw [zq2 (by omega),u4.2 _ (Nat.lt_of_lt_of_le (show H.length<H2.length+1 by omega) (Nat.le_of_eq h3l.symm)) (by omega)];exact h3z
  ·rw [zq2 (by omega),u4.2 _ (Nat.lt_of_lt_of_le (show H2.length<H2.length+1 by omega) (Nat.le_of_eq h3l.symm)) (by omega)];exact h3c
 conv=>whnf
 ((conv in (_[_]?)=>tactic=>exact gL _ _);(conv=>whnf))
 ((conv in (_[_]?)=>tactic=>exact D1.c);(conv=>whnf))
 refine cO (c135 e _ _ D1.cur hs1) ?_
 rintro _ K2 ⟨rfl,u5,g5⟩
 have D2:=D1.call u5 g5
 conv=>whnf
 ((conv in (_[_]?)=>tactic=>exact D2.p);(conv=>whnf))
 have D3:=D2.store [.str (princC (elemC 97 s).2).2.1,.str (princC (elemC 97 s).2).2.2,.int .i64 (intC (princC (elemC 97 s).2).1).2,.slice 0 [] (some 5)] 2
 ((conv in (_[_]?)=>tactic=>exact D3.c);(conv=>whnf))
 refine cO (c137 e _ _ D3.cur hs2) ?_
 rintro _ K4 ⟨rfl,u6,g6,_⟩
 have D4:=D3.call u6 g6
 conv=>whnf
 ((conv in (_[_]?)=>tactic=>exact D4.p);(conv=>whnf))
 have D5:=D4.store [.str (princC (elemC 97 s).2).2.1,.str (princC (elemC 97 s).2).2.2,.int .i64 (intC (princC (elemC 97 s).2).1).2,sl (octC (intC (princC (elemC 97 s).2).1).1).2] 3
 ((conv in (_[_]?)=>tactic=>exact D5.p);(conv=>whnf))
 ((conv in (_[_]?)=>tactic=>exact D5.z);(conv=>whnf))
 ((conv in (_[_]?)=>tactic=>exact gS D5.z);(conv=>whnf))
 have uF:=uB.over D5.up (fun i hi h=>by omega)
 exact ⟨rfl,uF.set (.inr (zqn _)) _,(k3.keep D5.up (by omega)).set_ne (by omega) _⟩
theorem sl_get0 (t:UInt8) (b:List UInt8):∀(j:Nat) (c:PV),[bC t][j]? = some c→((t::b).map bC)[0*1+j]? = some c:=by
 intro j c hj
 match j with
 | 0=>exact hj
 | j+1=>simp at hj
theorem get_mid_set (H:PH) (o o' o'':PObj):((H++[o]++[o']).set (H++[o]).length o'')[H.length]? = some o:=by
 rw [sL];exact get_mid _ _ _
theorem c87x (b:List UInt8) (hb:b.length≤140737488355328) (H:PH):CK prog 87 [sl b] H fun r H'=>r=.agg (takenB b).d.cells∧∃ext,H'=H++ext:=by
 (refine fnS (imm:=imm87) ttN_ok func87 ?_;(conv=>whnf))
 ((conv in (_[_]?)=>tactic=>exact gL _ _);(conv=>whnf))
 cases b with
 | nil =>
  refine ⟨fun _=>?_,fun h=>absurd rfl h⟩
  conv=>whnf
  ((conv in (_[_]?)=>tactic=>exact gS (gL _ _));(conv=>whnf))
  ((conv in (_[_]?)=>tactic=>exact get_mid_set _ _ _ _);(conv=>whnf))
  ((conv in (_[_]?)=>tactic=>exact gS (get_mid_set _ _ _ _));(conv=>whnf))
  exact ⟨rfl,((((Ext.refl H).push _).push _).set (by simp) _).set (zqn _) _⟩
 | cons t b =>
  refine ⟨fun h=>absurd h (by simp <;> omega),fun _=>?_⟩
  conv=>whnf
  obtain ⟨HA,hHA⟩:∃HA,HA=H++[PObj.mk 63 mZ.cells 0]:=⟨_,rfl⟩
  obtain ⟨H1,hH1⟩:∃H1,H1=(HA++[PObj.mk 63 mZ.cells 0]).set HA.length (PObj.mk 63 mZ.cells 1):=⟨_,rfl⟩
  have hlA:HA.length=H.length+1:=by rw [hHA];simp
  have hH1':H1=HA++[PObj.mk 63 mZ.cells 1]:=by rw [hH1,sL]
  have hl1:H1.length=H.length+2:=by rw [hH1'];simp [hlA]
  have h1r:H1[H.length]? = some ⟨63,mZ.cells,0⟩:=by rw [hH1',zq2 (by omega),hHA];exact gL _ _
  have h1q:H1[HA.length]? = some ⟨63,mZ.cells,1⟩:=by rw [hH1'];exact gL _ _
  have u1:Upd (fun _=>False) H H1:=by rw [hH1',hHA];exact ((Upd.refl H).push _).push _
  refine ⟨⟨by decide,by first | (simp;done) | (simp;omega)⟩,[bC t],sl_get0 t b,?_⟩
  conv=>whnf
  subst hH1
  subst hHA
  refine cO (c133 (t::b) t hb _) ?_
  rintro _ H2 ⟨e,rfl,k1,k2,k3⟩
  have k1:((H++[PObj.mk 63 mZ.cells 0]++[PObj.mk 63 mZ.cells 0]).set (H++[PObj.mk 63 mZ.cells 0]).length (PObj.mk 63 mZ.cells 1)).length≤e:=k1
  rw [hl1] at k1
  have k2:Upd (fun _=>False) ((H++[PObj.mk 63 mZ.cells 0]++[PObj.mk 63 mZ.cells 0]).set (H++[PObj.mk 63 mZ.cells 0]).length (PObj.mk 63 mZ.cells 1)) H2:=k2
  have hle:=k3.lt
  have hs0:∀l,(elemC t (some (t::b))).2=some l→l.length≤140737488355328:=fun l h=>((elemC_len (tag:=t) (fun l h=>by cases h;exact hb)).2 l h).1
  show _
  have e0:takenB (t::b)=takenT t (elemC t (some (t::b))).2:=rfl
  rw [e0]
  generalize (elemC t (some (t::b))).2=s at hs0 k3
  have D0:TakS 63 mZ.cells H ((H2++[PObj.mk 215 [.ptr none] 0]).set H2.length (PObj.mk 215 [.ptr (some (e,0))] 1)) H.length H2.length e (H++[PObj.mk 63 mZ.cells 0]).length s mZ.cells 1:=by
   rw [sL]
   have hk:H.length+2≤H2.length:=Nat.le_trans (Nat.le_of_eq hl1.symm) k2.1
   refine ⟨?_,gL _ _,?_,k3.keep (X:=fun _=>False) ((Upd.refl H2).push _) (fun f=>f),((u1.over k2 (fun _ _ h=>h)).push _).mono (fun i _ h=>h.elim),by omega,by omega,by omega,by omega,by omega,by omega⟩
   ·rw [zq2 (by omega),k2.2 _ (by omega) (fun f=>f)];exact h1r
   ·rw [zq2 (by omega),k2.2 _ (by omega) (fun f=>f)];exact h1q
  have fin:∀{K:PH} {s':Option (List UInt8)} {cells:List PV} {ver:Nat} (D:TakS 63 mZ.cells H K H.length H2.length e (H++[PObj.mk 63 mZ.cells 0]).length s' cells ver) (o:PObj),∃ext,K.set H.length o=H++ext:=fun D o =>
   Upd.ext ((D.up.mono (Y:=fun _=>False) (fun i hi h=>by have h:i=e:=h;omega)).set (.inr (zqn _)) o)
  conv=>whnf
  ((conv in (_[_]?)=>tactic=>exact gL _ _);(conv=>whnf))
  refine ⟨⟨by decide,by first | (simp;done) | (simp;omega)⟩,[bC t],sl_get0 t b,?_⟩
  conv=>whnf
  refine ⟨fun h1=>?_,fun h1=>?_⟩
  ·have h1:(t.toNat:Int)=106:=h1
   have et:takenT t s=tkAs s:=by unfold takenT;rw [zqp (by omega)]
   rw [et]
   conv=>whnf
   ((conv in (_[_]?)=>tactic=>exact D0.p);(conv=>whnf))
   have E0:=D0.store ({ mZ with kind:=1 }:Msg).cells 2
   ((conv in (_[_]?)=>tactic=>exact E0.c);(conv=>whnf))
   have l0:∀l,s=some l→l.length≤140737488355328:=hs0
   refine cO (c134 e _ _ E0.cur l0) ?_
   rintro _ K0 ⟨rfl,u0,g0⟩
   have F0:=E0.call u0 g0
   conv=>whnf
   ((conv in (_[_]?)=>tactic=>exact F0.p);(conv=>whnf))
   have E1:=F0.store ({ mZ with kind:=1,a1:=(princC s).2.1,a2:=(princC s).2.2 }:Msg).cells 3
   ((conv in (_[_]?)=>tactic=>exact E1.c);(conv=>whnf))
   have l1:∀l,(princC s).1=some l→l.length≤140737488355328:=(elemC_len (tag:=48) l0).1
   refine cO (c134 e _ _ E1.cur l1) ?_
   rintro _ K1 ⟨rfl,u1,g1⟩
   have F1:=E1.call u1 g1
   conv=>whnf
   ((conv in (_[_]?)=>tactic=>exact F1.p);(conv=>whnf))
   have E2:=F1.store ({ mZ with kind:=1,a1:=(princC s).2.1,a2:=(princC s).2.2,a3:=(princC (princC s).1).2.1,a4:=(princC (princC s).1).2.2 }:Msg).cells 4
   ((conv in (_[_]?)=>tactic=>exact E2.c);(conv=>whnf))
   have l2:∀l,(princC (princC s).1).1=some l→l.length≤140737488355328:=(elemC_len (tag:=48) l1).1
   refine cO (c135 e _ _ E2.cur l2) ?_
   rintro _ K2 ⟨rfl,u2,g2⟩
   have F2:=E2.call u2 g2
   conv=>whnf
   ((conv in (_[_]?)=>tactic=>exact F2.p);(conv=>whnf))
   have E3:=F2.store ({ mZ with kind:=1,a1:=(princC s).2.1,a2:=(princC s).2.2,a3:=(princC (princC s).1).2.1,a4:=(princC (princC s).1).2.2,aTill:=(intC (princC (princC s).1).1).2 }:Msg).cells 5
   ((conv in (_[_]?)=>tactic=>exact E3.c);(conv=>whnf))
   have l3:∀l,(intC (princC (princC s).1).1).1=some l→l.length≤140737488355328:=intC_len l2
   refine cO (c135 e _ _ E3.cur l3) ?_
   rintro _ K3 ⟨rfl,u3,g3⟩
   have F3:=E3.call u3 g3
   conv=>whnf
   ((conv in (_[_]?)=>tactic=>exact F3.p);(conv=>whnf))
   have E4:=F3.store ({ mZ with kind:=1,a1:=(princC s).2.1,a2:=(princC s).2.2,a3:=(princC (princC s).1).2.1,a4:=(princC (princC s).1).2.2,aTill:=(intC (princC (princC s).1).1).2,aNonce:=(intC (intC (princC (princC s).1).1).1).2 }:Msg).cells 6
   ((conv in (_[_]?)=>tactic=>exact E4.p);(conv=>whnf))
   ((conv in (_[_]?)=>tactic=>exact E4.z);(conv=>whnf))
   ((conv in (_[_]?)=>tactic=>exact gS E4.z);(conv=>whnf))
   exact ⟨rfl,fin E4 _⟩
  conv=>whnf
  have h1:¬(t.toNat:Int)=106:=h1
  refine ⟨fun h2=>?_,fun h2=>?_⟩
  ·have h2:(t.toNat:Int)=108:=h2
   have et:takenT t s=tkTgs s:=by unfold takenT;rw [zqo (by omega)];rw [zqp (by omega)]
   rw [et]
   conv=>whnf
   ((conv in (_[_]?)=>tactic=>exact D0.p);(conv=>whnf))
   have E0:=D0.store ({ mZ with kind:=2 }:Msg).cells 2
   ((conv in (_[_]?)=>tactic=>exact E0.c);(conv=>whnf))
   have l0:∀l,s=some l→l.length≤140737488355328:=hs0
   refine cO (c136 e _ _ E0.cur l0) ?_
   rintro _ K0 ⟨rfl,u0,g0⟩
   have F0:=E0.call u0 g0
   conv=>whnf
   ((conv in (_[_]?)=>tactic=>exact F0.p);(conv=>whnf))
   have E1:=F0.store ({ mZ with kind:=2,t1:=(tickC s).2.r,t2:=(tickC s).2.n,tKv:=(tickC s).2.kv,tB:=(tickC s).2.b,tBo:=none }:Msg).cells 3
   ((conv in (_[_]?)=>tactic=>exact E1.c);(conv=>whnf))
   have l1:∀l,(tickC s).1=some l→l.length≤140737488355328:=(elemC_len (tag:=97) l0).1
   refine cO (c137 e _ _ E1.cur l1) ?_
   rintro _ K1 ⟨rfl,u1,g1,_⟩
   have F1:=E1.call u1 g1
   conv=>whnf
   ((conv in (_[_]?)=>tactic=>exact F1.p);(conv=>whnf))
   have E2:=F1.store ({ mZ with kind:=2,t1:=(tickC s).2.r,t2:=(tickC s).2.n,tKv:=(tickC s).2.kv,tB:=(tickC s).2.b,tBo:=none,tAu:=(octC (tickC s).1).2,tAuo:=none }:Msg).cells 4
   ((conv in (_[_]?)=>tactic=>exact E2.c);(conv=>whnf))
   have l2:∀l,(octC (tickC s).1).1=some l→l.length≤140737488355328:=(elemC_len (tag:=4) l1).1
   refine cO (c134 e _ _ E2.cur l2) ?_
   rintro _ K2 ⟨rfl,u2,g2⟩
   have F2:=E2.call u2 g2
   conv=>whnf
   ((conv in (_[_]?)=>tactic=>exact F2.p);(conv=>whnf))
   have E3:=F2.store ({ mZ with kind:=2,t1:=(tickC s).2.r,t2:=(tickC s).2.n,tKv:=(tickC s).2.kv,tB:=(tickC s).2.b,tBo:=none,tAu:=(octC (tickC s).1).2,tAuo:=none,t3:=(princC (octC (tickC s).1).1).2.1,t4:=(princC (octC (tickC s).1).1).2.2 }:Msg).cells 5
   ((conv in (_[_]?)=>tactic=>exact E3.c);(conv=>whnf))
   have l3:∀l,(princC (octC (tickC s).1).1).1=some l→l.length≤140737488355328:=(elemC_len (tag:=48) l2).1
   refine cO (c135 e _ _ E3.cur l3) ?_
   rintro _ K3 ⟨rfl,u3,g3⟩
   have F3:=E3.call u3 g3
   conv=>whnf
   ((conv in (_[_]?)=>tactic=>exact F3.p);(conv=>whnf))
   have E4:=F3.store ({ mZ with kind:=2,t1:=(tickC s).2.r,t2:=(tickC s).2.n,tKv:=(tickC s).2.kv,tB:=(tickC s).2.b,tBo:=none,tAu:=(octC (tickC s).1).2,tAuo:=none,t3:=(princC (octC (tickC s).1).1).2.1,t4:=(princC (octC (tickC s).1).1).2.2,tTill:=(intC (princC (octC (tickC s).1).1).1).2 }:Msg).cells 6
   ((conv in (_[_]?)=>tactic=>exact E4.c);(conv=>whnf))
   have l4:∀l,(intC (princC (octC (tickC s).1).1).1).1=some l→l.length≤140737488355328:=intC_len l3
   refine cO (c135 e _ _ E4.cur l4) ?_
   rintro _ K4 ⟨rfl,u4,g4⟩
   have F4:=E4.call u4 g4
   conv=>whnf
   ((conv in (_[_]?)=>tactic=>exact F4.p);(conv=>whnf))
   have E5:=F4.store ({ mZ with kind:=2,t1:=(tickC s).2.r,t2:=(tickC s).2.n,tKv:=(tickC s).2.kv,tB:=(tickC s).2.b,tBo:=none,tAu:=(octC (tickC s).1).2,tAuo:=none,t3:=(princC (octC (tickC s).1).1).2.1,t4:=(princC (octC (tickC s).1).1).2.2,tTill:=(intC (princC (octC (tickC s).1).1).1).2,tNonce:=(intC (intC (princC (octC (tickC s).1).1).1).1).2 }:Msg).cells 7
   ((conv in (_[_]?)=>tactic=>exact E5.p);(conv=>whnf))
   ((conv in (_[_]?)=>tactic=>exact E5.z);(conv=>whnf))
   ((conv in (_[_]?)=>tactic=>exact gS E5.z);(conv=>whnf))
   exact ⟨rfl,fin E5 _⟩
  conv=>whnf
  have h2:¬(t.toNat:Int)=108:=h2
  refine ⟨fun h3=>?_,fun h3=>?_⟩
  ·have h3:(t.toNat:Int)=107:=h3
   have et:takenT t s=tkRep s:=by unfold takenT;rw [zqo (by omega)];rw [zqo (by omega)];rw [zqp (by omega)]
   rw [et]
   conv=>whnf
   ((conv in (_[_]?)=>tactic=>exact D0.p);(conv=>whnf))
   have E0:=D0.store ({ mZ with kind:=3 }:Msg).cells 2
   ((conv in (_[_]?)=>tactic=>exact E0.c);(conv=>whnf))
   have l0:∀l,s=some l→l.length≤140737488355328:=hs0
   refine cO (c134 e _ _ E0.cur l0) ?_
   rintro _ K0 ⟨rfl,u0,g0⟩
   have F0:=E0.call u0 g0
   conv=>whnf
   ((conv in (_[_]?)=>tactic=>exact F0.p);(conv=>whnf))
   have E1:=F0.store ({ mZ with kind:=3,r1:=(princC s).2.1,r2:=(princC s).2.2 }:Msg).cells 3
   ((conv in (_[_]?)=>tactic=>exact E1.c);(conv=>whnf))
   have l1:∀l,(princC s).1=some l→l.length≤140737488355328:=(elemC_len (tag:=48) l0).1
   refine cO (c136 e _ _ E1.cur l1) ?_
   rintro _ K1 ⟨rfl,u1,g1⟩
   have F1:=E1.call u1 g1
   conv=>whnf
   ((conv in (_[_]?)=>tactic=>exact F1.p);(conv=>whnf))
   have E2:=F1.store ({ mZ with kind:=3,r1:=(princC s).2.1,r2:=(princC s).2.2,r3:=(tickC (princC s).1).2.r,r4:=(tickC (princC s).1).2.n,rKv:=(tickC (princC s).1).2.kv,rB:=(tickC (princC s).1).2.b,rBo:=none }:Msg).cells 4
   ((conv in (_[_]?)=>tactic=>exact E2.c);(conv=>whnf))
   have l2:∀l,(tickC (princC s).1).1=some l→l.length≤140737488355328:=(elemC_len (tag:=97) l1).1
   refine cO (c137 e _ _ E2.cur l2) ?_
   rintro _ K2 ⟨rfl,u2,g2,_⟩
   have F2:=E2.call u2 g2
   conv=>whnf
   ((conv in (_[_]?)=>tactic=>exact F2.p);(conv=>whnf))
   have E3:=F2.store ({ mZ with kind:=3,r1:=(princC s).2.1,r2:=(princC s).2.2,r3:=(tickC (princC s).1).2.r,r4:=(tickC (princC s).1).2.n,rKv:=(tickC (princC s).1).2.kv,rB:=(tickC (princC s).1).2.b,rBo:=none,rBl:=(octC (tickC (princC s).1).1).2,rBlo:=none }:Msg).cells 5
   ((conv in (_[_]?)=>tactic=>exact E3.p);(conv=>whnf))
   ((conv in (_[_]?)=>tactic=>exact E3.z);(conv=>whnf))
   ((conv in (_[_]?)=>tactic=>exact gS E3.z);(conv=>whnf))
   exact ⟨rfl,fin E3 _⟩
  conv=>whnf
  have h3:¬(t.toNat:Int)=107:=h3
  refine ⟨fun h4=>?_,fun h4=>?_⟩
  ·have h4:(t.toNat:Int)=110:=h4
   have et:takenT t s=tkAp s:=by unfold takenT;rw [zqo (by omega)];rw [zqo (by omega)];rw [zqo (by omega)];rw [zqp (by omega)]
   rw [et]
   conv=>whnf
   ((conv in (_[_]?)=>tactic=>exact D0.p);(conv=>whnf))
   have E0:=D0.store ({ mZ with kind:=4 }:Msg).cells 2
   ((conv in (_[_]?)=>tactic=>exact E0.c);(conv=>whnf))
   have l0:∀l,s=some l→l.length≤140737488355328:=hs0
   refine cO (c136 e _ _ E0.cur l0) ?_
   rintro _ K0 ⟨rfl,u0,g0⟩
   have F0:=E0.call u0 g0
   conv=>whnf
   ((conv in (_[_]?)=>tactic=>exact F0.p);(conv=>whnf))
   have E1:=F0.store ({ mZ with kind:=4,p1:=(tickC s).2.r,p2:=(tickC s).2.n,pKv:=(tickC s).2.kv,pB:=(tickC s).2.b,pBo:=none }:Msg).cells 3
   ((conv in (_[_]?)=>tactic=>exact E1.c);(conv=>whnf))
   have l1:∀l,(tickC s).1=some l→l.length≤140737488355328:=(elemC_len (tag:=97) l0).1
   refine cO (c137 e _ _ E1.cur l1) ?_
   rintro _ K1 ⟨rfl,u1,g1,_⟩
   have F1:=E1.call u1 g1
   conv=>whnf
   ((conv in (_[_]?)=>tactic=>exact F1.p);(conv=>whnf))
   have E2:=F1.store ({ mZ with kind:=4,p1:=(tickC s).2.r,p2:=(tickC s).2.n,pKv:=(tickC s).2.kv,pB:=(tickC s).2.b,pBo:=none,pAu:=(octC (tickC s).1).2,pAuo:=none }:Msg).cells 4
   ((conv in (_[_]?)=>tactic=>exact E2.p);(conv=>whnf))
   ((conv in (_[_]?)=>tactic=>exact E2.z);(conv=>whnf))
   ((conv in (_[_]?)=>tactic=>exact gS E2.z);(conv=>whnf))
   exact ⟨rfl,fin E2 _⟩
  conv=>whnf
  have h4:¬(t.toNat:Int)=110:=h4
  refine ⟨fun h5=>?_,fun h5=>?_⟩
  ·have h5:(t.toNat:Int)=126:=h5
   have et:takenT t s=tkFail s:=by unfold takenT;rw [zqo (by omega)];rw [zqo (by omega)];rw [zqo (by omega)];rw [zqo (by omega)];rw [zqp (by omega)]
   rw [et]
   conv=>whnf
   ((conv in (_[_]?)=>tactic=>exact D0.p);(conv=>whnf))
   have E0:=D0.store ({ mZ with kind:=5 }:Msg).cells 2
   ((conv in (_[_]?)=>tactic=>exact E0.c);(conv=>whnf))
   have l0:∀l,s=some l→l.length≤140737488355328:=hs0
   refine cO (c135 e _ _ E0.cur l0) ?_
   rintro _ K0 ⟨rfl,u0,g0⟩
   have F0:=E0.call u0 g0
   conv=>whnf
   ((conv in (_[_]?)=>tactic=>exact F0.p);(conv=>whnf))
   have E1:=F0.store ({ mZ with kind:=5,fErr:=(intC s).2 }:Msg).cells 3
   ((conv in (_[_]?)=>tactic=>exact E1.c);(conv=>whnf))
   have l1:∀l,(intC s).1=some l→l.length≤140737488355328:=intC_len l0
   refine cO (c135 e _ _ E1.cur l1) ?_
   rintro _ K1 ⟨rfl,u1,g1⟩
   have F1:=E1.call u1 g1
   conv=>whnf
   ((conv in (_[_]?)=>tactic=>exact F1.p);(conv=>whnf))
   have E2:=F1.store ({ mZ with kind:=5,fErr:=(intC s).2,fNonce:=(intC (intC s).1).2 }:Msg).cells 4
   ((conv in (_[_]?)=>tactic=>exact E2.p);(conv=>whnf))
   ((conv in (_[_]?)=>tactic=>exact E2.z);(conv=>whnf))
   ((conv in (_[_]?)=>tactic=>exact gS E2.z);(conv=>whnf))
   exact ⟨rfl,fin E2 _⟩
  conv=>whnf
  have h5:¬(t.toNat:Int)=126:=h5
  have et:takenT t s=mZ:=by unfold takenT;rw [zqo (by omega),zqo (by omega),zqo (by omega),zqo (by omega),zqo (by omega)]
  rw [et]
  ((conv in (_[_]?)=>tactic=>exact D0.p);(conv=>whnf))
  ((conv in (_[_]?)=>tactic=>exact D0.z);(conv=>whnf))
  ((conv in (_[_]?)=>tactic=>exact gS D0.z);(conv=>whnf))
  exact ⟨rfl,fin D0 _⟩
theorem old_cells (m:Msg):oldPs m.d.cells=true:=by
 simp [Msg.cells,Msg.as,Msg.tgs,Msg.rep,Msg.ap,Msg.fail,Msg.d,oldPs,oldP,slo,oldPs_bytes]
theorem c87 (b:List UInt8) (hb:b.length≤140737488355328):Pure prog 87 [sl b] (.agg (takenB b).d.cells):=Pure.of_gc (old_cells _) (c87x b hb)
theorem small (t:UInt8) (s:Option (List UInt8)):((elemC t s).2.getD []).length≤65535 :=
 getD_len (B:=(s.getD []).length) (elemC_len (fun l h=>by subst h;exact zqn _)).2
theorem small2 (t:UInt8) (s:Option (List UInt8)):((elemC t s).2.getD []).length≤1099511620000:=Nat.le_trans (small t s) (by decide)
theorem taken_fits (b:List UInt8):(takenB b).fits:=by
 cases b with
 | nil=>simp [takenB,mZ,Msg.fits]
 | cons t b =>
  show (takenT t _).fits
  generalize (elemC t (some (t::b))).2=s
  unfold takenT
  have z:∀n:Nat,([]:List UInt8).length≤n:=fun n=>Nat.zero_le _
  split
  ·refine ⟨?_,?_,?_,?_,?_,?_,?_,?_,?_,?_,?_,?_,?_,?_⟩ <;> first | exact z _ | exact small2 _ _
  ·split
   ·refine ⟨?_,?_,?_,?_,?_,?_,?_,?_,?_,?_,?_,?_,?_,?_⟩ <;> first | exact z _ | exact small2 _ _
   ·split
    ·refine ⟨?_,?_,?_,?_,?_,?_,?_,?_,?_,?_,?_,?_,?_,?_⟩ <;> first | exact z _ | exact small2 _ _
    ·split
     ·refine ⟨?_,?_,?_,?_,?_,?_,?_,?_,?_,?_,?_,?_,?_,?_⟩ <;> first | exact z _ | exact small2 _ _
     ·split
      ·refine ⟨?_,?_,?_,?_,?_,?_,?_,?_,?_,?_,?_,?_,?_,?_⟩ <;> first | exact z _ | exact small2 _ _
      ·refine ⟨?_,?_,?_,?_,?_,?_,?_,?_,?_,?_,?_,?_,?_,?_⟩ <;> first | exact z _ | exact small2 _ _
def okM (m:Msg) (b:List UInt8):Bool:=isB m&&(decide ((laidB m).length≤2000)&&decide (laidB m=b))
def agM (m:Msg) (b:List UInt8):PV:=match okM m b with
 | true=>.tup [.agg m.d.cells,.int .i64 0]
 | false=>.tup [.agg mZ.d.cells,.int .i64 2]
theorem agM_yes {m:Msg} {b:List UInt8} (h:okM m b=true):agM m b=.tup [.agg m.d.cells,.int .i64 0]:=by unfold agM;rw [h]
theorem agM_no {m:Msg} {b:List UInt8} (h:okM m b=false):agM m b=.tup [.agg mZ.d.cells,.int .i64 2]:=by unfold agM;rw [h]
theorem encV_yes {m:Msg} (h:isB m=true∧(laidB m).length≤2000):encV m=.tup [sl (laidB m),.int .i64 0]:=zqp h
theorem encV_no {m:Msg} (h:¬(isB m=true∧(laidB m).length≤2000)):encV m=.tup [.slice 0 [] (some 5),.int .i64 1]:=zqo h
theorem c86x (m:Msg) (b:List UInt8) (hm:m.fits) (H:PH):CK prog 86 [sl b,.agg m.d.cells,.func 72 [] []] H fun r H'=>r=agM m b∧∃ext,H'=H++ext:=by
 (refine fnS (imm:=imm86) ttN_ok func86 ?_;(conv=>whnf))
 have hd:encV m.d=encV m:=rfl
 by_cases hb:isB m=true∧(laidB m).length≤2000
 ·refine cP ((c72 m.d hm).of_eq (hd.trans (encV_yes hb))) ?_
  conv=>whnf
  refine ⟨fun _=>?_,fun h=>absurd rfl h⟩
  conv=>whnf
  refine cP (c132 (laidB m) b) ?_
  cases hq:decide (laidB m=b)
  ·have hk:okM m b=false:=by unfold okM;rw [hq,zq3,zq3]
   rw [agM_no hk]
   conv=>whnf
   ((conv in (_[_]?)=>tactic=>exact gL _ _);(conv=>whnf))
   ((conv in (_[_]?)=>tactic=>exact get_mid _ _ _);(conv=>whnf))
   ((conv in (_[_]?)=>tactic=>exact gS (get_mid _ _ _));(conv=>whnf))
   exact ⟨rfl,(((Ext.refl H).push _).push _).set (zqn _) _⟩
  ·have hk:okM m b=true:=by unfold okM;rw [hq,hb.1,zqe hb.2];rfl
   rw [agM_yes hk]
   conv=>whnf
   ((conv in (_[_]?)=>tactic=>exact get_mid _ _ _);(conv=>whnf))
   ((conv in (_[_]?)=>tactic=>exact gS (get_mid _ _ _));(conv=>whnf))
   exact ⟨rfl,(((Ext.refl H).push _).push _).set (zqn _) _⟩
 ·refine cP ((c72 m.d hm).of_eq (hd.trans (encV_no hb))) ?_
  have hk:okM m b=false:=by
   unfold okM
   cases h1:isB m
   ·rfl
   ·rw [zqd (fun h2=>hb ⟨h1,h2⟩)];rfl
  rw [agM_no hk]
  conv=>whnf
  refine ⟨fun h=>absurd h (by decide),fun _=>?_⟩
  conv=>whnf
  ((conv in (_[_]?)=>tactic=>exact gL _ _);(conv=>whnf))
  ((conv in (_[_]?)=>tactic=>exact get_mid _ _ _);(conv=>whnf))
  ((conv in (_[_]?)=>tactic=>exact gS (get_mid _ _ _));(conv=>whnf))
  exact ⟨rfl,(((Ext.refl H).push _).push _).set (zqn _) _⟩
theorem agM_old (m:Msg) (b:List UInt8):oldR (agM m b)=true:=by
 cases h:okM m b
 ·rw [agM_no h];simp [oldR,oldPs,oldP,old_cells]
 ·rw [agM_yes h];simp [oldR,oldPs,oldP,old_cells]
theorem c86 (m:Msg) (b:List UInt8) (hm:m.fits):Pure prog 86 [sl b,.agg m.d.cells,.func 72 [] []] (agM m b):=Pure.of_gc (agM_old m b) (c86x m b hm)
def decV (b:List UInt8):PV:=agM (takenB b) b
theorem c44x (b:List UInt8) (hb:b.length≤140737488355328) (H:PH):CK prog 44 [sl b] H fun r H'=>r=decV b∧∃ext,H'=H++ext:=by
 (refine fnS (imm:=imm44) ttN_ok func44 ?_;(conv=>whnf))
 refine cP (c87 b hb) ?_
 conv=>whnf
 refine cP (c86 (takenB b) b (taken_fits b)) ?_
 unfold decV
 cases h:okM (takenB b) b
 ·rw [agM_no h]
  conv=>whnf
  ((conv in (_[_]?)=>tactic=>exact gL _ _);(conv=>whnf))
  ((conv in (_[_]?)=>tactic=>exact gS (gL _ _));(conv=>whnf))
  exact ⟨rfl,((Ext.refl H).push _).set (zqn _) _⟩
 ·rw [agM_yes h]
  conv=>whnf
  ((conv in (_[_]?)=>tactic=>exact gL _ _);(conv=>whnf))
  ((conv in (_[_]?)=>tactic=>exact gS (gL _ _));(conv=>whnf))
  exact ⟨rfl,((Ext.refl H).push _).set (zqn _) _⟩
theorem c44 (b:List UInt8) (hb:b.length≤140737488355328):Pure prog 44 [sl b] (decV b):=Pure.of_gc (agM_old _ b) (c44x b hb)
def ttL:TT:=[(3,⟨.int .i64,1,8,[.int .i64 0]⟩),(4,⟨.bool,1,1,[.bool false]⟩),(5,⟨.int .u8,1,1,[.int .u8 0]⟩),(9,⟨.str,1,16,[.str []]⟩),(25,⟨.slice 5,1,24,[.slice 0 [] (some 5)]⟩),(36,⟨.strct [(9,0),(9,1)],2,32,[.str [],.str []]⟩),(51,⟨.strct [(36,0),(36,2),(3,4),(3,5)],6,80,[.str [],.str [],.str [],.str [],.int .i64 0,.int .i64 0]⟩),(53,⟨.strct [(36,0),(3,2),(25,3)],4,64,[.str [],.str [],.int .i64 0,.slice 0 [] (some 5)]⟩),(55,⟨.strct [(53,0),(25,4),(36,5),(3,7),(3,8)],9,136,[.str [],.str [],.int .i64 0,.slice 0 [] (some 5),.slice 0 [] (some 5),.str [],.str [],.int .i64 0,.int .i64 0]⟩),(57,⟨.strct [(36,0),(53,2),(25,6)],7,120,[.str [],.str [],.str [],.str [],.int .i64 0,.slice 0 [] (some 5),.slice 0 [] (some 5)]⟩),(59,⟨.strct [(53,0),(25,4)],5,88,[.str [],.str [],.int .i64 0,.slice 0 [] (some 5),.slice 0 [] (some 5)]⟩),(26,⟨.int .i64,1,8,[.int .i64 0]⟩),(61,⟨.strct [(26,0),(3,1)],2,16,[.int .i64 0,.int .i64 0]⟩),(63,⟨.strct [(3,0),(51,1),(55,7),(57,16),(59,23),(61,28)],30,448,[.int .i64 0,.str [],.str [],.str [],.str [],.int .i64 0,.int .i64 0,.str [],.str [],.int .i64 0,.slice 0 [] (some 5),.slice 0 [] (some 5),.str [],.str [],.int .i64 0,.int .i64 0,.str [],.str [],.str [],.str [],.int .i64 0,.slice 0 [] (some 5),.slice 0 [] (some 5),.str [],.str [],.int .i64 0,.slice 0 [] (some 5),.slice 0 [] (some 5),.int .i64 0,.int .i64 0]⟩),(126,⟨.ptr,1,8,[.ptr none]⟩),(128,⟨.strct [(25,0),(4,1)],2,32,[.slice 0 [] (some 5),.bool false]⟩),(192,⟨.slice 25,1,24,[.slice 0 [] (some 25)]⟩)]
theorem ttL_ok:ttOk prog ttL=true:=by kernel_rfl
def imm147:List Nat:=[]
def imm100:List Nat:=[]
def imm63:List Nat:=[]
def imm67:List Nat:=[]
def imm111:List Nat:=[]
def imm65:List Nat:=[]
def imm57:List Nat:=[]
def imm98:List Nat:=[]
def imm99:List Nat:=[]
def imm53:List Nat:=[]
def imm97:List Nat:=[]
def imm55:List Nat:=[]
def imm54:List Nat:=[]
def imm56:List Nat:=[]
def imm64:List Nat:=[1]
def imm66:List Nat:=[1]
def imm62:List Nat:=[]
def imm24:List Nat:=[1]
def imm22:List Nat:=[]
theorem c147 (n:Nat):Pure prog 147 [.int .i64 n] (slo (lenB n) (some 5)):=by
 intro H
 (refine fnS (imm:=imm147) ttL_ok func147 ?_;(conv=>whnf))
 refine ⟨fun h=>?_,fun h=>?_⟩
 ·conv=>whnf
  have h:(n:Int)<128:=h
  have e:lenB n=[UInt8.ofNat n]:=by unfold lenB;rw [zqp (by omega)]
  rw [e]
  refine ⟨?_,rfl⟩
  show PV.slice 1 [PV.int .u8 (IntKind.u8.wrap (n:Int))] (some 5)=PV.slice 1 [PV.int .u8 ((UInt8.ofNat n).toNat:Int)] (some 5)
  rw [u8w]
 ·conv=>whnf
  have h:¬(n:Int)<128:=h
  refine ⟨fun h2=>?_,fun h2=>?_⟩
  ·conv=>whnf
   have h2:(n:Int)<256:=h2
   have e:lenB n=[129,UInt8.ofNat n]:=by unfold lenB;rw [zqo (by omega),zqp (by omega)]
   rw [e]
   refine ⟨?_,rfl⟩
   show PV.slice 2 [PV.int .u8 129,PV.int .u8 (IntKind.u8.wrap (n:Int))] (some 5)=PV.slice 2 [PV.int .u8 129,PV.int .u8 ((UInt8.ofNat n).toNat:Int)] (some 5)
   rw [u8w]
  ·conv=>whnf
   have h2:¬(n:Int)<256:=h2
   have e:lenB n=[130,UInt8.ofNat (n / 256),UInt8.ofNat n]:=by unfold lenB;rw [zqo (by omega),zqo (by omega)]
   rw [e]
   refine ⟨by decide,?_⟩
   conv=>whnf
   refine ⟨?_,rfl⟩
   show PV.slice 3 [PV.int .u8 130,PV.int .u8 (IntKind.u8.wrap (ishr .i64 (n:Int) 8)),PV.int .u8 (IntKind.u8.wrap (n:Int))] (some 5)=PV.slice 3 [PV.int .u8 130,PV.int .u8 ((UInt8.ofNat (n / 256)).toNat:Int),PV.int .u8 ((UInt8.ofNat n).toNat:Int)] (some 5)
   rw [shr8,u8w,u8w]
theorem c100 (tag:UInt8) (p:List UInt8) (o:Option Nat) (hp:p.length≤1099511627000):Pure prog 100 [bC tag,slo p o] (slo (wrapB tag p) (some 5)):=by
 intro H
 have hl:=lenB_len p.length
 (refine fnS (imm:=imm100) ttL_ok func100 ?_;(conv=>whnf))
 refine cP (c147 p.length) ?_
 conv=>whnf
 refine ⟨⟨by show (1+(lenB p.length).length)*1≤_;omega,by simp,allOne _⟩,?_⟩
 conv=>whnf
 refine ⟨⟨by show (1+(lenB p.length).length+p.length)*1≤_;omega,by simp,allOne _⟩,?_⟩
 conv=>whnf
 refine ⟨?_,rfl⟩
 show PV.slice (1+(lenB p.length).length+p.length) ([bC tag]++(lenB p.length).map bC++p.map bC) (some 5)=PV.slice (wrapB tag p).length ((wrapB tag p).map bC) (some 5)
 have e1:(wrapB tag p).length=1+(lenB p.length).length+p.length:=by unfold wrapB;rw [List.length_cons,zqf];omega
 have e2:(wrapB tag p).map bC=[bC tag]++(lenB p.length).map bC++p.map bC:=by unfold wrapB;rw [List.map_cons,List.map_append];rfl
 rw [e1,e2]
theorem c67 (p:List UInt8) (o:Option Nat) (hp:p.length≤1099511627000):Pure prog 67 [slo p o] (slo (wrapB 4 p) (some 5)):=by
 intro H
 (refine fnS (imm:=imm67) ttL_ok func67 ?_;(conv=>whnf))
 refine cP (c100 4 p none hp) ?_
 conv=>whnf
 exact ⟨rfl,rfl⟩
theorem c111 (p:List UInt8) (hp:p.length≤1099511627000):Pure prog 111 [.str p] (slo (wrapB 27 p) (some 5)):=by
 intro H
 (refine fnS (imm:=imm111) ttL_ok func111 ?_;(conv=>whnf))
 refine ⟨by omega,?_⟩
 conv=>whnf
 refine cP (c100 27 p none hp) ?_
 conv=>whnf
 exact ⟨rfl,rfl⟩
structure RwS where
 i:Nat
theorem flat_len (ls:List (List UInt8)) (i:Nat):(ls.take i).flatten.length≤ls.flatten.length:=by
 conv=>rhs;rw [←List.take_append_drop i ls,List.flatten_append,zqf]
 omega
theorem c63 (tag:UInt8) (ls:List (List UInt8)) (hn:ls.length≤1099511627776) (ht:ls.flatten.length≤1099511627000):Pure prog 63 [bC tag,.slice ls.length (ls.map sl) none] (slo (wrapB tag ls.flatten) (some 5)):=by
 intro H
 (refine fnS (imm:=imm63) ttL_ok func63 ?_;(conv=>whnf))
 refine lO RwS (fun x=>[(0,bC tag),(1,.slice ls.length (ls.map sl) none),(6,.int .i64 x.i),(5,slo (ls.take x.i).flatten (some 5))]) (fun _=>H) (fun x=>x.i≤ls.length) (fun x=>ls.length - x.i)
  ⟨⟨0⟩,Nat.zero_le _,⟨rfl,rfl,rfl,rfl,zqv⟩,rfl⟩ ?_
 rintro ⟨i⟩ hi
 have hi:i≤ls.length:=hi
 conv=>whnf
 refine ⟨fun h=>?_,fun h=>?_⟩
 ·conv=>whnf
  have h:(i:Int)<(ls.length:Int):=h
  have hlt:i<ls.length:=by omega
  have hat:(ls.map sl)[(i:Int).toNat*1]? = some (sl ls[i]):=by
   rw [Int.toNat_natCast,Nat.mul_one,List.getElem?_map,zqc hlt];rfl
  refine ⟨⟨by show (0:Int)≤(i:Int);omega,h⟩,[sl ls[i]],at1 hat,?_⟩
  conv=>whnf
  have e1:=flat_take hlt
  have e2:=flat_len ls (i+1)
  rw [e1,zqf] at e2
  refine ⟨⟨by show ((ls.take i).flatten.length+ls[i].length)*1≤_;omega,by simp,allOne _⟩,?_⟩
  conv=>whnf
  refine ⟨⟨i+1⟩,hlt,⟨rfl,rfl,?_,?_,zqv⟩,rfl,by show ls.length - (i+1)<ls.length - i;omega⟩
  ·show PV.int _ (IntKind.i64.wrap ((i:Int)+1))=PV.int _ ((i+1:Nat):Int)
   rw [w64 (by omega) (by omega)];rfl
  ·show PV.slice ((ls.take i).flatten.length+ls[i].length) ((ls.take i).flatten.map bC++ls[i].map bC) (some 5)=slo (ls.take (i+1)).flatten (some 5)
   rw [e1];unfold slo;rw [zqf,List.map_append]
 ·conv=>whnf
  have h:¬(i:Int)<(ls.length:Int):=h
  have hi2:i=ls.length:=by omega
  subst hi2
  rw [List.take_length]
  refine cP (c100 tag ls.flatten none ht) ?_
  conv=>whnf
  exact ⟨rfl,rfl⟩
def digB (n:Nat):List UInt8:=if n=0 then [0] else (le 9 n).reverse
theorem digB_len (n:Nat):(digB n).length≤9:=by
 unfold digB
 split
 ·decide
 ·rw [List.length_reverse];exact le_len 9 n
theorem digB_intB (n : Nat) (x : UInt8) (t : List UInt8) (h : digB n = x :: t) : intB n = if 128 ≤ x.toNat then 0 :: x :: t else x :: t := by
  unfold digB at h
  unfold intB padB
  split at h
  · rename_i e
    subst e
    cases h
    rw [le_zero, zqp (.inl rfl), zqo (by decide)]; rfl
  · have hl : le 9 n = (x :: t).reverse := by rw [← h, List.reverse_reverse]
    have hg : ((x :: t).reverse.getLast?.getD 0) = x := by simp
    rw [hl, hg]
    by_cases hc : 128 ≤ x.toNat
    · rw [zqp (.inr hc), zqp hc, List.reverse_append, List.reverse_reverse]; rfl
    · rw [zqo (fun hh => by rcases hh with hh | hh; · simp at hh
                            · exact hc hh), zqo hc, List.reverse_reverse]
theorem digB_ne (n:Nat) (hn:n≤4611686018427387904):digB n≠[]:=by
 unfold digB
 split
 ·simp
 ·rename_i h0
  intro e
  have e:le 9 n=[]:=by rw [←List.reverse_reverse (le 9 n),e];rfl
  exact h0 (le_nil 9 n (by omega) e)
structure RiS where
 m:Nat
 p:List UInt8
theorem c65 (n:Int):Pure prog 65 [.int .i64 n] (slo (intE n) (some 5)):=by
 intro H
 (refine fnS (imm:=imm65) ttL_ok func65 ?_;(conv=>whnf))
 have hN:min (max n 0) 4611686018427387904=(clampI n:Int):=by unfold clampI;omega
 have hN2:clampI n≤4611686018427387904:=by unfold clampI;omega
 refine ⟨by decide,?_⟩
 conv=>whnf
 have hbw:∀m:Nat,PV.int .u8 (IntKind.u8.wrap (m:Int))=bC (UInt8.ofNat m):=fun m=>zqm (PV.int .u8) (u8w m)
 refine lO RiS (fun x=>[(0,.int .i64 x.m),(3,slo x.p (some 5))]) (fun _=>H)
  (fun x=>∃f,(le f x.m).reverse++x.p=digB (clampI n)∧x.m<256 ^ f∧x.m≤4611686018427387904) (fun x=>x.m)
  ⟨⟨clampI n / 256,[UInt8.ofNat (clampI n)]⟩,⟨8,?_,by show clampI n / 256<256 ^ 8;omega,by show clampI n / 256≤_;omega⟩,⟨?_,?_,zqv⟩,rfl⟩ ?_
 ·show (le 8 (clampI n / 256)).reverse++[UInt8.ofNat (clampI n)]=_
  unfold digB
  split
  ·rename_i e
   rw [e];rfl
  ·rename_i e
   have hle:le (8+1) (clampI n)=UInt8.ofNat (clampI n)::le 8 (clampI n / 256):=by
    conv=>lhs;unfold le
    rw [zqo e]
   show _=(le (8+1) (clampI n)).reverse
   rw [hle,List.reverse_cons]
 ·show PV.int .i64 (ishr .i64 (min (max n 0) 4611686018427387904) 8)=PV.int .i64 ((clampI n / 256:Nat):Int)
  rw [hN,shr8]
 ·show PV.slice 1 [PV.int .u8 (IntKind.u8.wrap (min (max n 0) 4611686018427387904))] (some 5)=slo [UInt8.ofNat (clampI n)] (some 5)
  rw [hN,hbw];rfl
 rintro ⟨m,p⟩ ⟨f,g1,g2,g3⟩
 have g1:(le f m).reverse++p=digB (clampI n):=g1
 have g2:m<256 ^ f:=g2
 have g3:m≤4611686018427387904:=g3
 have hp9:p.length≤9:=by
  have:=digB_len (clampI n)
  rw [←g1,zqf] at this
  omega
 conv=>whnf
 refine ⟨fun h=>?_,fun h=>?_⟩
 ·conv=>whnf
  have h:(m:Int) > 0:=h
  have hf:∃f',f=f'+1:=by
   cases f with
   | zero=>simp at g2;omega
   | succ f=>exact ⟨f,rfl⟩
  obtain ⟨f,rfl⟩:=hf
  have hle:le (f+1) m=UInt8.ofNat m::le f (m / 256):=by
   conv=>lhs;unfold le
   rw [zqo (by omega)]
  refine ⟨⟨by show (1+p.length)*1≤_;omega,by simp,allOne _⟩,?_⟩
  conv=>whnf
  refine ⟨by decide,?_⟩
  conv=>whnf
  refine ⟨⟨m / 256,UInt8.ofNat m::p⟩,⟨f,?_,?_,by show m / 256≤_;omega⟩,⟨?_,?_,zqv⟩,rfl,by show m / 256<m;omega⟩
  ·show (le f (m / 256)).reverse++(UInt8.ofNat m::p)=_
   rw [←g1,hle,List.reverse_cons,List.append_assoc];rfl
  ·show m / 256<256 ^ f
   rw [Nat.div_lt_iff_lt_mul (by omega),←Nat.pow_succ];exact g2
  ·show PV.int .i64 (ishr .i64 (m:Int) 8)=PV.int .i64 ((m / 256:Nat):Int)
   rw [shr8]
  ·show PV.slice (1+p.length) ([PV.int .u8 (IntKind.u8.wrap (m:Int))]++p.map bC) (some 5)=PV.slice (p.length+1) (bC (UInt8.ofNat m)::p.map bC) (some 5)
   rw [hbw,Nat.add_comm];rfl
 ·conv=>whnf
  have h:¬(m:Int) > 0:=h
  have hm:m=0:=by omega
  subst hm
  rw [le_zero] at g1
  have g1:p=digB (clampI n):=g1
  have hne:=digB_ne (clampI n) hN2
  rw [←g1] at hne
  have hib:=digB_intB (clampI n)
  cases p with
  | nil=>exact absurd rfl hne
  | cons x t =>
   have hib:=hib x t g1.symm
   refine ⟨⟨by decide,by first | (simp;done) | (simp;omega)⟩,[bC x],sl_get0 x t,?_⟩
   conv=>whnf
   refine ⟨fun h=>?_,fun h=>?_⟩
   ·conv=>whnf
    have h:(128:Int)≤(x.toNat:Int):=h
    rw [zqp (by omega)] at hib
    have hp9:t.length+1≤9:=hp9
    refine ⟨⟨by show (1+(t.length+1))*1≤_;omega,by simp,allOne (x::t)⟩,?_⟩
    conv=>whnf
    have hE:slo (0::x::t) (some 5)=PV.slice (1+(x::t).length) ([PV.int .u8 0]++(x::t).map bC) (some 5):=by
     unfold slo
     rw [Nat.add_comm];rfl
    refine cA (args':=[bC 2,slo (0::x::t) none]) (zqm (fun n=>[bC 2,PV.slice n ([PV.int .u8 0]++(x::t).map bC) none]) (Nat.add_comm 1 _)) (cP (c100 2 (0::x::t) none (by simp;omega)) ?_)
    conv=>whnf
    refine ⟨?_,rfl⟩
    unfold intE
    rw [hib];rfl
   ·conv=>whnf
    have h:¬(128:Int)≤(x.toNat:Int):=h
    rw [zqo (by omega)] at hib
    have hp9:t.length+1≤9:=hp9
    refine cP (c100 2 (x::t) none (by simp;omega)) ?_
    conv=>whnf
    refine ⟨?_,rfl⟩
    unfold intE
    rw [hib];rfl
theorem or8 (a b:Nat) (ha:a<36028797018963968) (hb:b<256):ibits .or .i64 ((a*256:Nat):Int) (b:Int)=((a*256+b:Nat):Int):=by
 show IntKind.i64.wrap ((BitVec.ofInt 64 ((a*256:Nat):Int) ||| BitVec.ofInt 64 (b:Int)).toNat:Int)=_
 have e1:(BitVec.ofInt 64 ((a*256:Nat):Int)).toNat=a*256:=by rw [BitVec.toNat_ofInt];omega
 have e2:(BitVec.ofInt 64 (b:Int)).toNat=b:=by rw [BitVec.toNat_ofInt];omega
 have e3:=Nat.two_pow_add_eq_or_of_lt (i:=8) (show b<2 ^ 8 by omega) a
 have e4:2 ^ 8*a=a*256:=by rw [Nat.mul_comm]
 rw [e4] at e3
 rw [BitVec.toNat_or,e1,e2,←e3,w64 (by omega) (by omega)]
def rcur (H:PH) (c:Nat) (s:Option (List UInt8)):Prop:=∃b v,H[c]? = some ⟨128,[sl b,.bool s.isNone],v⟩∧∀l,s=some l→b=l
theorem rcur.lt {H:PH} {c:Nat} {s:Option (List UInt8)} (h:rcur H c s):c<H.length:=by
 obtain ⟨b,v,h,_⟩:=h
 exact (zq1.1 h).1
theorem rcur.keep {X:Nat→Prop} {H H':PH} {c:Nat} {s:Option (List UInt8)} (h:rcur H c s) (k:Upd X H H') (hc:¬X c):rcur H' c s:=by
 have hl:=h.lt
 obtain ⟨b,v,h,h2⟩:=h
 exact ⟨b,v,(k.2 c hl hc).trans h,h2⟩
theorem rcur.set_ne {H:PH} {c j:Nat} {s:Option (List UInt8)} (h:rcur H c s) (hj:j≠c) (x:PObj):rcur (H.set j x) c s:=by
 obtain ⟨b,v,h1,h2⟩:=h
 exact ⟨b,v,by rw [zqj hj];exact h1,h2⟩
theorem head_lt (y:UInt8) (r:List UInt8) (h:y.toNat<128):headB (y::r)=(1,y.toNat,true):=by
 match r with
 | []=>rw [head_1,zqp h]
 | [z]=>rw [head_2,zqp h]
 | z::w::u=>rw [head_3,zqp h]
theorem head_81 (y z:UInt8) (r:List UInt8) (h:y.toNat=129):headB (y::z::r)=if 128≤z.toNat then (2,z.toNat,true) else (0,0,false):=by
 match r with
 | [] =>
  rw [head_2,zqo (by omega)]
  by_cases h2:128≤z.toNat
  ·rw [zqp ⟨h,h2⟩,zqp h2]
  ·rw [zqo (fun hh=>h2 hh.2),zqo h2]
 | w::u =>
  rw [head_3,zqo (by omega)]
  by_cases h2:128≤z.toNat
  ·rw [zqp ⟨h,h2⟩,zqp h2]
  ·rw [zqo (fun hh=>h2 hh.2),zqo h2,zqo (fun hh=>by omega)]
theorem head_82 (y z w:UInt8) (r:List UInt8) (h:y.toNat=130):headB (y::z::w::r)=if 0<z.toNat then (3,z.toNat*256+w.toNat,true) else (0,0,false):=by
 rw [head_3,zqo (by omega),zqo (fun hh=>by omega)]
 by_cases h2:0<z.toNat
 ·rw [zqp ⟨h,h2⟩,zqp h2]
 ·rw [zqo (fun hh=>h2 hh.2),zqo h2]
theorem head_bad (y:UInt8) (r:List UInt8) (h:128≤y.toNat) (h1:¬(y.toNat=129∧r≠[])) (h2:¬(y.toNat=130∧2≤r.length)):(headB (y::r)).2.2=false:=by
 match r with
 | []=>rw [head_1,zqo (by omega)]
 | [z]=>rw [head_2,zqo (by omega),zqo (fun hh=>h1 ⟨hh.1,by simp⟩)]
 | z::w::u=>rw [head_3,zqo (by omega),zqo (fun hh=>h1 ⟨hh.1,by simp⟩),zqo (fun hh=>h2 ⟨hh.1,by simp⟩)]
theorem elemC_ne {t tag:UInt8} {b:List UInt8} (h:¬t=tag):elemC tag (some (t::b))=(none,none):=by
 refine elemC_bad ?_
 show (if t=tag then _ else none)=none
 rw [zqo h]
theorem elemC_hd {t:UInt8} {b:List UInt8} {h1 n:Nat} {ok:Bool} (h:headB b=(h1,n,ok)) (hb:¬(ok=true∧h1+n≤b.length)):elemC t (some (t::b))=(none,none):=by
 refine elemC_bad ?_
 show (if t=t then (if (headB b).2.2=true∧(headB b).1+(headB b).2.1≤b.length then some ((b.drop (headB b).1).take (headB b).2.1,b.drop ((headB b).1+(headB b).2.1)) else none) else none)=none
 rw [zqp rfl,h]
 exact zqo hb
theorem elemC_hy {t:UInt8} {b:List UInt8} {h1 n:Nat} (h:headB b=(h1,n,true)) (hb:h1+n≤b.length):elemC t (some (t::b))=(some (b.drop (h1+n)),some ((b.drop h1).take n)):=by
 show (match elemB t (t::b) with | none=>(none,none) | some (x,r)=>(some r,some x))=_
 have e:elemB t (t::b)=some ((b.drop h1).take n,b.drop (h1+n)):=by
  show (if t=t then (if (headB b).2.2=true∧(headB b).1+(headB b).2.1≤b.length then some ((b.drop (headB b).1).take (headB b).2.1,b.drop ((headB b).1+(headB b).2.1)) else none) else none)=_
  rw [zqp rfl,h]
  exact zqp ⟨rfl,hb⟩
 rw [e]
theorem elemC_f {t:UInt8} {b:List UInt8} (h:(headB b).2.2=false):elemC t (some (t::b))=(none,none):=by
 refine elemC_bad ?_
 show (if t=t then (if (headB b).2.2=true∧(headB b).1+(headB b).2.1≤b.length then some ((b.drop (headB b).1).take (headB b).2.1,b.drop ((headB b).1+(headB b).2.1)) else none) else none)=none
 rw [zqp rfl]
 exact zqo (fun hh=>by rw [h] at hh;cases hh.1)
theorem lenB_1 {n:Nat} (h:n<128):(lenB n).length=1:=by unfold lenB;rw [zqp h];rfl
theorem lenB_2 {n:Nat} (h:128≤n) (h2:n<256):(lenB n).length=2:=by unfold lenB;rw [zqo (by omega),zqp (by omega)];rfl
theorem lenB_3 {n:Nat} (h:256≤n):(lenB n).length=3:=by unfold lenB;rw [zqo (by omega),zqo (by omega)];rfl
theorem c97 (c:Nat) (tag:UInt8) (s:Option (List UInt8)) (H:PH) (hc:rcur H c s) (hl:∀l,s=some l→l.length≤140737488355328) :
  CK prog 97 [.ptr (some (c,0)),bC tag] H fun r H'=>(∃o,r=slo ((elemC tag s).2.getD []) o)∧Upd (·=c) H H'∧rcur H' c (elemC tag s).1:=by
 obtain ⟨b,v,hc0,hx⟩:=id hc
 (refine fnS (imm:=imm97) ttL_ok func97 ?_;(conv=>whnf))
 ((conv in (_[_]?)=>tactic=>exact hc0);(conv=>whnf))
 have fin:∀(q:Option (List UInt8)×Option (List UInt8)),q=(none,none)→∀o',(∃o,PV.slice 0 [] o'=slo (q.2.getD []) o)∧Upd (·=c) H (H.set c ⟨128,[sl b,.bool true],v+1⟩)∧rcur (H.set c ⟨128,[sl b,.bool true],v+1⟩) c q.1:=fun q hq o'=>by
  subst hq
  exact ⟨⟨o',rfl⟩,((Upd.refl H).set (X:=(·=c)) (.inl rfl) _),b,v+1,gS hc0,fun l h=>by cases h⟩
 cases s with
 | none =>
  ((conv in (_[_]?)=>tactic=>exact hc0);(conv=>whnf))
  ((conv in (_[_]?)=>tactic=>exact hc0);(conv=>whnf))
  exact fin _ rfl _
 | some l =>
  have hb:=hx l rfl
  subst hb
  have hll:=hl b rfl
  ((conv in (_[_]?)=>tactic=>exact hc0);(conv=>whnf))
  match b,hc0,hll with
  | [],hc0,_ =>
   refine ⟨fun _=>?_,fun h=>absurd (by decide) h⟩
   conv=>whnf
   ((conv in (_[_]?)=>tactic=>exact hc0);(conv=>whnf))
   exact fin _ rfl _
  | [t],hc0,_ =>
   refine ⟨fun _=>?_,fun h=>absurd (by show ((1:Nat):Int)<2;decide) h⟩
   conv=>whnf
   ((conv in (_[_]?)=>tactic=>exact hc0);(conv=>whnf))
   refine fin _ ?_ _
   by_cases h:t=tag
   ·subst h;exact elemC_hd (h1:=0) (n:=0) (ok:=false) rfl (fun hh=>by cases hh.1)
   ·exact elemC_ne h
  | t::y::r,hc0,hll =>
   have hll:r.length+2≤140737488355328:=hll
   refine ⟨fun h=>absurd h (by simp;omega),fun _=>?_⟩
   conv=>whnf
   have i0:(0:Int)≤0∧(0:Int)<(((t::y::r).length:Nat):Int):=⟨by decide,by simp;omega⟩
   have i1:(0:Int)≤1∧(1:Int)<(((t::y::r).length:Nat):Int):=⟨by decide,by simp;omega⟩
   refine ⟨i0,[bC t],at1 (k:=0*1) rfl,?_⟩
   conv=>whnf
   refine ⟨fun ht=>?_,fun ht=>?_⟩
   rotate_left
   ·have ht:¬t=tag:=fun e=>ht (show (t.toNat:Int)=(tag.toNat:Int) by rw [e])
    conv=>whnf
    ((conv in (_[_]?)=>tactic=>exact hc0);(conv=>whnf))
    exact fin _ (elemC_ne ht) _
   have ht:t=tag:=by
    have ht:(t.toNat:Int)=(tag.toNat:Int):=ht
    exact UInt8.toNat_inj.1 (by omega)
   subst ht
   conv=>whnf
   refine ⟨i1,[bC y],at1 (k:=1*1) rfl,?_⟩
   conv=>whnf
   refine ⟨i1,[bC y],at1 (k:=1*1) rfl,?_⟩
   conv=>whnf
   refine ⟨fun h6=>?_,fun h6=>?_⟩
   ·have h6:(y.toNat:Int)=129:=h6
    conv=>whnf
    match r,hc0,hll,i0,i1 with
    | [],hc0,hll,i0,i1 =>
     refine ⟨fun h=>absurd h (by show ¬((2:Nat):Int) ≥ 3;decide),fun _=>?_⟩
     conv=>whnf
     refine ⟨i1,[bC y],at1 (k:=1*1) rfl,?_⟩
     conv=>whnf
     refine ⟨fun h=>absurd (show (y.toNat:Int)=130 from h) (by omega),fun _=>?_⟩
     conv=>whnf
     refine ⟨i1,[bC y],at1 (k:=1*1) rfl,?_⟩
     conv=>whnf
     refine ⟨fun _=>?_,fun h=>absurd (show (128:Int)≤(y.toNat:Int) by omega) h⟩
     conv=>whnf
     ((conv in (_[_]?)=>tactic=>exact hc0);(conv=>whnf))
     exact fin _ (elemC_f (head_bad y [] (by omega) (fun hh=>hh.2 rfl) (fun hh=>by omega))) _
    | z::r,hc0,hll,i0,i1 =>
     have i2:(0:Int)≤2∧(2:Int)<(((t::y::z::r).length:Nat):Int):=⟨by decide,by simp;omega⟩
     have hll:r.length+1+2≤140737488355328:=hll
     refine ⟨fun _=>?_,fun h=>absurd (show (((t::y::z::r).length:Nat):Int) ≥ 3 by simp;omega) h⟩
     conv=>whnf
     refine ⟨i2,[bC z],at1 (k:=2*1) rfl,?_⟩
     conv=>whnf
     have hz:=z.toNat_lt
     rw [show IntKind.i64.wrap (z.toNat:Int)=(z.toNat:Int) from wrapB1 z]
     have hd0:=head_81 y z r (by omega)
     have hL:(((t::y::z::r).length:Nat):Int)=(((y::z::r).length+1:Nat):Int):=rfl
     have hl2:2≤(y::z::r).length:=by simp <;> omega
     have hl3:(y::z::r).length≤140737488355327:=by simp <;> omega
     have hnw:IntKind.i64.wrap ((((t::y::z::r).length:Nat):Int) - 3)=(((t::y::z::r).length:Nat):Int) - 3:=by rw [w64 (by omega) (by omega)]
     have hn:z.toNat≤65535:=by omega
     refine ⟨fun hg=>?_,fun hg=>?_⟩
     ·have hg:((z.toNat:Nat):Int) > IntKind.i64.wrap ((((t::y::z::r).length:Nat):Int) - 3):=hg
      rw [hnw,hL] at hg
      conv=>whnf
      ((conv in (_[_]?)=>tactic=>exact hc0);(conv=>whnf))
      by_cases hz8:128≤z.toNat
      ·exact fin _ (elemC_hd (hd0.trans (zqp hz8)) (fun hh=>by have:=hh.2;omega)) _
      ·exact fin _ (elemC_f (by rw [hd0,zqo hz8])) _
     have hg:¬((z.toNat:Nat):Int) > IntKind.i64.wrap ((((t::y::z::r).length:Nat):Int) - 3):=hg
     rw [hnw,hL] at hg
     conv=>whnf
     refine cP (c147 (z.toNat)) ?_
     conv=>whnf
     have ew:IntKind.i64.wrap (3 - 1)=2:=by decide
     refine ⟨fun hs=>?_,fun hs=>?_⟩
     rotate_left
     ·have hs:¬(((lenB (z.toNat)).length:Nat):Int)=IntKind.i64.wrap (3 - 1):=hs
      rw [ew] at hs
      conv=>whnf
      ((conv in (_[_]?)=>tactic=>exact hc0);(conv=>whnf))
      have hz8:¬128≤z.toNat:=fun h8=>hs (by rw [lenB_2 h8 hz];rfl)
      exact fin _ (elemC_f (by rw [hd0,zqo hz8])) _
     have hs:(((lenB (z.toNat)).length:Nat):Int)=IntKind.i64.wrap (3 - 1):=hs
     rw [ew] at hs
     have hz8:128≤z.toNat:=Nat.le_of_not_lt fun h8=>by rw [lenB_1 h8] at hs;exact absurd hs (by decide)
     conv=>whnf
     have haw:IntKind.i64.wrap (3+((z.toNat:Nat):Int))=((3+(z.toNat):Nat):Int):=by rw [w64 (by omega) (by omega)];omega
     have hfit:2+(z.toNat)≤(y::z::r).length:=by omega
     refine ⟨⟨by show (0:Int)≤IntKind.i64.wrap (3+((z.toNat:Nat):Int));rw [haw];omega,by show IntKind.i64.wrap (3+((z.toNat:Nat):Int))≤(((t::y::z::r).length:Nat):Int);rw [haw];omega,by show (((t::y::z::r).length:Nat):Int)≤(((t::y::z::r).length:Nat):Int);omega⟩,?_⟩
     conv=>whnf
     ((conv in (_[_]?)=>tactic=>exact hc0);(conv=>whnf))
     refine ⟨⟨by decide,by show (3:Int)≤IntKind.i64.wrap (3+((z.toNat:Nat):Int));rw [haw];omega,by show IntKind.i64.wrap (3+((z.toNat:Nat):Int))≤(((t::y::z::r).length:Nat):Int);rw [haw];omega⟩,?_⟩
     conv=>whnf
     have e1:=sl_cut (t::y::z::r) 3 (IntKind.i64.wrap (3+((z.toNat:Nat):Int))) ⟨by decide,by rw [haw];omega,by rw [haw];omega⟩
     have e2:=sl_cut (t::y::z::r) (IntKind.i64.wrap (3+((z.toNat:Nat):Int))) (((t::y::z::r).length:Nat):Int) ⟨by rw [haw];omega,by rw [haw];omega,by omega⟩
     have f1:((t::y::z::r).take (IntKind.i64.wrap (3+((z.toNat:Nat):Int))).toNat).drop (3:Int).toNat=((y::z::r).drop 2).take (z.toNat):=by
      rw [haw,Int.toNat_natCast,List.drop_take]
      show ((t::y::z::r).drop 3).take (3+(z.toNat) - 3)=_
      rw [show 3+(z.toNat) - 3=z.toNat by omega];rfl
     have f2:((t::y::z::r).take (((t::y::z::r).length:Nat):Int).toNat).drop (IntKind.i64.wrap (3+((z.toNat:Nat):Int))).toNat=(y::z::r).drop (2+(z.toNat)):=by
      rw [haw,Int.toNat_natCast,Int.toNat_natCast,List.take_length,show 3+(z.toNat)=(2+(z.toNat))+1 by omega];rfl
     have hel:=elemC_hy (t:=t) (hd0.trans (zqp hz8)) hfit
     rw [hel]
     exact ⟨⟨none,e1.trans (by rw [f1];rfl)⟩,((Upd.refl H).set (X:=(·=c)) (.inl rfl) _),_,v+1,(gS hc0).trans (zqm (fun x=>some (PObj.mk 128 [x,.bool false] (v+1))) (e2.trans (by rw [f2]))),fun l h=>Option.some.inj h⟩
   have h6:¬(y.toNat:Int)=129:=h6
   conv=>whnf
   refine ⟨i1,[bC y],at1 (k:=1*1) rfl,?_⟩
   conv=>whnf
   refine ⟨fun h8=>?_,fun h8=>?_⟩
   ·have h8:(y.toNat:Int)=130:=h8
    conv=>whnf
    match r,hc0,hll,i0,i1 with
    | [],hc0,hll,i0,i1 =>
     refine ⟨fun h=>absurd h (by show ¬((2:Nat):Int) ≥ 4;decide),fun _=>?_⟩
     conv=>whnf
     refine ⟨i1,[bC y],at1 (k:=1*1) rfl,?_⟩
     conv=>whnf
     refine ⟨fun _=>?_,fun h=>absurd (show (128:Int)≤(y.toNat:Int) by omega) h⟩
     conv=>whnf
     ((conv in (_[_]?)=>tactic=>exact hc0);(conv=>whnf))
     exact fin _ (elemC_f (head_bad y [] (by omega) (fun hh=>by omega) (fun hh=>absurd hh.2 (by decide)))) _
    | [z],hc0,hll,i0,i1 =>
     refine ⟨fun h=>absurd h (by show ¬((3:Nat):Int) ≥ 4;decide),fun _=>?_⟩
     conv=>whnf
     refine ⟨i1,[bC y],at1 (k:=1*1) rfl,?_⟩
     conv=>whnf
     refine ⟨fun _=>?_,fun h=>absurd (show (128:Int)≤(y.toNat:Int) by omega) h⟩
     conv=>whnf
     ((conv in (_[_]?)=>tactic=>exact hc0);(conv=>whnf))
     exact fin _ (elemC_f (head_bad y [z] (by omega) (fun hh=>by omega) (fun hh=>absurd hh.2 (by show ¬2≤1;decide)))) _
    | z::w::r,hc0,hll,i0,i1 =>
     have i2:(0:Int)≤2∧(2:Int)<(((t::y::z::w::r).length:Nat):Int):=⟨by decide,by simp;omega⟩
     have i3:(0:Int)≤3∧(3:Int)<(((t::y::z::w::r).length:Nat):Int):=⟨by decide,by simp;omega⟩
     have hll:r.length+1+1+2≤140737488355328:=hll
     have hz:=z.toNat_lt
     have hw:=w.toNat_lt
     refine ⟨fun _=>?_,fun h=>absurd (show (((t::y::z::w::r).length:Nat):Int) ≥ 4 by simp;omega) h⟩
     conv=>whnf
     refine dP2 (by kernel_rfl) ?_
     conv=>whnf
     (refine dS ?_;(conv=>whnf))
     refine ⟨.elem [bC z],⟨i2,[bC z],at1 (k:=2*1) rfl,rfl,rfl,zqv⟩,?_⟩
     conv=>whnf
     iterate 2 (refine dS ?_;(conv=>whnf))
     refine ⟨_,⟨by decide,rfl,rfl,zqv⟩,?_⟩
     conv=>whnf
     (refine dS ?_;(conv=>whnf))
     refine ⟨.elem [bC w],⟨i3,[bC w],at1 (k:=3*1) rfl,rfl,rfl,zqv⟩,?_⟩
     conv=>whnf
     iterate 5 (refine dS ?_;(conv=>whnf))
     have hor:ibits .or .i64 (ishl .i64 (IntKind.i64.wrap (z.toNat:Int)) 8) (IntKind.i64.wrap (w.toNat:Int))=(((z.toNat*256+w.toNat):Nat):Int):=by
      rw [ishl8,wrapB1,wrapB1,w64 (by omega) (by omega)]
      exact or8 z.toNat w.toNat (by omega) hw
     rw [hor]
     have hd0:=head_82 y z w r (by omega)
     have hL:(((t::y::z::w::r).length:Nat):Int)=(((y::z::w::r).length+1:Nat):Int):=rfl
     have hl2:3≤(y::z::w::r).length:=by simp <;> omega
     have hl3:(y::z::w::r).length≤140737488355327:=by simp <;> omega
     have hnw:IntKind.i64.wrap ((((t::y::z::w::r).length:Nat):Int) - 4)=(((t::y::z::w::r).length:Nat):Int) - 4:=by rw [w64 (by omega) (by omega)]
     have hn:(z.toNat*256+w.toNat)≤65535:=by omega
     refine ⟨fun hg=>?_,fun hg=>?_⟩
     ·have hg:(((z.toNat*256+w.toNat):Nat):Int) > IntKind.i64.wrap ((((t::y::z::w::r).length:Nat):Int) - 4):=hg
      rw [hnw,hL] at hg
      conv=>whnf
      ((conv in (_[_]?)=>tactic=>exact hc0);(conv=>whnf))
      by_cases hz8:0<z.toNat
      ·exact fin _ (elemC_hd (hd0.trans (zqp hz8)) (fun hh=>by have:=hh.2;omega)) _
      ·exact fin _ (elemC_f (by rw [hd0,zqo hz8])) _
     have hg:¬(((z.toNat*256+w.toNat):Nat):Int) > IntKind.i64.wrap ((((t::y::z::w::r).length:Nat):Int) - 4):=hg
     rw [hnw,hL] at hg
     conv=>whnf
     refine cP (c147 ((z.toNat*256+w.toNat))) ?_
     conv=>whnf
     have ew:IntKind.i64.wrap (4 - 1)=3:=by decide
     refine ⟨fun hs=>?_,fun hs=>?_⟩
     rotate_left
     ·have hs:¬(((lenB ((z.toNat*256+w.toNat))).length:Nat):Int)=IntKind.i64.wrap (4 - 1):=hs
      rw [ew] at hs
      conv=>whnf
      ((conv in (_[_]?)=>tactic=>exact hc0);(conv=>whnf))
      have hz8:¬0<z.toNat:=fun h8=>hs (by rw [lenB_3 (by omega)];rfl)
      exact fin _ (elemC_f (by rw [hd0,zqo hz8])) _
     have hs:(((lenB ((z.toNat*256+w.toNat))).length:Nat):Int)=IntKind.i64.wrap (4 - 1):=hs
     rw [ew] at hs
     have hz8:0<z.toNat:=Nat.pos_of_ne_zero fun h0=>by
      have h9:(lenB (z.toNat*256+w.toNat)).length≤2:=by
       by_cases h7:w.toNat<128
       ·rw [lenB_1 (by omega)];decide
       ·rw [lenB_2 (by omega) (by omega)];decide
      omega
     conv=>whnf
     have haw:IntKind.i64.wrap (4+(((z.toNat*256+w.toNat):Nat):Int))=((4+((z.toNat*256+w.toNat)):Nat):Int):=by rw [w64 (by omega) (by omega)];omega
     have hfit:3+((z.toNat*256+w.toNat))≤(y::z::w::r).length:=by omega
     refine ⟨⟨by show (0:Int)≤IntKind.i64.wrap (4+(((z.toNat*256+w.toNat):Nat):Int));rw [haw];omega,by show IntKind.i64.wrap (4+(((z.toNat*256+w.toNat):Nat):Int))≤(((t::y::z::w::r).length:Nat):Int);rw [haw];omega,by show (((t::y::z::w::r).length:Nat):Int)≤(((t::y::z::w::r).length:Nat):Int);omega⟩,?_⟩
     conv=>whnf
     ((conv in (_[_]?)=>tactic=>exact hc0);(conv=>whnf))
     refine ⟨⟨by decide,by show (4:Int)≤IntKind.i64.wrap (4+(((z.toNat*256+w.toNat):Nat):Int));rw [haw];omega,by show IntKind.i64.wrap (4+(((z.toNat*256+w.toNat):Nat):Int))≤(((t::y::z::w::r).length:Nat):Int);rw [haw];omega⟩,?_⟩
     conv=>whnf
     have e1:=sl_cut (t::y::z::w::r) 4 (IntKind.i64.wrap (4+(((z.toNat*256+w.toNat):Nat):Int))) ⟨by decide,by rw [haw];omega,by rw [haw];omega⟩
     have e2:=sl_cut (t::y::z::w::r) (IntKind.i64.wrap (4+(((z.toNat*256+w.toNat):Nat):Int))) (((t::y::z::w::r).length:Nat):Int) ⟨by rw [haw];omega,by rw [haw];omega,by omega⟩
     have f1:((t::y::z::w::r).take (IntKind.i64.wrap (4+(((z.toNat*256+w.toNat):Nat):Int))).toNat).drop (4:Int).toNat=((y::z::w::r).drop 3).take ((z.toNat*256+w.toNat)):=by
      rw [haw,Int.toNat_natCast,List.drop_take]
      show ((t::y::z::w::r).drop 4).take (4+((z.toNat*256+w.toNat)) - 4)=_
      rw [show 4+((z.toNat*256+w.toNat)) - 4=(z.toNat*256+w.toNat) by omega];rfl
     have f2:((t::y::z::w::r).take (((t::y::z::w::r).length:Nat):Int).toNat).drop (IntKind.i64.wrap (4+(((z.toNat*256+w.toNat):Nat):Int))).toNat=(y::z::w::r).drop (3+((z.toNat*256+w.toNat))):=by
      rw [haw,Int.toNat_natCast,Int.toNat_natCast,List.take_length,show 4+((z.toNat*256+w.toNat))=(3+((z.toNat*256+w.toNat)))+1 by omega];rfl
     have hel:=elemC_hy (t:=t) (hd0.trans (zqp hz8)) hfit
     rw [hel]
     exact ⟨⟨none,e1.trans (by rw [f1];rfl)⟩,((Upd.refl H).set (X:=(·=c)) (.inl rfl) _),_,v+1,(gS hc0).trans (zqm (fun x=>some (PObj.mk 128 [x,.bool false] (v+1))) (e2.trans (by rw [f2]))),fun l h=>Option.some.inj h⟩
   have h8:¬(y.toNat:Int)=130:=h8
   conv=>whnf
   refine ⟨i1,[bC y],at1 (k:=1*1) rfl,?_⟩
   conv=>whnf
   refine ⟨fun h9=>?_,fun h9=>?_⟩
   ·have h9:(128:Int)≤(y.toNat:Int):=h9
    conv=>whnf
    ((conv in (_[_]?)=>tactic=>exact hc0);(conv=>whnf))
    exact fin _ (elemC_f (head_bad y r (by omega) (fun hh=>by omega) (fun hh=>by omega))) _
   have h9:¬(128:Int)≤(y.toNat:Int):=h9
   conv=>whnf
   have hy:=y.toNat_lt
   rw [show IntKind.i64.wrap (y.toNat:Int)=(y.toNat:Int) from wrapB1 y]
   have hd0:=head_lt y r (by omega)
   have hL:(((t::y::r).length:Nat):Int)=(((y::r).length+1:Nat):Int):=rfl
   have hl2:1≤(y::r).length:=by simp <;> omega
   have hl3:(y::r).length≤140737488355327:=by simp <;> omega
   have hnw:IntKind.i64.wrap ((((t::y::r).length:Nat):Int) - 2)=(((t::y::r).length:Nat):Int) - 2:=by rw [w64 (by omega) (by omega)]
   have hn:y.toNat≤65535:=by omega
   refine ⟨fun hg=>?_,fun hg=>?_⟩
   ·have hg:((y.toNat:Nat):Int) > IntKind.i64.wrap ((((t::y::r).length:Nat):Int) - 2):=hg
    rw [hnw,hL] at hg
    conv=>whnf
    ((conv in (_[_]?)=>tactic=>exact hc0);(conv=>whnf))
    exact fin _ (elemC_hd (hd0) (fun hh=>by have:=hh.2;omega)) _
   have hg:¬((y.toNat:Nat):Int) > IntKind.i64.wrap ((((t::y::r).length:Nat):Int) - 2):=hg
   rw [hnw,hL] at hg
   conv=>whnf
   refine cP (c147 (y.toNat)) ?_
   conv=>whnf
   have ew:IntKind.i64.wrap (2 - 1)=1:=by decide
   refine ⟨fun hs=>?_,fun hs=>?_⟩
   rotate_left
   ·have hs:¬(((lenB (y.toNat)).length:Nat):Int)=IntKind.i64.wrap (2 - 1):=hs
    rw [ew] at hs
    conv=>whnf
    ((conv in (_[_]?)=>tactic=>exact hc0);(conv=>whnf))
    exact absurd (by rw [lenB_1 (by omega)];rfl) hs
   have hs:(((lenB (y.toNat)).length:Nat):Int)=IntKind.i64.wrap (2 - 1):=hs
   rw [ew] at hs
   skip
   conv=>whnf
   have haw:IntKind.i64.wrap (2+((y.toNat:Nat):Int))=((2+(y.toNat):Nat):Int):=by rw [w64 (by omega) (by omega)];omega
   have hfit:1+(y.toNat)≤(y::r).length:=by omega
   refine ⟨⟨by show (0:Int)≤IntKind.i64.wrap (2+((y.toNat:Nat):Int));rw [haw];omega,by show IntKind.i64.wrap (2+((y.toNat:Nat):Int))≤(((t::y::r).length:Nat):Int);rw [haw];omega,by show (((t::y::r).length:Nat):Int)≤(((t::y::r).length:Nat):Int);omega⟩,?_⟩
   conv=>whnf
   ((conv in (_[_]?)=>tactic=>exact hc0);(conv=>whnf))
   refine ⟨⟨by decide,by show (2:Int)≤IntKind.i64.wrap (2+((y.toNat:Nat):Int));rw [haw];omega,by show IntKind.i64.wrap (2+((y.toNat:Nat):Int))≤(((t::y::r).length:Nat):Int);rw [haw];omega⟩,?_⟩
   conv=>whnf
   have e1:=sl_cut (t::y::r) 2 (IntKind.i64.wrap (2+((y.toNat:Nat):Int))) ⟨by decide,by rw [haw];omega,by rw [haw];omega⟩
   have e2:=sl_cut (t::y::r) (IntKind.i64.wrap (2+((y.toNat:Nat):Int))) (((t::y::r).length:Nat):Int) ⟨by rw [haw];omega,by rw [haw];omega,by omega⟩
   have f1:((t::y::r).take (IntKind.i64.wrap (2+((y.toNat:Nat):Int))).toNat).drop (2:Int).toNat=((y::r).drop 1).take (y.toNat):=by
    rw [haw,Int.toNat_natCast,List.drop_take]
    show ((t::y::r).drop 2).take (2+(y.toNat) - 2)=_
    rw [show 2+(y.toNat) - 2=y.toNat by omega];rfl
   have f2:((t::y::r).take (((t::y::r).length:Nat):Int).toNat).drop (IntKind.i64.wrap (2+((y.toNat:Nat):Int))).toNat=(y::r).drop (1+(y.toNat)):=by
    rw [haw,Int.toNat_natCast,Int.toNat_natCast,List.take_length,show 2+(y.toNat)=(1+(y.toNat))+1 by omega];rfl
   have hel:=elemC_hy (t:=t) (hd0) hfit
   rw [hel]
   exact ⟨⟨none,e1.trans (by rw [f1];rfl)⟩,((Upd.refl H).set (X:=(·=c)) (.inl rfl) _),_,v+1,(gS hc0).trans (zqm (fun x=>some (PObj.mk 128 [x,.bool false] (v+1))) (e2.trans (by rw [f2]))),fun l h=>Option.some.inj h⟩
theorem elemC_both (tag:UInt8) (s:Option (List UInt8)):(elemC tag s).1.isNone=(elemC tag s).2.isNone:=by
 cases s with
 | none=>rfl
 | some l =>
  have e:elemC tag (some l)=(match elemB tag l with | none=>(none,none) | some (x,r)=>(some r,some x)):=rfl
  rw [e]
  cases elemB tag l with
  | none=>rfl
  | some p=>rfl
theorem c97s (c:Nat) (tag:UInt8) (s:Option (List UInt8)) (H:PH) (hc:rcur H c s) (hl:∀l,s=some l→l.length≤140737488355328) :
  CK prog 97 [.ptr (some (c,0)),bC tag] H fun r H'=>r=sl ((elemC tag s).2.getD [])∧Upd (·=c) H H'∧rcur H' c (elemC tag s).1 :=
 (c97 c tag s H hc hl).dem fun r H' ⟨⟨o,e⟩,h⟩=>by subst e;exact ⟨(fun cs e=>by cases e),rfl,h⟩
theorem c57 (c:Nat) (s:Option (List UInt8)) (H:PH) (hc:rcur H c s) (hl:∀l,s=some l→l.length≤140737488355328) :
  CK prog 57 [.ptr (some (c,0))] H fun r H'=>r=sl (octC s).2∧Upd (·=c) H H'∧rcur H' c (octC s).1:=by
 (refine fnS (imm:=imm57) ttL_ok func57 ?_;(conv=>whnf))
 refine cO (c97s c 4 s H hc hl) ?_
 rintro _ H1 ⟨rfl,h1,h2⟩
 conv=>whnf
 exact ⟨rfl,h1,h2⟩
theorem c98 (c:Nat) (s:Option (List UInt8)) (H:PH) (hc:rcur H c s) (hl:∀l,s=some l→l.length≤140737488355328) :
  CK prog 98 [.ptr (some (c,0))] H fun r H'=>r=.str (txtC s).2∧Upd (·=c) H H'∧rcur H' c (txtC s).1:=by
 (refine fnS (imm:=imm98) ttL_ok func98 ?_;(conv=>whnf))
 refine cO (c97s c 27 s H hc hl) ?_
 rintro _ H1 ⟨rfl,h1,h2⟩
 conv=>whnf
 refine ⟨_,⟨rfl,rfl⟩,?_⟩
 conv=>whnf
 exact ⟨rfl,h1,h2⟩
theorem c53 (c:Nat) (tag:UInt8) (s:Option (List UInt8)) (H:PH) (hc:rcur H c s) (hl:∀l,s=some l→l.length≤140737488355328) :
  CK prog 53 [.ptr (some (c,0)),bC tag] H fun r H'=>∃d,r=.ptr (some (d,0))∧H.length≤d∧Upd (·=c) H H'∧rcur H' c (elemC tag s).1∧rcur H' d (elemC tag s).2:=by
 (refine fnS (imm:=imm53) ttL_ok func53 ?_;(conv=>whnf))
 refine cO (c97s c tag s H hc hl) ?_
 rintro _ H1 ⟨rfl,h1,h2⟩
 obtain ⟨b,v,hb,_⟩:=id h2
 conv=>whnf
 ((conv in (_[_]?)=>tactic=>exact hb);(conv=>whnf))
 refine ⟨H1.length,rfl,h1.1,h1.push _,h2.keep (X:=fun _=>False) ((Upd.refl H1).push _) (fun f=>f),(elemC tag s).2.getD [],0,?_,fun l hl=>by rw [hl];rfl⟩
 rw [←elemC_both]
 exact gL _ _
def wholeB:Option (List UInt8)→Bool
 | some []=>true
 | _=>false
theorem c99 (c:Nat) (s:Option (List UInt8)) (H:PH) (hc:rcur H c s):CK prog 99 [.ptr (some (c,0))] H fun r H'=>r=.bool (wholeB s)∧H'=H:=by
 obtain ⟨b,v,hb,hx⟩:=hc
 (refine fnS (imm:=imm99) ttL_ok func99 ?_;(conv=>whnf))
 ((conv in (_[_]?)=>tactic=>exact hb);(conv=>whnf))
 cases s with
 | none =>
  conv=>whnf
  exact ⟨rfl,rfl⟩
 | some l =>
  have:=hx l rfl
  subst this
  conv=>whnf
  ((conv in (_[_]?)=>tactic=>exact hb);(conv=>whnf))
  cases b with
  | nil =>
   refine ⟨fun _=>?_,fun h=>absurd rfl h⟩
   conv=>whnf
   exact ⟨rfl,rfl⟩
  | cons x t =>
   refine ⟨fun h=>absurd h (by simp <;> omega),fun _=>?_⟩
   conv=>whnf
   exact ⟨rfl,rfl⟩
def stepR (n:Int) (x:UInt8):Int:=ibits .or .i64 (ishl .i64 n 8) (IntKind.i64.wrap (x.toNat:Int))
def numR (l:List UInt8):Int:=l.foldl stepR 0
def okR (p:List UInt8):Bool:=decide (p≠[])&&(decide (p.length≤9)&&(decide (0≤numR p)&&(decide (numR p≤4611686018427387904)&&decide (intE (numR p)=wrapB 2 p))))
def rintR (s':Option (List UInt8)):Option (List UInt8)→Option (List UInt8)×Int
 | none=>(none,0)
 | some p=>if okR p=true then (s',numR p) else (none,0)
def rintC (s:Option (List UInt8)):Option (List UInt8)×Int:=rintR (elemC 2 s).1 (elemC 2 s).2
theorem numR_fold:∀(l:List UInt8) (a:Nat),l.foldl stepV a≤4611686018427387904→l.foldl stepR (a:Int)=((l.foldl stepV a:Nat):Int)
 | [],a,_=>rfl
 | x::l,a,h=>by
  have h:l.foldl stepV (stepV a x)≤4611686018427387904:=h
  have h1:=fold_ge l (stepV a x)
  have h2:stepV a x=a*256+x.toNat:=rfl
  have hx:=x.toNat_lt
  show l.foldl stepR (stepR (a:Int) x)=((l.foldl stepV (stepV a x):Nat):Int)
  rw [←numR_fold l (stepV a x) h]
  congr 1
  unfold stepR
  rw [ishl8,wrapB1,w64 (by omega) (by omega),show (a:Int)*256=((a*256:Nat):Int) by omega,or8 a x.toNat (by omega) hx,h2]
theorem rintC_wrap (n:Int) (h0:0≤n) (h1:n≤4611686018427387904) (rest:List UInt8):rintC (some (intE n++rest))=(some rest,n):=by
 have hc:clampI n=n.toNat:=by unfold clampI;omega
 obtain ⟨k1,k2,k3⟩:=intB_ok n.toNat (by omega)
 have hw:numR (intB n.toNat)=n:=by
  show (intB n.toNat).foldl stepR ((0:Nat):Int)=n
  have e:(intB n.toNat).foldl stepV 0=n.toNat:=k2
  rw [numR_fold _ 0 (by rw [e];omega),e];omega
 have hok:okR (intB n.toNat)=true:=by
  have hne:intB n.toNat≠[]:=fun e=>by rw [e] at k1;cases k1
  unfold okR
  rw [hw,zqe hne,zqe (show (intB n.toNat).length≤9 by omega),zqe h0,zqe h1]
  unfold intE
  rw [hc,zqe rfl];rfl
 have e:elemC 2 (some (intE n++rest))=(some rest,some (intB n.toNat)):=by
  unfold intE
  rw [hc]
  exact elemC_wrap 2 _ rest (by omega)
 unfold rintC
 rw [e]
 show (if okR (intB n.toNat)=true then (some rest,numR (intB n.toNat)) else (none,0))=_
 rw [zqp hok,hw]
theorem c55 (c:Nat) (s:Option (List UInt8)) (H:PH) (hc:rcur H c s) (hl:∀l,s=some l→l.length≤140737488355328) :
  CK prog 55 [.ptr (some (c,0))] H fun r H'=>r=.int .i64 (rintC s).2∧Upd (·=c) H H'∧rcur H' c (rintC s).1:=by
 (refine fnS (imm:=imm55) ttL_ok func55 ?_;(conv=>whnf))
 refine cO (c97s c 2 s H hc hl) ?_
 rintro _ H1 ⟨rfl,h1,h2⟩
 obtain ⟨b,v,hb,hx⟩:=id h2
 unfold rintC
 have hbo:=elemC_both 2 s
 have hl2:=(elemC_len (tag:=2) hl).2
 revert h2 hb hx hbo hl2
 generalize elemC 2 s=q
 obtain ⟨s',p⟩:=q
 intro h2 hb hx hbo hl2
 have fin:∀q:Option (List UInt8)×Int,q=(none,0)→PV.int .i64 0=PV.int .i64 q.2∧Upd (·=c) H (H1.set c ⟨128,[sl b,.bool true],v+1⟩)∧rcur (H1.set c ⟨128,[sl b,.bool true],v+1⟩) c q.1:=fun q hq=>by
  subst hq
  exact ⟨rfl,h1.set (.inl rfl) _,b,v+1,gS hb,fun l h=>by cases h⟩
 conv=>whnf
 ((conv in (_[_]?)=>tactic=>exact hb);(conv=>whnf))
 cases p with
 | none =>
  cases s' with
  | some _=>cases hbo
  | none =>
   conv=>whnf
   ((conv in (_[_]?)=>tactic=>exact hb);(conv=>whnf))
   exact fin _ rfl
 | some p =>
  cases s' with
  | none=>cases hbo
  | some s' =>
   have hp:=(hl2 p rfl).2
   have hno:okR p=false→rintR (some s') (some p)=(none,0):=fun h=>zqo (by rw [h];decide)
   have hpl:(PV.int .i64 (((some p).getD []:List UInt8).length:Int))=.int .i64 (p.length:Int):=rfl
   conv=>whnf
   refine ⟨fun h=>?_,fun h=>?_⟩
   ·conv=>whnf
    ((conv in (_[_]?)=>tactic=>exact hb);(conv=>whnf))
    have h:(p.length:Int)=0:=h
    have e:p=[]:=List.length_eq_zero_iff.1 (by omega)
    exact fin _ (hno (by rw [e];rfl))
   have h:¬(p.length:Int)=0:=h
   have hne:p≠[]:=fun e=>h (by rw [e];rfl)
   conv=>whnf
   refine ⟨fun h9=>?_,fun h9=>?_⟩
   ·have h9:(p.length:Int) > 9:=h9
    conv=>whnf
    ((conv in (_[_]?)=>tactic=>exact hb);(conv=>whnf))
    exact fin _ (hno (by unfold okR;rw [zqd (show ¬p.length≤9 by omega),zq4,zq3]))
   have h9:¬(p.length:Int) > 9:=h9
   conv=>whnf
   refine lO RwS (fun x=>[(0,.ptr (some (c,0))),(3,sl p),(5,.int .i64 x.i),(4,.int .i64 (numR (p.take x.i)))]) (fun _=>H1) (fun x=>x.i≤p.length) (fun x=>p.length - x.i)
    ⟨⟨0⟩,Nat.zero_le _,⟨rfl,rfl,rfl,rfl,zqv⟩,rfl⟩ ?_
   rintro ⟨i⟩ hi
   have hi:i≤p.length:=hi
   conv=>whnf
   refine ⟨fun h5=>?_,fun h5=>?_⟩
   ·conv=>whnf
    have h5:(i:Int)<(p.length:Int):=h5
    have hlt:i<p.length:=by omega
    refine ⟨by decide,?_⟩
    conv=>whnf
    refine ⟨⟨by show (0:Int)≤(i:Int);omega,h5⟩,[bC p[i]],at1 ?_,?_⟩
    ·show (p.map bC)[(i:Int).toNat*1]? = _
     rw [Int.toNat_natCast,Nat.mul_one,List.getElem?_map,zqc hlt];rfl
    conv=>whnf
    refine ⟨⟨i+1⟩,hlt,⟨rfl,rfl,?_,?_,zqv⟩,rfl,by show p.length - (i+1)<p.length - i;omega⟩
    ·show PV.int _ (IntKind.i64.wrap ((i:Int)+1))=PV.int _ ((i+1:Nat):Int)
     rw [w64 (by omega) (by omega)];rfl
    ·rw [List.take_succ_eq_append_getElem hlt]
     unfold numR
     rw [List.foldl_append]
     rfl
   ·conv=>whnf
    have h5:¬(i:Int)<(p.length:Int):=h5
    rw [List.take_of_length_le (l:=p) (by omega)]
    refine dP2 (by kernel_rfl) ?_
    conv=>whnf
    (refine dS ?_;(conv=>whnf))
    by_cases n0:numR p<0
    ·refine ⟨.bool true,?_,?_⟩
     ·conv=>whnf
      exact ⟨fun _=>⟨rfl,rfl,zqv⟩,fun h=>(h n0).elim⟩
     conv=>whnf
     iterate 13 (refine dS ?_;(conv=>whnf))
     ((conv in (_[_]?)=>tactic=>exact hb);(conv=>whnf))
     exact fin _ (hno (by unfold okR;rw [zqd (show ¬0≤numR p by omega),zq4,zq3,zq3]))
    refine ⟨.bool false,?_,?_⟩
    ·conv=>whnf
     exact ⟨fun h=>(n0 h).elim,fun _=>⟨rfl,rfl,zqv⟩⟩
    conv=>whnf
    iterate 2 (refine dS ?_;(conv=>whnf))
    by_cases n1:numR p > 4611686018427387904
    ·refine ⟨.bool true,?_,?_⟩
     ·conv=>whnf
      exact ⟨fun _=>⟨rfl,rfl,zqv⟩,fun h=>(h n1).elim⟩
     conv=>whnf
     iterate 10 (refine dS ?_;(conv=>whnf))
     ((conv in (_[_]?)=>tactic=>exact hb);(conv=>whnf))
     exact fin _ (hno (by unfold okR;rw [zqd (show ¬numR p≤4611686018427387904 by omega),zq4,zq3,zq3,zq3]))
    refine ⟨.bool false,?_,?_⟩
    ·conv=>whnf
     exact ⟨fun h=>(n1 h).elim,fun _=>⟨rfl,rfl,zqv⟩⟩
    conv=>whnf
    iterate 3 (refine dS ?_;(conv=>whnf))
    refine ⟨_,cP (c65 (numR p)) ⟨rfl,rfl,zqv⟩,?_⟩
    conv=>whnf
    refine ⟨.str (intE (numR p)),⟨intE (numR p),⟨rfl,rfl⟩,rfl,rfl,zqv⟩,?_⟩
    conv=>whnf
    (refine dS ?_;(conv=>whnf))
    refine ⟨_,cP (c100 2 p none (by omega)) ⟨rfl,rfl,zqv⟩,?_⟩
    conv=>whnf
    refine ⟨.str (wrapB 2 p),⟨wrapB 2 p,⟨rfl,rfl⟩,rfl,rfl,zqv⟩,?_⟩
    conv=>whnf
    by_cases n2:intE (numR p)=wrapB 2 p
    ·refine ⟨.bool false,?_,?_⟩
     ·conv=>whnf
      exact ⟨fun _=>⟨rfl,rfl,zqv⟩,fun h=>(h n2).elim⟩
     conv=>whnf
     (refine dS ?_;(conv=>whnf))
     have hyes:rintR (some s') (some p)=(some s',numR p):=zqp (by unfold okR;rw [zqe hne,zqe (show p.length≤9 by omega),zqe (show 0≤numR p by omega),zqe (show numR p≤4611686018427387904 by omega),zqe n2];rfl)
     show _=PV.int .i64 (rintR (some s') (some p)).2∧_∧rcur _ c (rintR (some s') (some p)).1
     rw [hyes]
     exact ⟨rfl,h1,h2⟩
    ·refine ⟨.bool true,?_,?_⟩
     ·conv=>whnf
      exact ⟨fun h=>(n2 h).elim,fun _=>⟨rfl,rfl,zqv⟩⟩
     conv=>whnf
     (refine dS ?_;(conv=>whnf))
     ((conv in (_[_]?)=>tactic=>exact hb);(conv=>whnf))
     exact fin _ (hno (by unfold okR;rw [zqd n2,zq3,zq3,zq3,zq3]))
theorem c64 (r n:List UInt8) (hr:r.length≤1000000) (hn:n.length≤1000000):Pure prog 64 [.agg [.str r,.str n]] (sl (princE r n)):=by
 intro H
 have h1:=wrapB_len 27 r
 have h2:=wrapB_len 27 n
 (refine fnS (imm:=imm64) ttL_ok func64 ?_;(conv=>whnf))
 refine dP2 (by kernel_rfl) ?_
 conv=>whnf
 iterate 2 (refine dS ?_;(conv=>whnf))
 refine ⟨_,cP (c111 r (by omega)) ⟨rfl,rfl,zqv⟩,?_⟩
 conv=>whnf
 iterate 2 (refine dS ?_;(conv=>whnf))
 refine ⟨_,cP (c111 n (by omega)) ⟨rfl,rfl,zqv⟩,?_⟩
 conv=>whnf
 (refine dS ?_;(conv=>whnf))
 refine ⟨_,cP (c63 48 [wrapB 27 r,wrapB 27 n] (by simp) (by simp only [zqk,zql,zqf,List.length_nil];omega)) ⟨rfl,rfl,zqv⟩,?_⟩
 conv=>whnf
 (refine dS ?_;(conv=>whnf))
 exact ⟨rfl,rfl⟩
theorem c66 (r n:List UInt8) (kv:Int) (b:List UInt8) (o:Option Nat) (hr:r.length≤1000000) (hn:n.length≤1000000) (hb:b.length≤1000000):Pure prog 66 [.agg [.str r,.str n,.int .i64 kv,slo b o]] (sl (ticketE r n kv b)):=by
 intro H
 have h1:=princE_len r n
 have h2:=intE_len kv
 have h3:=wrapB_len 4 b
 (refine fnS (imm:=imm66) ttL_ok func66 ?_;(conv=>whnf))
 refine dP2 (by kernel_rfl) ?_
 conv=>whnf
 iterate 2 (refine dS ?_;(conv=>whnf))
 refine ⟨_,cP (c64 r n hr hn) ⟨rfl,rfl,zqv⟩,?_⟩
 conv=>whnf
 iterate 2 (refine dS ?_;(conv=>whnf))
 refine ⟨_,cP (c65 kv) ⟨rfl,rfl,zqv⟩,?_⟩
 conv=>whnf
 iterate 2 (refine dS ?_;(conv=>whnf))
 refine ⟨_,cP (c67 b none (by omega)) ⟨rfl,rfl,zqv⟩,?_⟩
 conv=>whnf
 (refine dS ?_;(conv=>whnf))
 refine ⟨_,cP (c63 97 [princE r n,intE kv,wrapB 4 b] (by simp) (by simp only [zqk,zql,zqf,List.length_nil];omega)) ⟨rfl,rfl,zqv⟩,?_⟩
 conv=>whnf
 (refine dS ?_;(conv=>whnf))
 exact ⟨rfl,rfl⟩
theorem c62 (b:List UInt8) (hb:b.length≤2000):Pure prog 62 [sl b] (.tup [sl b,.int .i64 0]):=by
 intro H
 (refine fnS (imm:=imm62) ttL_ok func62 ?_;(conv=>whnf))
 refine ⟨fun h=>absurd (show (2000:Int)<(b.length:Int) from h) (by omega),fun h=>?_⟩
 conv=>whnf
 exact ⟨rfl,rfl⟩
theorem encV_is {m:Msg} (h:isB m=true) (hl:(laidB m).length≤2000):encV m=.tup [sl (laidB m),.int .i64 0]:=zqp ⟨h,hl⟩
theorem c24x (m:Msg) (hm:m.fits) (H:PH):CK prog 24 [.agg m.cells] H fun r H'=>r=encV m∧∃ext,H'=H++ext:=by
 (refine fnS (imm:=imm24) ttL_ok func24 ?_;(conv=>whnf))
 refine cP ((c61 m.d hm).of_eq (show PV.bool (isB m.d)=.bool (isB m) from rfl)) ?_
 cases hb:isB m
 ·conv=>whnf
  exact ⟨(encV_no (fun hh=>by rw [hb] at hh;cases hh.1)).symm,Ext.refl _⟩
 have hm:=(zqb _ _▸hb:_∧_).1
 conv=>whnf
 by_cases h1:m.kind=1
 ·have hk:=h1
  have n2:¬m.kind=2:=by omega
  have n3:¬m.kind=3:=by omega
  have n4:¬m.kind=4:=by omega
  have n5:¬m.kind=5:=by omega
  refine ⟨fun h=>?_,fun h=>?_⟩
  rotate_left
  ·exact (h hk).elim
  conv=>whnf
  rw [zqp hk] at hm
  simp only [zqb] at hm
  have g1:=princ_len hm.1.1.1
  have g2:=princ_len hm.1.1.2
  have e0:=princE_len m.a1 m.a2
  have e1:=princE_len m.a3 m.a4
  have e2:=intE_len m.aTill
  have e3:=intE_len m.aNonce
  have hw:=wrapB_len 106 [princE m.a1 m.a2,princE m.a3 m.a4,intE m.aTill,intE m.aNonce].flatten
  simp only [zqk,zql,zqf,List.length_nil] at hw
  have hlen:(wrapB 106 [princE m.a1 m.a2,princE m.a3 m.a4,intE m.aTill,intE m.aNonce].flatten).length≤2000:=by simp only [zqk,zql];omega
  have hl:laidB m=wrapB 106 [princE m.a1 m.a2,princE m.a3 m.a4,intE m.aTill,intE m.aNonce].flatten:=by unfold laidB;rw [zqp hk]
  ((conv in (_[_]?)=>tactic=>exact gL _ _);(conv=>whnf))
  refine dP2 (by kernel_rfl) ?_
  conv=>whnf
  (refine dS ?_;(conv=>whnf))
  apply exA
  focus
   conv=>whnf
   ((conv in (_[_]?)=>tactic=>exact gS (gL _ _));(conv=>whnf))
   exact ⟨rfl,rfl,zqv⟩
  conv=>whnf
  refine ⟨_,cP (c64 m.a1 m.a2 (by omega) (by omega)) ⟨rfl,rfl,zqv⟩,?_⟩
  conv=>whnf
  (refine dS ?_;(conv=>whnf))
  apply exA
  focus
   conv=>whnf
   ((conv in (_[_]?)=>tactic=>exact gS (gL _ _));(conv=>whnf))
   exact ⟨rfl,rfl,zqv⟩
  conv=>whnf
  refine ⟨_,cP (c64 m.a3 m.a4 (by omega) (by omega)) ⟨rfl,rfl,zqv⟩,?_⟩
  conv=>whnf
  (refine dS ?_;(conv=>whnf))
  apply exA
  focus
   conv=>whnf
   ((conv in (_[_]?)=>tactic=>exact gS (gL _ _));(conv=>whnf))
   exact ⟨rfl,rfl,zqv⟩
  conv=>whnf
  refine ⟨_,cP (c65 m.aTill) ⟨rfl,rfl,zqv⟩,?_⟩
  conv=>whnf
  (refine dS ?_;(conv=>whnf))
  apply exA
  focus
   conv=>whnf
   ((conv in (_[_]?)=>tactic=>exact gS (gL _ _));(conv=>whnf))
   exact ⟨rfl,rfl,zqv⟩
  conv=>whnf
  refine ⟨_,cP (c65 m.aNonce) ⟨rfl,rfl,zqv⟩,?_⟩
  conv=>whnf
  (refine dS ?_;(conv=>whnf))
  refine ⟨_,cP (c63 106 [princE m.a1 m.a2,princE m.a3 m.a4,intE m.aTill,intE m.aNonce] (by simp) (by simp only [zqk,zql,zqf,List.length_nil];omega)) ⟨rfl,rfl,zqv⟩,?_⟩
  conv=>whnf
  refine ⟨_,cP (c62 _ hlen) ⟨rfl,rfl,zqv⟩,?_⟩
  conv=>whnf
  iterate 4 (refine dS ?_;(conv=>whnf))
  exact ⟨(by rw [encV_is hb (by rw [hl];exact hlen),hl] <;> rfl),(Ext.refl _).push _ |>.set (Ext.refl _).len _⟩
 by_cases h2:m.kind=2
 ·have hk:=h2
  have n1:¬m.kind=1:=by omega
  have n3:¬m.kind=3:=by omega
  have n4:¬m.kind=4:=by omega
  have n5:¬m.kind=5:=by omega
  refine ⟨fun h=>?_,fun h=>?_⟩
  ·exact (n1 h).elim
  conv=>whnf
  refine ⟨fun h=>?_,fun h=>?_⟩
  rotate_left
  ·exact (h hk).elim
  conv=>whnf
  rw [zqo n1] at hm
  rw [zqp hk] at hm
  simp only [zqb] at hm
  have g1:=tick_len hm.1.1.1.1
  have g2:=inZ_le hm.1.1.1.2
  have g3:=princ_len hm.1.1.2
  have e0:=ticketE_len m.t1 m.t2 m.tKv m.tB
  have e1:=wrapB_len 4 m.tAu
  have e2:=princE_len m.t3 m.t4
  have e3:=intE_len m.tTill
  have e4:=intE_len m.tNonce
  have hw:=wrapB_len 108 [ticketE m.t1 m.t2 m.tKv m.tB,wrapB 4 m.tAu,princE m.t3 m.t4,intE m.tTill,intE m.tNonce].flatten
  simp only [zqk,zql,zqf,List.length_nil] at hw
  have hlen:(wrapB 108 [ticketE m.t1 m.t2 m.tKv m.tB,wrapB 4 m.tAu,princE m.t3 m.t4,intE m.tTill,intE m.tNonce].flatten).length≤2000:=by simp only [zqk,zql];omega
  have hl:laidB m=wrapB 108 [ticketE m.t1 m.t2 m.tKv m.tB,wrapB 4 m.tAu,princE m.t3 m.t4,intE m.tTill,intE m.tNonce].flatten:=by unfold laidB;rw [zqo n1];rw [zqp hk]
  ((conv in (_[_]?)=>tactic=>exact gL _ _);(conv=>whnf))
  refine dP2 (by kernel_rfl) ?_
  conv=>whnf
  (refine dS ?_;(conv=>whnf))
  apply exA
  focus
   conv=>whnf
   ((conv in (_[_]?)=>tactic=>exact gS (gL _ _));(conv=>whnf))
   exact ⟨rfl,rfl,zqv⟩
  conv=>whnf
  refine ⟨_,cP (c66 m.t1 m.t2 m.tKv m.tB none (by omega) (by omega) (by omega)) ⟨rfl,rfl,zqv⟩,?_⟩
  conv=>whnf
  (refine dS ?_;(conv=>whnf))
  apply exA
  focus
   conv=>whnf
   ((conv in (_[_]?)=>tactic=>exact gS (gL _ _));(conv=>whnf))
   exact ⟨rfl,rfl,zqv⟩
  conv=>whnf
  refine ⟨_,cP (c67 m.tAu none (by omega)) ⟨rfl,rfl,zqv⟩,?_⟩
  conv=>whnf
  (refine dS ?_;(conv=>whnf))
  apply exA
  focus
   conv=>whnf
   ((conv in (_[_]?)=>tactic=>exact gS (gL _ _));(conv=>whnf))
   exact ⟨rfl,rfl,zqv⟩
  conv=>whnf
  refine ⟨_,cP (c64 m.t3 m.t4 (by omega) (by omega)) ⟨rfl,rfl,zqv⟩,?_⟩
  conv=>whnf
  (refine dS ?_;(conv=>whnf))
  apply exA
  focus
   conv=>whnf
   ((conv in (_[_]?)=>tactic=>exact gS (gL _ _));(conv=>whnf))
   exact ⟨rfl,rfl,zqv⟩
  conv=>whnf
  refine ⟨_,cP (c65 m.tTill) ⟨rfl,rfl,zqv⟩,?_⟩
  conv=>whnf
  (refine dS ?_;(conv=>whnf))
  apply exA
  focus
   conv=>whnf
   ((conv in (_[_]?)=>tactic=>exact gS (gL _ _));(conv=>whnf))
   exact ⟨rfl,rfl,zqv⟩
  conv=>whnf
  refine ⟨_,cP (c65 m.tNonce) ⟨rfl,rfl,zqv⟩,?_⟩
  conv=>whnf
  (refine dS ?_;(conv=>whnf))
  refine ⟨_,cP (c63 108 [ticketE m.t1 m.t2 m.tKv m.tB,wrapB 4 m.tAu,princE m.t3 m.t4,intE m.tTill,intE m.tNonce] (by simp) (by simp only [zqk,zql,zqf,List.length_nil];omega)) ⟨rfl,rfl,zqv⟩,?_⟩
  conv=>whnf
  refine ⟨_,cP (c62 _ hlen) ⟨rfl,rfl,zqv⟩,?_⟩
  conv=>whnf
  iterate 4 (refine dS ?_;(conv=>whnf))
  exact ⟨(by rw [encV_is hb (by rw [hl];exact hlen),hl] <;> rfl),(Ext.refl _).push _ |>.set (Ext.refl _).len _⟩
 by_cases h3:m.kind=3
 ·have hk:=h3
  have n1:¬m.kind=1:=by omega
  have n2:¬m.kind=2:=by omega
  have n4:¬m.kind=4:=by omega
  have n5:¬m.kind=5:=by omega
  refine ⟨fun h=>?_,fun h=>?_⟩
  ·exact (n1 h).elim
  conv=>whnf
  refine ⟨fun h=>?_,fun h=>?_⟩
  ·exact (n2 h).elim
  conv=>whnf
  refine ⟨fun h=>?_,fun h=>?_⟩
  rotate_left
  ·exact (h hk).elim
  conv=>whnf
  rw [zqo n1] at hm
  rw [zqo n2] at hm
  rw [zqp hk] at hm
  simp only [zqb] at hm
  have g1:=princ_len hm.1.1
  have g2:=tick_len hm.1.2
  have g3:=inZ_le hm.2
  have e0:=princE_len m.r1 m.r2
  have e1:=ticketE_len m.r3 m.r4 m.rKv m.rB
  have e2:=wrapB_len 4 m.rBl
  have hw:=wrapB_len 107 [princE m.r1 m.r2,ticketE m.r3 m.r4 m.rKv m.rB,wrapB 4 m.rBl].flatten
  simp only [zqk,zql,zqf,List.length_nil] at hw
  have hlen:(wrapB 107 [princE m.r1 m.r2,ticketE m.r3 m.r4 m.rKv m.rB,wrapB 4 m.rBl].flatten).length≤2000:=by simp only [zqk,zql];omega
  have hl:laidB m=wrapB 107 [princE m.r1 m.r2,ticketE m.r3 m.r4 m.rKv m.rB,wrapB 4 m.rBl].flatten:=by unfold laidB;rw [zqo n1];rw [zqo n2];rw [zqp hk]
  refine dP2 (by kernel_rfl) ?_
  conv=>whnf
  iterate 3 (refine dS ?_;(conv=>whnf))
  refine ⟨_,cP (c64 m.r1 m.r2 (by omega) (by omega)) ⟨rfl,rfl,zqv⟩,?_⟩
  conv=>whnf
  iterate 3 (refine dS ?_;(conv=>whnf))
  refine ⟨_,cP (c66 m.r3 m.r4 m.rKv m.rB none (by omega) (by omega) (by omega)) ⟨rfl,rfl,zqv⟩,?_⟩
  conv=>whnf
  iterate 3 (refine dS ?_;(conv=>whnf))
  refine ⟨_,cP (c67 m.rBl none (by omega)) ⟨rfl,rfl,zqv⟩,?_⟩
  conv=>whnf
  (refine dS ?_;(conv=>whnf))
  refine ⟨_,cP (c63 107 [princE m.r1 m.r2,ticketE m.r3 m.r4 m.rKv m.rB,wrapB 4 m.rBl] (by simp) (by simp only [zqk,zql,zqf,List.length_nil];omega)) ⟨rfl,rfl,zqv⟩,?_⟩
  conv=>whnf
  refine ⟨_,cP (c62 _ hlen) ⟨rfl,rfl,zqv⟩,?_⟩
  conv=>whnf
  iterate 4 (refine dS ?_;(conv=>whnf))
  exact ⟨(by rw [encV_is hb (by rw [hl];exact hlen),hl] <;> rfl),Ext.refl _⟩
 by_cases h4:m.kind=4
 ·have hk:=h4
  have n1:¬m.kind=1:=by omega
  have n2:¬m.kind=2:=by omega
  have n3:¬m.kind=3:=by omega
  have n5:¬m.kind=5:=by omega
  refine ⟨fun h=>?_,fun h=>?_⟩
  ·exact (n1 h).elim
  conv=>whnf
  refine ⟨fun h=>?_,fun h=>?_⟩
  ·exact (n2 h).elim
  conv=>whnf
  refine ⟨fun h=>?_,fun h=>?_⟩
  ·exact (n3 h).elim
  conv=>whnf
  refine ⟨fun h=>?_,fun h=>?_⟩
  rotate_left
  ·exact (h hk).elim
  conv=>whnf
  rw [zqo n1] at hm
  rw [zqo n2] at hm
  rw [zqo n3] at hm
  rw [zqp hk] at hm
  simp only [zqb] at hm
  have g1:=tick_len hm.1
  have g2:=inZ_le hm.2
  have e0:=ticketE_len m.p1 m.p2 m.pKv m.pB
  have e1:=wrapB_len 4 m.pAu
  have hw:=wrapB_len 110 [ticketE m.p1 m.p2 m.pKv m.pB,wrapB 4 m.pAu].flatten
  simp only [zqk,zql,zqf,List.length_nil] at hw
  have hlen:(wrapB 110 [ticketE m.p1 m.p2 m.pKv m.pB,wrapB 4 m.pAu].flatten).length≤2000:=by simp only [zqk,zql];omega
  have hl:laidB m=wrapB 110 [ticketE m.p1 m.p2 m.pKv m.pB,wrapB 4 m.pAu].flatten:=by unfold laidB;rw [zqo n1];rw [zqo n2];rw [zqo n3];rw [zqp hk]
  refine dP2 (by kernel_rfl) ?_
  conv=>whnf
  iterate 3 (refine dS ?_;(conv=>whnf))
  refine ⟨_,cP (c66 m.p1 m.p2 m.pKv m.pB none (by omega) (by omega) (by omega)) ⟨rfl,rfl,zqv⟩,?_⟩
  conv=>whnf
  iterate 3 (refine dS ?_;(conv=>whnf))
  refine ⟨_,cP (c67 m.pAu none (by omega)) ⟨rfl,rfl,zqv⟩,?_⟩
  conv=>whnf
  (refine dS ?_;(conv=>whnf))
  refine ⟨_,cP (c63 110 [ticketE m.p1 m.p2 m.pKv m.pB,wrapB 4 m.pAu] (by simp) (by simp only [zqk,zql,zqf,List.length_nil];omega)) ⟨rfl,rfl,zqv⟩,?_⟩
  conv=>whnf
  refine ⟨_,cP (c62 _ hlen) ⟨rfl,rfl,zqv⟩,?_⟩
  conv=>whnf
  iterate 4 (refine dS ?_;(conv=>whnf))
  exact ⟨(by rw [encV_is hb (by rw [hl];exact hlen),hl] <;> rfl),Ext.refl _⟩
 have n1:¬m.kind=1:=h1
 have n2:¬m.kind=2:=h2
 have n3:¬m.kind=3:=h3
 have n4:¬m.kind=4:=h4
 refine ⟨fun h=>?_,fun h=>?_⟩
 ·exact (n1 h).elim
 conv=>whnf
 refine ⟨fun h=>?_,fun h=>?_⟩
 ·exact (n2 h).elim
 conv=>whnf
 refine ⟨fun h=>?_,fun h=>?_⟩
 ·exact (n3 h).elim
 conv=>whnf
 refine ⟨fun h=>?_,fun h=>?_⟩
 ·exact (n4 h).elim
 conv=>whnf
 by_cases hk:m.kind=5
 ·skip
  rw [zqo n1] at hm
  rw [zqo n2] at hm
  rw [zqo n3] at hm
  rw [zqo n4] at hm
  rw [zqp hk] at hm
  simp only [zqb] at hm
  have e0:=intE_len m.fErr
  have e1:=intE_len m.fNonce
  have hw:=wrapB_len 126 [intE m.fErr,intE m.fNonce].flatten
  simp only [zqk,zql,zqf,List.length_nil] at hw
  have hlen:(wrapB 126 [intE m.fErr,intE m.fNonce].flatten).length≤2000:=by simp only [zqk,zql];omega
  have hl:laidB m=wrapB 126 [intE m.fErr,intE m.fNonce].flatten:=by unfold laidB;rw [zqo n1];rw [zqo n2];rw [zqo n3];rw [zqo n4];skip
  refine dP2 (by kernel_rfl) ?_
  conv=>whnf
  iterate 3 (refine dS ?_;(conv=>whnf))
  refine ⟨_,cP (c65 m.fErr) ⟨rfl,rfl,zqv⟩,?_⟩
  conv=>whnf
  iterate 3 (refine dS ?_;(conv=>whnf))
  refine ⟨_,cP (c65 m.fNonce) ⟨rfl,rfl,zqv⟩,?_⟩
  conv=>whnf
  (refine dS ?_;(conv=>whnf))
  refine ⟨_,cP (c63 126 [intE m.fErr,intE m.fNonce] (by simp) (by simp only [zqk,zql,zqf,List.length_nil];omega)) ⟨rfl,rfl,zqv⟩,?_⟩
  conv=>whnf
  refine ⟨_,cP (c62 _ hlen) ⟨rfl,rfl,zqv⟩,?_⟩
  conv=>whnf
  iterate 4 (refine dS ?_;(conv=>whnf))
  exact ⟨(by rw [encV_is hb (by rw [hl];exact hlen),hl] <;> rfl),Ext.refl _⟩
 ·rw [zqo n1,zqo n2,zqo n3,zqo n4,zqo hk] at hm
  cases hm
theorem encV_old (m:Msg):oldR (encV m)=true:=by
 unfold encV limV
 split
 ·simp [oldR,oldPs,oldP,sl,oldPs_bytes]
 ·rfl
theorem c24 (m:Msg) (hm:m.fits):Pure prog 24 [.agg m.cells] (encV m):=Pure.of_gc (encV_old m) (c24x m hm)
structure RakS (T:Nat) (zc:List PV) (B K:PH) (r e q:Nat) (s:Option (List UInt8)) (cells:List PV) (ver:Nat):Prop where
 z:K[r]? = some ⟨T,zc,0⟩
 p:K[q]? = some ⟨T,cells,ver⟩
 cur:rcur K e s
 up:Upd (·=e) B K
 lb:B.length≤q
 n1:r≠e
 n3:q≠e
 n5:q≠r
theorem RakS.call {T:Nat} {zc:List PV} {B K K':PH} {r e q:Nat} {s s':Option (List UInt8)} {cells:List PV} {ver:Nat} (h:RakS T zc B K r e q s cells ver) (u:Upd (·=e) K K') (c:rcur K' e s') :
  RakS T zc B K' r e q s' cells ver:=by
 have lt:∀{i:Nat} {o:PObj},K[i]? = some o→i<K.length:=fun h=>(zq1.1 h).1
 exact ⟨(u.2 _ (lt h.z) h.n1).trans h.z,(u.2 _ (lt h.p) h.n3).trans h.p,c,h.up.trans u,h.lb,h.n1,h.n3,h.n5⟩
theorem RakS.store {T:Nat} {zc:List PV} {B K:PH} {r e q:Nat} {s:Option (List UInt8)} {cells:List PV} {ver:Nat} (h:RakS T zc B K r e q s cells ver) (cells':List PV) (ver':Nat) :
  RakS T zc B (K.set q ⟨T,cells',ver'⟩) r e q s cells' ver':=by
 refine ⟨?_,gS h.p,h.cur.set_ne h.n3 _,h.up.set (.inr h.lb) _,h.lb,h.n1,h.n3,h.n5⟩
 rw [zqj h.n5];exact h.z
theorem RakS.new {T:Nat} {zc:List PV} {B K:PH} {r e:Nat} {s:Option (List UInt8)} (hz:B[r]? = some ⟨T,zc,0⟩) (hr:r≠e) (u:Upd (·=e) B K) (c:rcur K e s) (cells:List PV) (ver:Nat) :
  RakS T zc B ((K++[PObj.mk T zc 0]).set K.length ⟨T,cells,ver⟩) r e K.length s cells ver:=by
 have lt:∀{i:Nat} {o:PObj},B[i]? = some o→i<B.length:=fun h=>(zq1.1 h).1
 have l1:=lt hz
 have l2:=u.1
 have l3:=c.lt
 rw [sL]
 refine ⟨?_,gL _ _,c.keep (X:=fun _=>False) ((Upd.refl K).push _) (fun f=>f),u.push _,l2,hr,by omega,by omega⟩
 rw [zq2 (by omega),u.2 _ l1 hr];exact hz
def outR (s t:Option (List UInt8)):Option (List UInt8):=if wholeB t=true then s else none
theorem outR_no {s t:Option (List UInt8)} (h:wholeB t=false):outR s t=none:=zqo (by rw [h];decide)
theorem outR_yes {s t:Option (List UInt8)} (h:wholeB t=true):outR s t=s:=zqp h
theorem outR_none {t:Option (List UInt8)}:outR none t=none:=ite_self _
theorem outR_len {s t:Option (List UInt8)} {B:Nat} (h:∀l,s=some l→l.length≤B):∀l,outR s t=some l→l.length≤B:=by
 intro l hl
 unfold outR at hl
 split at hl
 ·exact h l hl
 ·cases hl
theorem rintC_len {s:Option (List UInt8)} {B:Nat} (h:∀l,s=some l→l.length≤B):∀l,(rintC s).1=some l→l.length≤B:=by
 have hl:=(elemC_len (tag:=2) h).1
 unfold rintC
 revert hl
 generalize elemC 2 s=q
 obtain ⟨s',o⟩:=q
 intro hl l
 cases o with
 | none=>intro e;cases e
 | some b =>
  show (if okR b=true then (s',numR b) else (none,0)).1=some l→_
  split
  ·exact hl l
  ·intro e;cases e
def princR (s:Option (List UInt8)):Option (List UInt8)×(List UInt8×List UInt8) :=
 (outR (elemC 48 s).1 (txtC (txtC (elemC 48 s).2).1).1,((txtC (elemC 48 s).2).2,(txtC (txtC (elemC 48 s).2).1).2))
def tickRD (s:Option (List UInt8)):Tk:=⟨(princR s).2.1,(princR s).2.2,(rintC (princR s).1).2,(octC (rintC (princR s).1).1).2⟩
def tickR (s:Option (List UInt8)):Option (List UInt8)×Tk :=
 (outR (elemC 97 s).1 (octC (rintC (princR (elemC 97 s).2).1).1).1,tickRD (elemC 97 s).2)
theorem c54 (c:Nat) (s:Option (List UInt8)) (H:PH) (hc:rcur H c s) (hl:∀l,s=some l→l.length≤140737488355328) :
  CK prog 54 [.ptr (some (c,0))] H fun r H'=>r=.agg [.str (princR s).2.1,.str (princR s).2.2]∧Upd (·=c) H H'∧rcur H' c (princR s).1:=by
 have hd:=hc.lt
 have g0:=elemC_len (tag:=48) hl
 have hs0:∀l,(elemC 48 s).2=some l→l.length≤140737488355328:=fun l h=>(g0.2 l h).1
 have hs1:=(elemC_len (tag:=27) hs0).1
 (refine fnS (imm:=imm54) ttL_ok func54 ?_;(conv=>whnf))
 obtain ⟨H1,hH1⟩:∃H1,H1=H++[PObj.mk 36 [.str [],.str []] 0]:=⟨_,rfl⟩
 have hl1:H1.length=H.length+1:=by rw [hH1];simp
 have h0:H1[H.length]? = some ⟨36,[.str [],.str []],0⟩:=by rw [hH1];exact gL _ _
 have u1:Upd (·=c) H H1:=by rw [hH1];exact (Upd.refl H).push _
 have hc1:rcur H1 c s:=hc.keep (X:=fun _=>False) (by rw [hH1];exact (Upd.refl H).push _) (fun f=>f)
 rw [←hH1]
 refine cO (c53 c 48 s H1 hc1 hl) ?_
 rintro _ H2 ⟨e,rfl,k1,k2,k3,k4⟩
 have hle:=k4.lt
 have uB:Upd (·=c) H H2:=u1.trans k2
 have h2z:H2[H.length]? = some ⟨36,[.str [],.str []],0⟩:=by rw [k2.2 _ (by omega) (by omega)];exact h0
 conv=>whnf
 refine cO (c98 e _ H2 k4 hs0) ?_
 rintro _ K1 ⟨rfl,u4,g4⟩
 have D1:=RakS.new h2z (by omega) u4 g4 [.str (txtC (elemC 48 s).2).2,.str []] 1
 conv=>whnf
 ((conv in (_[_]?)=>tactic=>exact gL _ _);(conv=>whnf))
 refine cO (c98 e _ _ D1.cur hs1) ?_
 rintro _ K2 ⟨rfl,u5,g5⟩
 have D2:=D1.call u5 g5
 conv=>whnf
 ((conv in (_[_]?)=>tactic=>exact D2.p);(conv=>whnf))
 have D3:=D2.store [.str (txtC (elemC 48 s).2).2,.str (txtC (txtC (elemC 48 s).2).1).2] 2
 have o3:rcur _ c (elemC 48 s).1:=k3.keep D3.up (by omega)
 have hq:=D3.lb
 have fin:∀(s':Option (List UInt8)) (bc:List UInt8) (vc:Nat),(∀l,s'=some l→bc=l)→∀(hcc:(K2.set K1.length (PObj.mk 36 [.str (txtC (elemC 48 s).2).2,.str (txtC (txtC (elemC 48 s).2).1).2] 2))[c]? = some ⟨128,[sl bc,.bool (elemC 48 s).1.isNone],vc⟩) (o:PObj),
   Upd (·=c) H (((K2.set K1.length (PObj.mk 36 [.str (txtC (elemC 48 s).2).2,.str (txtC (txtC (elemC 48 s).2).1).2] 2)).set c ⟨128,[sl bc,.bool s'.isNone],vc+1⟩).set H.length o) ∧
   rcur (((K2.set K1.length (PObj.mk 36 [.str (txtC (elemC 48 s).2).2,.str (txtC (txtC (elemC 48 s).2).1).2] 2)).set c ⟨128,[sl bc,.bool s'.isNone],vc+1⟩).set H.length o) c s':=fun s' bc vc hb hcc o=>by
  have uF:=uB.over D3.up (fun i hi h=>by omega)
  refine ⟨(uF.set (.inl rfl) _).set (.inr (zqn _)) _,?_⟩
  exact rcur.set_ne ⟨bc,vc+1,gS hcc,hb⟩ (by omega) _
 have hpz:∀(o:PObj),((K2.set K1.length (PObj.mk 36 [.str (txtC (elemC 48 s).2).2,.str (txtC (txtC (elemC 48 s).2).1).2] 2)).set c o)[K1.length]? = some ⟨36,[.str (txtC (elemC 48 s).2).2,.str (txtC (txtC (elemC 48 s).2).1).2],2⟩:=fun o=>by
  rw [zqj (by omega)];exact D3.p
 have hzz:∀(o:PObj),((K2.set K1.length (PObj.mk 36 [.str (txtC (elemC 48 s).2).2,.str (txtC (txtC (elemC 48 s).2).1).2] 2)).set c o)[H.length]? = some ⟨36,[.str [],.str []],0⟩:=fun o=>by
  rw [zqj (by omega)];exact D3.z
 unfold princR
 obtain ⟨bc,vc,hcc,hxc⟩:=o3
 ((conv in (_[_]?)=>tactic=>exact hcc);(conv=>whnf))
 revert hcc hxc fin
 generalize (elemC 48 s).1=s1
 intro fin hcc hxc
 cases s1 with
 | none =>
  rw [outR_none]
  conv=>whnf
  ((conv in (_[_]?)=>tactic=>exact hcc);(conv=>whnf))
  ((conv in (_[_]?)=>tactic=>exact hpz _);(conv=>whnf))
  ((conv in (_[_]?)=>tactic=>exact hzz _);(conv=>whnf))
  ((conv in (_[_]?)=>tactic=>exact gS (hzz _));(conv=>whnf))
  exact ⟨rfl,fin none bc vc (fun l h=>by cases h) hcc _⟩
 | some l =>
  conv=>whnf
  refine cO (c99 e _ _ D3.cur) ?_
  rintro _ _ ⟨rfl,rfl⟩
  have hbl:=hxc l rfl
  subst hbl
  show _
  cases hw:wholeB (txtC (txtC (elemC 48 s).2).1).1
  ·have e1:outR (some bc) (txtC (txtC (elemC 48 s).2).1).1=none:=outR_no hw
   rw [e1]
   conv=>whnf
   ((conv in (_[_]?)=>tactic=>exact hcc);(conv=>whnf))
   ((conv in (_[_]?)=>tactic=>exact hpz _);(conv=>whnf))
   ((conv in (_[_]?)=>tactic=>exact hzz _);(conv=>whnf))
   ((conv in (_[_]?)=>tactic=>exact gS (hzz _));(conv=>whnf))
   exact ⟨rfl,fin none bc vc (fun l h=>by cases h) hcc _⟩
  ·have e1:outR (some bc) (txtC (txtC (elemC 48 s).2).1).1=some bc:=outR_yes hw
   rw [e1]
   conv=>whnf
   ((conv in (_[_]?)=>tactic=>exact hcc);(conv=>whnf))
   ((conv in (_[_]?)=>tactic=>exact hpz _);(conv=>whnf))
   ((conv in (_[_]?)=>tactic=>exact hzz _);(conv=>whnf))
   ((conv in (_[_]?)=>tactic=>exact gS (hzz _));(conv=>whnf))
   exact ⟨rfl,fin (some bc) bc vc (fun l h=>Option.some.inj h) hcc _⟩
theorem c56 (c:Nat) (s:Option (List UInt8)) (H:PH) (hc:rcur H c s) (hl:∀l,s=some l→l.length≤140737488355328) :
  CK prog 56 [.ptr (some (c,0))] H fun r H'=>r=.agg [.str (tickR s).2.r,.str (tickR s).2.n,.int .i64 (tickR s).2.kv,sl (tickR s).2.b]∧Upd (·=c) H H'∧rcur H' c (tickR s).1:=by
 have hd:=hc.lt
 have g0:=elemC_len (tag:=97) hl
 have hs0:∀l,(elemC 97 s).2=some l→l.length≤140737488355328:=fun l h=>(g0.2 l h).1
 have hs1:∀l,(princR (elemC 97 s).2).1=some l→l.length≤140737488355328:=outR_len (elemC_len (tag:=48) hs0).1
 have hs2:=rintC_len hs1
 (refine fnS (imm:=imm56) ttL_ok func56 ?_;(conv=>whnf))
 obtain ⟨H1,hH1⟩:∃H1,H1=H++[PObj.mk 53 [.str [],.str [],.int .i64 0,.slice 0 [] (some 5)] 0]:=⟨_,rfl⟩
 have hl1:H1.length=H.length+1:=by rw [hH1];simp
 have h0:H1[H.length]? = some ⟨53,[.str [],.str [],.int .i64 0,.slice 0 [] (some 5)],0⟩:=by rw [hH1];exact gL _ _
 have u1:Upd (·=c) H H1:=by rw [hH1];exact (Upd.refl H).push _
 have hc1:rcur H1 c s:=hc.keep (X:=fun _=>False) (by rw [hH1];exact (Upd.refl H).push _) (fun f=>f)
 rw [←hH1]
 refine cO (c53 c 97 s H1 hc1 hl) ?_
 rintro _ H2 ⟨e,rfl,k1,k2,k3,k4⟩
 have hle:=k4.lt
 have uB:Upd (·=c) H H2:=u1.trans k2
 have h2z:H2[H.length]? = some ⟨53,[.str [],.str [],.int .i64 0,.slice 0 [] (some 5)],0⟩:=by rw [k2.2 _ (by omega) (by omega)];exact h0
 conv=>whnf
 refine cO (c54 e _ H2 k4 hs0) ?_
 rintro _ K1 ⟨rfl,u4,g4⟩
 have D1:=RakS.new h2z (by omega) u4 g4 [.str (princR (elemC 97 s).2).2.1,.str (princR (elemC 97 s).2).2.2,.int .i64 0,.slice 0 [] (some 5)] 1
 conv=>whnf
 ((conv in (_[_]?)=>tactic=>exact gL _ _);(conv=>whnf))
 refine cO (c55 e _ _ D1.cur hs1) ?_
 rintro _ K2 ⟨rfl,u5,g5⟩
 have D2:=D1.call u5 g5
 conv=>whnf
 ((conv in (_[_]?)=>tactic=>exact D2.p);(conv=>whnf))
 have D3:=D2.store [.str (princR (elemC 97 s).2).2.1,.str (princR (elemC 97 s).2).2.2,.int .i64 (rintC (princR (elemC 97 s).2).1).2,.slice 0 [] (some 5)] 2
 refine cO (c57 e _ _ D3.cur hs2) ?_
 rintro _ K3 ⟨rfl,u6,g6⟩
 have D4:=D3.call u6 g6
 conv=>whnf
 ((conv in (_[_]?)=>tactic=>exact D4.p);(conv=>whnf))
 obtain ⟨F,hF⟩:∃F:List PV,F=[.str (princR (elemC 97 s).2).2.1,.str (princR (elemC 97 s).2).2.2,.int .i64 (rintC (princR (elemC 97 s).2).1).2,sl (octC (rintC (princR (elemC 97 s).2).1).1).2]:=⟨_,rfl⟩
 have D5:=D4.store [.str (princR (elemC 97 s).2).2.1,.str (princR (elemC 97 s).2).2.2,.int .i64 (rintC (princR (elemC 97 s).2).1).2,sl (octC (rintC (princR (elemC 97 s).2).1).1).2] 3
 have o3:rcur _ c (elemC 97 s).1:=k3.keep D5.up (by omega)
 have hq:=D5.lb
 have fin:∀(s':Option (List UInt8)) (bc:List UInt8) (vc:Nat),(∀l,s'=some l→bc=l)→∀(hcc:(K3.set K1.length (PObj.mk 53 [.str (princR (elemC 97 s).2).2.1,.str (princR (elemC 97 s).2).2.2,.int .i64 (rintC (princR (elemC 97 s).2).1).2,sl (octC (rintC (princR (elemC 97 s).2).1).1).2] 3))[c]? = some ⟨128,[sl bc,.bool (elemC 97 s).1.isNone],vc⟩) (o:PObj),
   Upd (·=c) H (((K3.set K1.length (PObj.mk 53 [.str (princR (elemC 97 s).2).2.1,.str (princR (elemC 97 s).2).2.2,.int .i64 (rintC (princR (elemC 97 s).2).1).2,sl (octC (rintC (princR (elemC 97 s).2).1).1).2] 3)).set c ⟨128,[sl bc,.bool s'.isNone],vc+1⟩).set H.length o) ∧
   rcur (((K3.set K1.length (PObj.mk 53 [.str (princR (elemC 97 s).2).2.1,.str (princR (elemC 97 s).2).2.2,.int .i64 (rintC (princR (elemC 97 s).2).1).2,sl (octC (rintC (princR (elemC 97 s).2).1).1).2] 3)).set c ⟨128,[sl bc,.bool s'.isNone],vc+1⟩).set H.length o) c s':=fun s' bc vc hb hcc o=>by
  have uF:=uB.over D5.up (fun i hi h=>by omega)
  refine ⟨(uF.set (.inl rfl) _).set (.inr (zqn _)) _,?_⟩
  exact rcur.set_ne ⟨bc,vc+1,gS hcc,hb⟩ (by omega) _
 have hpz:∀(o:PObj),((K3.set K1.length (PObj.mk 53 [.str (princR (elemC 97 s).2).2.1,.str (princR (elemC 97 s).2).2.2,.int .i64 (rintC (princR (elemC 97 s).2).1).2,sl (octC (rintC (princR (elemC 97 s).2).1).1).2] 3)).set c o)[K1.length]? = some ⟨53,[.str (princR (elemC 97 s).2).2.1,.str (princR (elemC 97 s).2).2.2,.int .i64 (rintC (princR (elemC 97 s).2).1).2,sl (octC (rintC (princR (elemC 97 s).2).1).1).2],3⟩:=fun o=>by
  rw [zqj (by omega)];exact D5.p
 have hzz:∀(o:PObj),((K3.set K1.length (PObj.mk 53 [.str (princR (elemC 97 s).2).2.1,.str (princR (elemC 97 s).2).2.2,.int .i64 (rintC (princR (elemC 97 s).2).1).2,sl (octC (rintC (princR (elemC 97 s).2).1).1).2] 3)).set c o)[H.length]? = some ⟨53,[.str [],.str [],.int .i64 0,.slice 0 [] (some 5)],0⟩:=fun o=>by
  rw [zqj (by omega)];exact D5.z
 unfold tickR
 obtain ⟨bc,vc,hcc,hxc⟩:=o3
 ((conv in (_[_]?)=>tactic=>exact hcc);(conv=>whnf))
 revert hcc hxc fin
 generalize (elemC 97 s).1=s1
 intro fin hcc hxc
 cases s1 with
 | none =>
  rw [outR_none]
  conv=>whnf
  ((conv in (_[_]?)=>tactic=>exact hcc);(conv=>whnf))
  ((conv in (_[_]?)=>tactic=>exact hpz _);(conv=>whnf))
  ((conv in (_[_]?)=>tactic=>exact hzz _);(conv=>whnf))
  ((conv in (_[_]?)=>tactic=>exact gS (hzz _));(conv=>whnf))
  exact ⟨rfl,fin none bc vc (fun l h=>by cases h) hcc _⟩
 | some l =>
  conv=>whnf
  refine cO (c99 e _ _ D5.cur) ?_
  rintro _ _ ⟨rfl,rfl⟩
  have hbl:=hxc l rfl
  subst hbl
  show _
  cases hw:wholeB (octC (rintC (princR (elemC 97 s).2).1).1).1
  ·have e1:outR (some bc) (octC (rintC (princR (elemC 97 s).2).1).1).1=none:=outR_no hw
   rw [e1]
   conv=>whnf
   ((conv in (_[_]?)=>tactic=>exact hcc);(conv=>whnf))
   ((conv in (_[_]?)=>tactic=>exact hpz _);(conv=>whnf))
   ((conv in (_[_]?)=>tactic=>exact hzz _);(conv=>whnf))
   ((conv in (_[_]?)=>tactic=>exact gS (hzz _));(conv=>whnf))
   exact ⟨rfl,fin none bc vc (fun l h=>by cases h) hcc _⟩
  ·have e1:outR (some bc) (octC (rintC (princR (elemC 97 s).2).1).1).1=some bc:=outR_yes hw
   rw [e1]
   conv=>whnf
   ((conv in (_[_]?)=>tactic=>exact hcc);(conv=>whnf))
   ((conv in (_[_]?)=>tactic=>exact hpz _);(conv=>whnf))
   ((conv in (_[_]?)=>tactic=>exact hzz _);(conv=>whnf))
   ((conv in (_[_]?)=>tactic=>exact gS (hzz _));(conv=>whnf))
   exact ⟨rfl,fin (some bc) bc vc (fun l h=>Option.some.inj h) hcc _⟩
def rkAs (s:Option (List UInt8)):Msg:={ mZ with kind:=1,a1:=(princR s).2.1,a2:=(princR s).2.2,a3:=(princR (princR s).1).2.1,a4:=(princR (princR s).1).2.2,aTill:=(rintC (princR (princR s).1).1).2,aNonce:=(rintC (rintC (princR (princR s).1).1).1).2 }
def rkTgs (s:Option (List UInt8)):Msg:={ mZ with kind:=2,t1:=(tickR s).2.r,t2:=(tickR s).2.n,tKv:=(tickR s).2.kv,tB:=(tickR s).2.b,tBo:=none,tAu:=(octC (tickR s).1).2,tAuo:=none,t3:=(princR (octC (tickR s).1).1).2.1,t4:=(princR (octC (tickR s).1).1).2.2,tTill:=(rintC (princR (octC (tickR s).1).1).1).2,tNonce:=(rintC (rintC (princR (octC (tickR s).1).1).1).1).2 }
def rkRep (s:Option (List UInt8)):Msg:={ mZ with kind:=3,r1:=(princR s).2.1,r2:=(princR s).2.2,r3:=(tickR (princR s).1).2.r,r4:=(tickR (princR s).1).2.n,rKv:=(tickR (princR s).1).2.kv,rB:=(tickR (princR s).1).2.b,rBo:=none,rBl:=(octC (tickR (princR s).1).1).2,rBlo:=none }
def rkAp (s:Option (List UInt8)):Msg:={ mZ with kind:=4,p1:=(tickR s).2.r,p2:=(tickR s).2.n,pKv:=(tickR s).2.kv,pB:=(tickR s).2.b,pBo:=none,pAu:=(octC (tickR s).1).2,pAuo:=none }
def rkFail (s:Option (List UInt8)):Msg:={ mZ with kind:=5,fErr:=(rintC s).2,fNonce:=(rintC (rintC s).1).2 }
def takenRT (t:UInt8) (s:Option (List UInt8)):Msg :=
 if t.toNat=106 then rkAs s else if t.toNat=108 then rkTgs s else if t.toNat=107 then rkRep s else if t.toNat=110 then rkAp s else if t.toNat=126 then rkFail s else mZ
def takenR:List UInt8→Msg
 | []=>mZ
 | t::r=>takenRT t (elemC t (some (t::r))).2
theorem takenR_fits (t:UInt8) (s:Option (List UInt8)):(takenRT t s).fits:=by
 unfold takenRT
 have z:∀n:Nat,([]:List UInt8).length≤n:=fun n=>Nat.zero_le _
 split
 ·refine ⟨?_,?_,?_,?_,?_,?_,?_,?_,?_,?_,?_,?_,?_,?_⟩ <;> first | exact z _ | exact small2 _ _
 ·split
  ·refine ⟨?_,?_,?_,?_,?_,?_,?_,?_,?_,?_,?_,?_,?_,?_⟩ <;> first | exact z _ | exact small2 _ _
  ·split
   ·refine ⟨?_,?_,?_,?_,?_,?_,?_,?_,?_,?_,?_,?_,?_,?_⟩ <;> first | exact z _ | exact small2 _ _
   ·split
    ·refine ⟨?_,?_,?_,?_,?_,?_,?_,?_,?_,?_,?_,?_,?_,?_⟩ <;> first | exact z _ | exact small2 _ _
    ·split
     ·refine ⟨?_,?_,?_,?_,?_,?_,?_,?_,?_,?_,?_,?_,?_,?_⟩ <;> first | exact z _ | exact small2 _ _
     ·refine ⟨?_,?_,?_,?_,?_,?_,?_,?_,?_,?_,?_,?_,?_,?_⟩ <;> first | exact z _ | exact small2 _ _
theorem okM_mZ (b:List UInt8):okM mZ b=false:=rfl
def refDecV (b:List UInt8):PV:=agM (takenR b) b
theorem c22x (b:List UInt8) (hb:b.length≤140737488355328) (H:PH):CK prog 22 [sl b] H fun r H'=>r=refDecV b∧∃ext,H'=H++ext:=by
 (refine fnS (imm:=imm22) ttL_ok func22 ?_;(conv=>whnf))
 ((conv in (_[_]?)=>tactic=>exact gL _ _);(conv=>whnf))
 cases b with
 | nil =>
  have e0:refDecV []=.tup [.agg mZ.d.cells,.int .i64 2]:=agM_no (okM_mZ [])
  rw [e0]
  refine ⟨fun _=>?_,fun h=>absurd rfl h⟩
  conv=>whnf
  ((conv in (_[_]?)=>tactic=>exact gS (gL _ _));(conv=>whnf))
  ((conv in (_[_]?)=>tactic=>exact get_mid_set _ _ _ _);(conv=>whnf))
  ((conv in (_[_]?)=>tactic=>exact gS (get_mid_set _ _ _ _));(conv=>whnf))
  exact ⟨rfl,((((Ext.refl H).push _).push _).set (by simp) _).set (zqn _) _⟩
 | cons t b =>
  refine ⟨fun h=>absurd h (by simp <;> omega),fun _=>?_⟩
  conv=>whnf
  refine ⟨⟨by decide,by first | (simp;done) | (simp;omega)⟩,[bC t],sl_get0 t b,?_⟩
  conv=>whnf
  obtain ⟨HC,hHC⟩:∃HC,HC=(H++[PObj.mk 63 mZ.cells 0]++[PObj.mk 63 mZ.cells 0]).set (H++[PObj.mk 63 mZ.cells 0]).length (PObj.mk 63 mZ.cells 1):=⟨_,rfl⟩
  have hHC':HC=H++[PObj.mk 63 mZ.cells 0]++[PObj.mk 63 mZ.cells 1]:=by rw [hHC,sL]
  have hlC:HC.length=H.length+2:=by rw [hHC'];simp
  have hCr:HC[H.length]? = some ⟨63,mZ.cells,0⟩:=by rw [hHC'];exact get_mid _ _ _
  have hCq:HC[(H++[PObj.mk 63 mZ.cells 0]).length]? = some ⟨63,mZ.cells,1⟩:=by rw [hHC'];exact gL _ _
  have u1:Upd (fun _=>False) H (HC++[PObj.mk 128 [sl (t::b),.bool false] 0]):=by rw [hHC'];exact (((Upd.refl H).push _).push _).push _
  have hcur:rcur (HC++[PObj.mk 128 [sl (t::b),.bool false] 0]) HC.length (some (t::b)):=⟨t::b,0,gL _ _,fun l h=>Option.some.inj h⟩
  have hqn:(H++[PObj.mk 63 mZ.cells 0]).length=H.length+1:=by simp
  have hlD:(HC++[PObj.mk 128 [sl (t::b),.bool false] 0]).length=H.length+3:=by simp [hlC]
  have hDr:(HC++[PObj.mk 128 [sl (t::b),.bool false] 0])[H.length]? = some ⟨63,mZ.cells,0⟩:=by rw [zq2 (by omega)];exact hCr
  have hDq:(HC++[PObj.mk 128 [sl (t::b),.bool false] 0])[(H++[PObj.mk 63 mZ.cells 0]).length]? = some ⟨63,mZ.cells,1⟩:=by rw [zq2 (by omega)];exact hCq
  have k0:HC.length≠H.length:=by omega
  have k9:HC.length≠(H++[PObj.mk 63 mZ.cells 0]).length:=by omega
  subst hHC
  refine cO (c53 _ t _ _ hcur (fun l h=>by cases h;exact hb)) ?_
  rintro _ H2 ⟨e,rfl,k1,k2,k3,k4⟩
  have k1:H.length+3≤e:=Nat.le_trans (Nat.le_of_eq hlD.symm) k1
  have hle:=k4.lt
  have hs0:∀l,(elemC t (some (t::b))).2=some l→l.length≤140737488355328:=fun l h=>((elemC_len (tag:=t) (fun l h=>by cases h;exact hb)).2 l h).1
  have e0:refDecV (t::b)=agM (takenRT t (elemC t (some (t::b))).2) (t::b):=rfl
  rw [e0]
  generalize (elemC t (some (t::b))).2=s at hs0 k4
  have D0:RakS 63 mZ.cells H H2 H.length e (H++[PObj.mk 63 mZ.cells 0]).length s mZ.cells 1:=by
   refine ⟨?_,?_,k4,((u1.over k2 (fun i hi h=>?_))).mono (fun i _ h=>h.elim),by omega,by omega,by omega,by omega⟩
   ·exact (k2.2 _ (Nat.lt_of_lt_of_le (show H.length<H.length+3 by omega) (Nat.le_of_eq hlD.symm)) (fun h=>k0 h.symm)).trans hDr
   ·exact (k2.2 _ (Nat.lt_of_lt_of_le (show (H++[PObj.mk 63 mZ.cells 0]).length<H.length+3 by omega) (Nat.le_of_eq hlD.symm)) (fun h=>k9 h.symm)).trans hDq
   ·have h2:i=H.length+2:=h.trans hlC
    omega
  have fin:∀{K:PH} {s':Option (List UInt8)} {cells:List PV} {ver:Nat} (D:RakS 63 mZ.cells H K H.length e (H++[PObj.mk 63 mZ.cells 0]).length s' cells ver) (o:PObj),∃ext,K.set H.length o=H++ext:=fun D o =>
   Upd.ext ((D.up.mono (Y:=fun _=>False) (fun i hi h=>by have h:i=e:=h;omega)).set (.inr (zqn _)) o)
  have hf:=takenR_fits t s
  conv=>whnf
  refine ⟨⟨by decide,by first | (simp;done) | (simp;omega)⟩,[bC t],sl_get0 t b,?_⟩
  conv=>whnf
  refine ⟨fun h1=>?_,fun h1=>?_⟩
  ·have h1:(t.toNat:Int)=106:=h1
   have et:takenRT t s=rkAs s:=by unfold takenRT;rw [zqp (by omega)]
   rw [et] at hf ⊢
   conv=>whnf
   ((conv in (_[_]?)=>tactic=>exact D0.p);(conv=>whnf))
   have E0:=D0.store ({ mZ with kind:=1 }:Msg).cells 2
   have l0:∀l,s=some l→l.length≤140737488355328:=hs0
   refine cO (c54 e _ _ E0.cur l0) ?_
   rintro _ K0 ⟨rfl,u0,g0⟩
   have F0:=E0.call u0 g0
   conv=>whnf
   ((conv in (_[_]?)=>tactic=>exact F0.p);(conv=>whnf))
   have E1:=F0.store ({ mZ with kind:=1,a1:=(princR s).2.1,a2:=(princR s).2.2 }:Msg).cells 3
   have l1:∀l,(princR s).1=some l→l.length≤140737488355328:=outR_len (elemC_len (tag:=48) l0).1
   refine cO (c54 e _ _ E1.cur l1) ?_
   rintro _ K1 ⟨rfl,u1,g1⟩
   have F1:=E1.call u1 g1
   conv=>whnf
   ((conv in (_[_]?)=>tactic=>exact F1.p);(conv=>whnf))
   have E2:=F1.store ({ mZ with kind:=1,a1:=(princR s).2.1,a2:=(princR s).2.2,a3:=(princR (princR s).1).2.1,a4:=(princR (princR s).1).2.2 }:Msg).cells 4
   have l2:∀l,(princR (princR s).1).1=some l→l.length≤140737488355328:=outR_len (elemC_len (tag:=48) l1).1
   refine cO (c55 e _ _ E2.cur l2) ?_
   rintro _ K2 ⟨rfl,u2,g2⟩
   have F2:=E2.call u2 g2
   conv=>whnf
   ((conv in (_[_]?)=>tactic=>exact F2.p);(conv=>whnf))
   have E3:=F2.store ({ mZ with kind:=1,a1:=(princR s).2.1,a2:=(princR s).2.2,a3:=(princR (princR s).1).2.1,a4:=(princR (princR s).1).2.2,aTill:=(rintC (princR (princR s).1).1).2 }:Msg).cells 5
   have l3:∀l,(rintC (princR (princR s).1).1).1=some l→l.length≤140737488355328:=rintC_len l2
   refine cO (c55 e _ _ E3.cur l3) ?_
   rintro _ K3 ⟨rfl,u3,g3⟩
   have F3:=E3.call u3 g3
   conv=>whnf
   ((conv in (_[_]?)=>tactic=>exact F3.p);(conv=>whnf))
   have E4:=F3.store ({ mZ with kind:=1,a1:=(princR s).2.1,a2:=(princR s).2.2,a3:=(princR (princR s).1).2.1,a4:=(princR (princR s).1).2.2,aTill:=(rintC (princR (princR s).1).1).2,aNonce:=(rintC (rintC (princR (princR s).1).1).1).2 }:Msg).cells 6
   ((conv in (_[_]?)=>tactic=>exact E4.p);(conv=>whnf))
   have hd:encV (rkAs s).d=encV (rkAs s):=rfl
   by_cases hq:isB (rkAs s)=true∧(laidB (rkAs s)).length≤2000
   ·refine cP ((c24 (rkAs s).d hf).of_eq (hd.trans (encV_yes hq))) ?_
    conv=>whnf
    refine ⟨fun _=>?_,fun h=>absurd rfl h⟩
    conv=>whnf
    refine ⟨laidB (rkAs s),⟨rfl,rfl⟩,?_⟩
    conv=>whnf
    refine ⟨t::b,⟨rfl,rfl⟩,?_⟩
    conv=>whnf
    refine ⟨fun h=>?_,fun h=>?_⟩
    ·have hk:okM (rkAs s) (t::b)=true:=by unfold okM;rw [hq.1,zqe hq.2,zqe (show laidB (rkAs s)=t::b from h)];rfl
     rw [agM_yes hk]
     conv=>whnf
     ((conv in (_[_]?)=>tactic=>exact E4.p);(conv=>whnf))
     ((conv in (_[_]?)=>tactic=>exact E4.z);(conv=>whnf))
     ((conv in (_[_]?)=>tactic=>exact gS E4.z);(conv=>whnf))
     exact ⟨rfl,fin E4 _⟩
    ·have hk:okM (rkAs s) (t::b)=false:=by unfold okM;rw [zqd (show ¬laidB (rkAs s)=t::b from h),zq3,zq3]
     rw [agM_no hk]
     conv=>whnf
     ((conv in (_[_]?)=>tactic=>exact E4.z);(conv=>whnf))
     ((conv in (_[_]?)=>tactic=>exact gS E4.z);(conv=>whnf))
     exact ⟨rfl,fin E4 _⟩
   ·have hk:okM (rkAs s) (t::b)=false:=by
     unfold okM
     cases h1:isB (rkAs s)
     ·rfl
     ·rw [zqd (fun h2=>hq ⟨h1,h2⟩)];rfl
    refine cP ((c24 (rkAs s).d hf).of_eq (hd.trans (encV_no hq))) ?_
    rw [agM_no hk]
    conv=>whnf
    refine ⟨fun h=>absurd h (by decide),fun _=>?_⟩
    conv=>whnf
    ((conv in (_[_]?)=>tactic=>exact E4.z);(conv=>whnf))
    ((conv in (_[_]?)=>tactic=>exact gS E4.z);(conv=>whnf))
    exact ⟨rfl,fin E4 _⟩
  conv=>whnf
  have h1:¬(t.toNat:Int)=106:=h1
  refine ⟨fun h2=>?_,fun h2=>?_⟩
  ·have h2:(t.toNat:Int)=108:=h2
   have et:takenRT t s=rkTgs s:=by unfold takenRT;rw [zqo (by omega)];rw [zqp (by omega)]
   rw [et] at hf ⊢
   conv=>whnf
   ((conv in (_[_]?)=>tactic=>exact D0.p);(conv=>whnf))
   have E0:=D0.store ({ mZ with kind:=2 }:Msg).cells 2
   have l0:∀l,s=some l→l.length≤140737488355328:=hs0
   refine cO (c56 e _ _ E0.cur l0) ?_
   rintro _ K0 ⟨rfl,u0,g0⟩
   have F0:=E0.call u0 g0
   conv=>whnf
   ((conv in (_[_]?)=>tactic=>exact F0.p);(conv=>whnf))
   have E1:=F0.store ({ mZ with kind:=2,t1:=(tickR s).2.r,t2:=(tickR s).2.n,tKv:=(tickR s).2.kv,tB:=(tickR s).2.b,tBo:=none }:Msg).cells 3
   have l1:∀l,(tickR s).1=some l→l.length≤140737488355328:=outR_len (elemC_len (tag:=97) l0).1
   refine cO (c57 e _ _ E1.cur l1) ?_
   rintro _ K1 ⟨rfl,u1,g1⟩
   have F1:=E1.call u1 g1
   conv=>whnf
   ((conv in (_[_]?)=>tactic=>exact F1.p);(conv=>whnf))
   have E2:=F1.store ({ mZ with kind:=2,t1:=(tickR s).2.r,t2:=(tickR s).2.n,tKv:=(tickR s).2.kv,tB:=(tickR s).2.b,tBo:=none,tAu:=(octC (tickR s).1).2,tAuo:=none }:Msg).cells 4
   have l2:∀l,(octC (tickR s).1).1=some l→l.length≤140737488355328:=(elemC_len (tag:=4) l1).1
   refine cO (c54 e _ _ E2.cur l2) ?_
   rintro _ K2 ⟨rfl,u2,g2⟩
   have F2:=E2.call u2 g2
   conv=>whnf
   ((conv in (_[_]?)=>tactic=>exact F2.p);(conv=>whnf))
   have E3:=F2.store ({ mZ with kind:=2,t1:=(tickR s).2.r,t2:=(tickR s).2.n,tKv:=(tickR s).2.kv,tB:=(tickR s).2.b,tBo:=none,tAu:=(octC (tickR s).1).2,tAuo:=none,t3:=(princR (octC (tickR s).1).1).2.1,t4:=(princR (octC (tickR s).1).1).2.2 }:Msg).cells 5
   have l3:∀l,(princR (octC (tickR s).1).1).1=some l→l.length≤140737488355328:=outR_len (elemC_len (tag:=48) l2).1
   refine cO (c55 e _ _ E3.cur l3) ?_
   rintro _ K3 ⟨rfl,u3,g3⟩
   have F3:=E3.call u3 g3
   conv=>whnf
   ((conv in (_[_]?)=>tactic=>exact F3.p);(conv=>whnf))
   have E4:=F3.store ({ mZ with kind:=2,t1:=(tickR s).2.r,t2:=(tickR s).2.n,tKv:=(tickR s).2.kv,tB:=(tickR s).2.b,tBo:=none,tAu:=(octC (tickR s).1).2,tAuo:=none,t3:=(princR (octC (tickR s).1).1).2.1,t4:=(princR (octC (tickR s).1).1).2.2,tTill:=(rintC (princR (octC (tickR s).1).1).1).2 }:Msg).cells 6
   have l4:∀l,(rintC (princR (octC (tickR s).1).1).1).1=some l→l.length≤140737488355328:=rintC_len l3
   refine cO (c55 e _ _ E4.cur l4) ?_
   rintro _ K4 ⟨rfl,u4,g4⟩
   have F4:=E4.call u4 g4
   conv=>whnf
   ((conv in (_[_]?)=>tactic=>exact F4.p);(conv=>whnf))
   have E5:=F4.store ({ mZ with kind:=2,t1:=(tickR s).2.r,t2:=(tickR s).2.n,tKv:=(tickR s).2.kv,tB:=(tickR s).2.b,tBo:=none,tAu:=(octC (tickR s).1).2,tAuo:=none,t3:=(princR (octC (tickR s).1).1).2.1,t4:=(princR (octC (tickR s).1).1).2.2,tTill:=(rintC (princR (octC (tickR s).1).1).1).2,tNonce:=(rintC (rintC (princR (octC (tickR s).1).1).1).1).2 }:Msg).cells 7
   ((conv in (_[_]?)=>tactic=>exact E5.p);(conv=>whnf))
   have hd:encV (rkTgs s).d=encV (rkTgs s):=rfl
   by_cases hq:isB (rkTgs s)=true∧(laidB (rkTgs s)).length≤2000
   ·refine cP ((c24 (rkTgs s).d hf).of_eq (hd.trans (encV_yes hq))) ?_
    conv=>whnf
    refine ⟨fun _=>?_,fun h=>absurd rfl h⟩
    conv=>whnf
    refine ⟨laidB (rkTgs s),⟨rfl,rfl⟩,?_⟩
    conv=>whnf
    refine ⟨t::b,⟨rfl,rfl⟩,?_⟩
    conv=>whnf
    refine ⟨fun h=>?_,fun h=>?_⟩
    ·have hk:okM (rkTgs s) (t::b)=true:=by unfold okM;rw [hq.1,zqe hq.2,zqe (show laidB (rkTgs s)=t::b from h)];rfl
     rw [agM_yes hk]
     conv=>whnf
     ((conv in (_[_]?)=>tactic=>exact E5.p);(conv=>whnf))
     ((conv in (_[_]?)=>tactic=>exact E5.z);(conv=>whnf))
     ((conv in (_[_]?)=>tactic=>exact gS E5.z);(conv=>whnf))
     exact ⟨rfl,fin E5 _⟩
    ·have hk:okM (rkTgs s) (t::b)=false:=by unfold okM;rw [zqd (show ¬laidB (rkTgs s)=t::b from h),zq3,zq3]
     rw [agM_no hk]
     conv=>whnf
     ((conv in (_[_]?)=>tactic=>exact E5.z);(conv=>whnf))
     ((conv in (_[_]?)=>tactic=>exact gS E5.z);(conv=>whnf))
     exact ⟨rfl,fin E5 _⟩
   ·have hk:okM (rkTgs s) (t::b)=false:=by
     unfold okM
     cases h1:isB (rkTgs s)
     ·rfl
     ·rw [zqd (fun h2=>hq ⟨h1,h2⟩)];rfl
    refine cP ((c24 (rkTgs s).d hf).of_eq (hd.trans (encV_no hq))) ?_
    rw [agM_no hk]
    conv=>whnf
    refine ⟨fun h=>absurd h (by decide),fun _=>?_⟩
    conv=>whnf
    ((conv in (_[_]?)=>tactic=>exact E5.z);(conv=>whnf))
    ((conv in (_[_]?)=>tactic=>exact gS E5.z);(conv=>whnf))
    exact ⟨rfl,fin E5 _⟩
  conv=>whnf
  have h2:¬(t.toNat:Int)=108:=h2
  refine ⟨fun h3=>?_,fun h3=>?_⟩
  ·have h3:(t.toNat:Int)=107:=h3
   have et:takenRT t s=rkRep s:=by unfold takenRT;rw [zqo (by omega)];rw [zqo (by omega)];rw [zqp (by omega)]
   rw [et] at hf ⊢
   conv=>whnf
   ((conv in (_[_]?)=>tactic=>exact D0.p);(conv=>whnf))
   have E0:=D0.store ({ mZ with kind:=3 }:Msg).cells 2
   have l0:∀l,s=some l→l.length≤140737488355328:=hs0
   refine cO (c54 e _ _ E0.cur l0) ?_
   rintro _ K0 ⟨rfl,u0,g0⟩
   have F0:=E0.call u0 g0
   conv=>whnf
   ((conv in (_[_]?)=>tactic=>exact F0.p);(conv=>whnf))
   have E1:=F0.store ({ mZ with kind:=3,r1:=(princR s).2.1,r2:=(princR s).2.2 }:Msg).cells 3
   have l1:∀l,(princR s).1=some l→l.length≤140737488355328:=outR_len (elemC_len (tag:=48) l0).1
   refine cO (c56 e _ _ E1.cur l1) ?_
   rintro _ K1 ⟨rfl,u1,g1⟩
   have F1:=E1.call u1 g1
   conv=>whnf
   ((conv in (_[_]?)=>tactic=>exact F1.p);(conv=>whnf))
   have E2:=F1.store ({ mZ with kind:=3,r1:=(princR s).2.1,r2:=(princR s).2.2,r3:=(tickR (princR s).1).2.r,r4:=(tickR (princR s).1).2.n,rKv:=(tickR (princR s).1).2.kv,rB:=(tickR (princR s).1).2.b,rBo:=none }:Msg).cells 4
   have l2:∀l,(tickR (princR s).1).1=some l→l.length≤140737488355328:=outR_len (elemC_len (tag:=97) l1).1
   refine cO (c57 e _ _ E2.cur l2) ?_
   rintro _ K2 ⟨rfl,u2,g2⟩
   have F2:=E2.call u2 g2
   conv=>whnf
   ((conv in (_[_]?)=>tactic=>exact F2.p);(conv=>whnf))
   have E3:=F2.store ({ mZ with kind:=3,r1:=(princR s).2.1,r2:=(princR s).2.2,r3:=(tickR (princR s).1).2.r,r4:=(tickR (princR s).1).2.n,rKv:=(tickR (princR s).1).2.kv,rB:=(tickR (princR s).1).2.b,rBo:=none,rBl:=(octC (tickR (princR s).1).1).2,rBlo:=none }:Msg).cells 5
   ((conv in (_[_]?)=>tactic=>exact E3.p);(conv=>whnf))
   have hd:encV (rkRep s).d=encV (rkRep s):=rfl
   by_cases hq:isB (rkRep s)=true∧(laidB (rkRep s)).length≤2000
   ·refine cP ((c24 (rkRep s).d hf).of_eq (hd.trans (encV_yes hq))) ?_
    conv=>whnf
    refine ⟨fun _=>?_,fun h=>absurd rfl h⟩
    conv=>whnf
    refine ⟨laidB (rkRep s),⟨rfl,rfl⟩,?_⟩
    conv=>whnf
    refine ⟨t::b,⟨rfl,rfl⟩,?_⟩
    conv=>whnf
    refine ⟨fun h=>?_,fun h=>?_⟩
    ·have hk:okM (rkRep s) (t::b)=true:=by unfold okM;rw [hq.1,zqe hq.2,zqe (show laidB (rkRep s)=t::b from h)];rfl
     rw [agM_yes hk]
     conv=>whnf
     ((conv in (_[_]?)=>tactic=>exact E3.p);(conv=>whnf))
     ((conv in (_[_]?)=>tactic=>exact E3.z);(conv=>whnf))
     ((conv in (_[_]?)=>tactic=>exact gS E3.z);(conv=>whnf))
     exact ⟨rfl,fin E3 _⟩
    ·have hk:okM (rkRep s) (t::b)=false:=by unfold okM;rw [zqd (show ¬laidB (rkRep s)=t::b from h),zq3,zq3]
     rw [agM_no hk]
     conv=>whnf
     ((conv in (_[_]?)=>tactic=>exact E3.z);(conv=>whnf))
     ((conv in (_[_]?)=>tactic=>exact gS E3.z);(conv=>whnf))
     exact ⟨rfl,fin E3 _⟩
   ·have hk:okM (rkRep s) (t::b)=false:=by
     unfold okM
     cases h1:isB (rkRep s)
     ·rfl
     ·rw [zqd (fun h2=>hq ⟨h1,h2⟩)];rfl
    refine cP ((c24 (rkRep s).d hf).of_eq (hd.trans (encV_no hq))) ?_
    rw [agM_no hk]
    conv=>whnf
    refine ⟨fun h=>absurd h (by decide),fun _=>?_⟩
    conv=>whnf
    ((conv in (_[_]?)=>tactic=>exact E3.z);(conv=>whnf))
    ((conv in (_[_]?)=>tactic=>exact gS E3.z);(conv=>whnf))
    exact ⟨rfl,fin E3 _⟩
  conv=>whnf
  have h3:¬(t.toNat:Int)=107:=h3
  refine ⟨fun h4=>?_,fun h4=>?_⟩
  ·have h4:(t.toNat:Int)=110:=h4
   have et:takenRT t s=rkAp s:=by unfold takenRT;rw [zqo (by omega)];rw [zqo (by omega)];rw [zqo (by omega)];rw [zqp (by omega)]
   rw [et] at hf ⊢
   conv=>whnf
   ((conv in (_[_]?)=>tactic=>exact D0.p);(conv=>whnf))
   have E0:=D0.store ({ mZ with kind:=4 }:Msg).cells 2
   have l0:∀l,s=some l→l.length≤140737488355328:=hs0
   refine cO (c56 e _ _ E0.cur l0) ?_
   rintro _ K0 ⟨rfl,u0,g0⟩
   have F0:=E0.call u0 g0
   conv=>whnf
   ((conv in (_[_]?)=>tactic=>exact F0.p);(conv=>whnf))
   have E1:=F0.store ({ mZ with kind:=4,p1:=(tickR s).2.r,p2:=(tickR s).2.n,pKv:=(tickR s).2.kv,pB:=(tickR s).2.b,pBo:=none }:Msg).cells 3
   have l1:∀l,(tickR s).1=some l→l.length≤140737488355328:=outR_len (elemC_len (tag:=97) l0).1
   refine cO (c57 e _ _ E1.cur l1) ?_
   rintro _ K1 ⟨rfl,u1,g1⟩
   have F1:=E1.call u1 g1
   conv=>whnf
   ((conv in (_[_]?)=>tactic=>exact F1.p);(conv=>whnf))
   have E2:=F1.store ({ mZ with kind:=4,p1:=(tickR s).2.r,p2:=(tickR s).2.n,pKv:=(tickR s).2.kv,pB:=(tickR s).2.b,pBo:=none,pAu:=(octC (tickR s).1).2,pAuo:=none }:Msg).cells 4
   ((conv in (_[_]?)=>tactic=>exact E2.p);(conv=>whnf))
   have hd:encV (rkAp s).d=encV (rkAp s):=rfl
   by_cases hq:isB (rkAp s)=true∧(laidB (rkAp s)).length≤2000
   ·refine cP ((c24 (rkAp s).d hf).of_eq (hd.trans (encV_yes hq))) ?_
    conv=>whnf
    refine ⟨fun _=>?_,fun h=>absurd rfl h⟩
    conv=>whnf
    refine ⟨laidB (rkAp s),⟨rfl,rfl⟩,?_⟩
    conv=>whnf
    refine ⟨t::b,⟨rfl,rfl⟩,?_⟩
    conv=>whnf
    refine ⟨fun h=>?_,fun h=>?_⟩
    ·have hk:okM (rkAp s) (t::b)=true:=by unfold okM;rw [hq.1,zqe hq.2,zqe (show laidB (rkAp s)=t::b from h)];rfl
     rw [agM_yes hk]
     conv=>whnf
     ((conv in (_[_]?)=>tactic=>exact E2.p);(conv=>whnf))
     ((conv in (_[_]?)=>tactic=>exact E2.z);(conv=>whnf))
     ((conv in (_[_]?)=>tactic=>exact gS E2.z);(conv=>whnf))
     exact ⟨rfl,fin E2 _⟩
    ·have hk:okM (rkAp s) (t::b)=false:=by unfold okM;rw [zqd (show ¬laidB (rkAp s)=t::b from h),zq3,zq3]
     rw [agM_no hk]
     conv=>whnf
     ((conv in (_[_]?)=>tactic=>exact E2.z);(conv=>whnf))
     ((conv in (_[_]?)=>tactic=>exact gS E2.z);(conv=>whnf))
     exact ⟨rfl,fin E2 _⟩
   ·have hk:okM (rkAp s) (t::b)=false:=by
     unfold okM
     cases h1:isB (rkAp s)
     ·rfl
     ·rw [zqd (fun h2=>hq ⟨h1,h2⟩)];rfl
    refine cP ((c24 (rkAp s).d hf).of_eq (hd.trans (encV_no hq))) ?_
    rw [agM_no hk]
    conv=>whnf
    refine ⟨fun h=>absurd h (by decide),fun _=>?_⟩
    conv=>whnf
    ((conv in (_[_]?)=>tactic=>exact E2.z);(conv=>whnf))
    ((conv in (_[_]?)=>tactic=>exact gS E2.z);(conv=>whnf))
    exact ⟨rfl,fin E2 _⟩
  conv=>whnf
  have h4:¬(t.toNat:Int)=110:=h4
  refine ⟨fun h5=>?_,fun h5=>?_⟩
  ·have h5:(t.toNat:Int)=126:=h5
   have et:takenRT t s=rkFail s:=by unfold takenRT;rw [zqo (by omega)];rw [zqo (by omega)];rw [zqo (by omega)];rw [zqo (by omega)];rw [zqp (by omega)]
   rw [et] at hf ⊢
   conv=>whnf
   ((conv in (_[_]?)=>tactic=>exact D0.p);(conv=>whnf))
   have E0:=D0.store ({ mZ with kind:=5 }:Msg).cells 2
   have l0:∀l,s=some l→l.length≤140737488355328:=hs0
   refine cO (c55 e _ _ E0.cur l0) ?_
   rintro _ K0 ⟨rfl,u0,g0⟩
   have F0:=E0.call u0 g0
   conv=>whnf
   ((conv in (_[_]?)=>tactic=>exact F0.p);(conv=>whnf))
   have E1:=F0.store ({ mZ with kind:=5,fErr:=(rintC s).2 }:Msg).cells 3
   have l1:∀l,(rintC s).1=some l→l.length≤140737488355328:=rintC_len l0
   refine cO (c55 e _ _ E1.cur l1) ?_
   rintro _ K1 ⟨rfl,u1,g1⟩
   have F1:=E1.call u1 g1
   conv=>whnf
   ((conv in (_[_]?)=>tactic=>exact F1.p);(conv=>whnf))
   have E2:=F1.store ({ mZ with kind:=5,fErr:=(rintC s).2,fNonce:=(rintC (rintC s).1).2 }:Msg).cells 4
   ((conv in (_[_]?)=>tactic=>exact E2.p);(conv=>whnf))
   have hd:encV (rkFail s).d=encV (rkFail s):=rfl
   by_cases hq:isB (rkFail s)=true∧(laidB (rkFail s)).length≤2000
   ·refine cP ((c24 (rkFail s).d hf).of_eq (hd.trans (encV_yes hq))) ?_
    conv=>whnf
    refine ⟨fun _=>?_,fun h=>absurd rfl h⟩
    conv=>whnf
    refine ⟨laidB (rkFail s),⟨rfl,rfl⟩,?_⟩
    conv=>whnf
    refine ⟨t::b,⟨rfl,rfl⟩,?_⟩
    conv=>whnf
    refine ⟨fun h=>?_,fun h=>?_⟩
    ·have hk:okM (rkFail s) (t::b)=true:=by unfold okM;rw [hq.1,zqe hq.2,zqe (show laidB (rkFail s)=t::b from h)];rfl
     rw [agM_yes hk]
     conv=>whnf
     ((conv in (_[_]?)=>tactic=>exact E2.p);(conv=>whnf))
     ((conv in (_[_]?)=>tactic=>exact E2.z);(conv=>whnf))
     ((conv in (_[_]?)=>tactic=>exact gS E2.z);(conv=>whnf))
     exact ⟨rfl,fin E2 _⟩
    ·have hk:okM (rkFail s) (t::b)=false:=by unfold okM;rw [zqd (show ¬laidB (rkFail s)=t::b from h),zq3,zq3]
     rw [agM_no hk]
     conv=>whnf
     ((conv in (_[_]?)=>tactic=>exact E2.z);(conv=>whnf))
     ((conv in (_[_]?)=>tactic=>exact gS E2.z);(conv=>whnf))
     exact ⟨rfl,fin E2 _⟩
   ·have hk:okM (rkFail s) (t::b)=false:=by
     unfold okM
     cases h1:isB (rkFail s)
     ·rfl
     ·rw [zqd (fun h2=>hq ⟨h1,h2⟩)];rfl
    refine cP ((c24 (rkFail s).d hf).of_eq (hd.trans (encV_no hq))) ?_
    rw [agM_no hk]
    conv=>whnf
    refine ⟨fun h=>absurd h (by decide),fun _=>?_⟩
    conv=>whnf
    ((conv in (_[_]?)=>tactic=>exact E2.z);(conv=>whnf))
    ((conv in (_[_]?)=>tactic=>exact gS E2.z);(conv=>whnf))
    exact ⟨rfl,fin E2 _⟩
  conv=>whnf
  have h5:¬(t.toNat:Int)=126:=h5
  have et:takenRT t s=mZ:=by unfold takenRT;rw [zqo (by omega),zqo (by omega),zqo (by omega),zqo (by omega),zqo (by omega)]
  rw [et,agM_no (okM_mZ _)]
  ((conv in (_[_]?)=>tactic=>exact D0.p);(conv=>whnf))
  ((conv in (_[_]?)=>tactic=>exact D0.z);(conv=>whnf))
  ((conv in (_[_]?)=>tactic=>exact gS D0.z);(conv=>whnf))
  exact ⟨rfl,fin D0 _⟩
theorem c22 (b:List UInt8) (hb:b.length≤140737488355328):Pure prog 22 [sl b] (refDecV b):=Pure.of_gc (agM_old _ b) (c22x b hb)
theorem princR_wrap (r n rest:List UInt8) (hr:r.length≤1000) (hn:n.length≤1000):princR (some (princE r n++rest))=(some rest,(r,n)):=by
 have h1:=wrapB_len 27 r
 have h2:=wrapB_len 27 n
 unfold princR princE
 rw [elemC_wrap 48 _ rest (by simp only [zqk,zql,zqf,List.length_nil];omega)]
 simp only [zqk,zql]
 rw [txtC_wrap r _ (by omega)]
 simp only
 rw [txtC_wrap n [] (by omega)]
 rfl
theorem tickR_wrap (r n:List UInt8) (kv:Int) (b rest:List UInt8) (hr:r.length≤1000) (hn:n.length≤1000) (h0:0≤kv) (h1:kv≤4611686018427387904) (hb:b.length≤10000) :
  tickR (some (ticketE r n kv b++rest))=(some rest,⟨r,n,kv,b⟩):=by
 have k1:=princE_len r n
 have k2:=intE_len kv
 have k3:=wrapB_len 4 b
 unfold tickR ticketE
 rw [elemC_wrap 97 _ rest (by simp only [zqk,zql,zqf,List.length_nil];omega)]
 simp only [zqk,zql]
 unfold tickRD
 rw [princR_wrap r n _ hr hn]
 simp only
 rw [rintC_wrap kv h0 h1]
 simp only
 rw [octC_wrap b [] (by omega)]
 rfl
theorem takenR_wrap (t:UInt8) (x:List UInt8) (hx:x.length≤65535):takenR (wrapB t x)=takenRT t (some x):=by
 have e:=elemC_wrap t x [] hx
 rw [List.append_nil] at e
 show takenRT t (elemC t (some (wrapB t x))).2=_
 rw [e]
theorem takenR_laid (m:Msg) (h:isB m=true):(takenR (laidB m)).d=m.d:=by
 obtain ⟨o1,o2,o3,o4,o5⟩:=others_z (isB_kind h)
 have hm:=(zqb _ _▸h:_∧_).1
 by_cases h1:m.kind=1
 ·skip
  rw [zqp h1] at hm
  simp only [zqb] at hm
  have g1:=princ_len hm.1.1.1
  have g2:=princ_len hm.1.1.2
  have g3:=inZ_le hm.1.2
  have g4:=inZ_le hm.2
  have e0:=princE_len m.a1 m.a2
  have e1:=princE_len m.a3 m.a4
  have e2:=intE_len m.aTill
  have e3:=intE_len m.aNonce
  have hl:laidB m=wrapB 106 [princE m.a1 m.a2,princE m.a3 m.a4,intE m.aTill,intE m.aNonce].flatten:=by unfold laidB;rw [zqp h1]
  rw [hl,takenR_wrap _ _ (by simp only [zqk,zql,zqf,List.length_nil];omega)]
  show (rkAs (some [princE m.a1 m.a2,princE m.a3 m.a4,intE m.aTill,intE m.aNonce].flatten)).d=_
  simp only [zqk,zql]
  unfold rkAs
  have w0:=princR_wrap m.a1 m.a2 (princE m.a3 m.a4++(intE m.aTill++(intE m.aNonce++[]))) (by omega) (by omega)
  have w1:=princR_wrap m.a3 m.a4 (intE m.aTill++(intE m.aNonce++[])) (by omega) (by omega)
  have w2:=rintC_wrap m.aTill (by omega) (by omega) (intE m.aNonce++[])
  have w3:=rintC_wrap m.aNonce (by omega) (by omega) []
  simp only [w0,w1,w2,w3]
  have z2:=noTgs_z (o2 (by omega))
  have z3:=noRep_z (o3 (by omega))
  have z4:=noAp_z (o4 (by omega))
  have z5:=noFail_z (o5 (by omega))
  clear o1 o2 o3 o4 o5 hl hm h w0
  obtain ⟨kind,a1,a2,a3,a4,aTill,aNonce,t1,t2,tKv,tB,tBo,tAu,tAuo,t3,t4,tTill,tNonce,r1,r2,r3,r4,rKv,rB,rBo,rBl,rBlo,p1,p2,pKv,pB,pBo,pAu,pAuo,fErr,fNonce⟩:=m
  obtain ⟨y2_0,y2_1,y2_2,y2_3,y2_4,y2_5,y2_6,y2_7,y2_8⟩:=z2
  obtain ⟨y3_0,y3_1,y3_2,y3_3,y3_4,y3_5,y3_6⟩:=z3
  obtain ⟨y4_0,y4_1,y4_2,y4_3,y4_4⟩:=z4
  obtain ⟨y5_0,y5_1⟩:=z5
  simp only at *
  subst h1 y2_0 y2_1 y2_2 y2_3 y2_4 y2_5 y2_6 y2_7 y2_8 y3_0 y3_1 y3_2 y3_3 y3_4 y3_5 y3_6 y4_0 y4_1 y4_2 y4_3 y4_4 y5_0 y5_1
  rfl
 by_cases h2:m.kind=2
 ·skip
  rw [zqo h1] at hm
  rw [zqp h2] at hm
  simp only [zqb] at hm
  have g1:=tick_len hm.1.1.1.1
  have gk:=tick_kv hm.1.1.1.1
  have g2:=inZ_le hm.1.1.1.2
  have g3:=princ_len hm.1.1.2
  have g4:=inZ_le hm.1.2
  have g5:=inZ_le hm.2
  have e0:=ticketE_len m.t1 m.t2 m.tKv m.tB
  have e1:=wrapB_len 4 m.tAu
  have e2:=princE_len m.t3 m.t4
  have e3:=intE_len m.tTill
  have e4:=intE_len m.tNonce
  have hl:laidB m=wrapB 108 [ticketE m.t1 m.t2 m.tKv m.tB,wrapB 4 m.tAu,princE m.t3 m.t4,intE m.tTill,intE m.tNonce].flatten:=by unfold laidB;rw [zqo h1];rw [zqp h2]
  rw [hl,takenR_wrap _ _ (by simp only [zqk,zql,zqf,List.length_nil];omega)]
  show (rkTgs (some [ticketE m.t1 m.t2 m.tKv m.tB,wrapB 4 m.tAu,princE m.t3 m.t4,intE m.tTill,intE m.tNonce].flatten)).d=_
  simp only [zqk,zql]
  unfold rkTgs
  have w0:=tickR_wrap m.t1 m.t2 m.tKv m.tB (wrapB 4 m.tAu++(princE m.t3 m.t4++(intE m.tTill++(intE m.tNonce++[])))) (by omega) (by omega) (by omega) (by omega) (by omega)
  have w1:=octC_wrap m.tAu (princE m.t3 m.t4++(intE m.tTill++(intE m.tNonce++[]))) (by omega)
  have w2:=princR_wrap m.t3 m.t4 (intE m.tTill++(intE m.tNonce++[])) (by omega) (by omega)
  have w3:=rintC_wrap m.tTill (by omega) (by omega) (intE m.tNonce++[])
  have w4:=rintC_wrap m.tNonce (by omega) (by omega) []
  simp only [w0,w1,w2,w3,w4]
  have z1:=noAs_z (o1 (by omega))
  have z3:=noRep_z (o3 (by omega))
  have z4:=noAp_z (o4 (by omega))
  have z5:=noFail_z (o5 (by omega))
  clear o1 o2 o3 o4 o5 hl hm h w0
  obtain ⟨kind,a1,a2,a3,a4,aTill,aNonce,t1,t2,tKv,tB,tBo,tAu,tAuo,t3,t4,tTill,tNonce,r1,r2,r3,r4,rKv,rB,rBo,rBl,rBlo,p1,p2,pKv,pB,pBo,pAu,pAuo,fErr,fNonce⟩:=m
  obtain ⟨y1_0,y1_1,y1_2,y1_3,y1_4,y1_5⟩:=z1
  obtain ⟨y3_0,y3_1,y3_2,y3_3,y3_4,y3_5,y3_6⟩:=z3
  obtain ⟨y4_0,y4_1,y4_2,y4_3,y4_4⟩:=z4
  obtain ⟨y5_0,y5_1⟩:=z5
  simp only at *
  subst h2 y1_0 y1_1 y1_2 y1_3 y1_4 y1_5 y3_0 y3_1 y3_2 y3_3 y3_4 y3_5 y3_6 y4_0 y4_1 y4_2 y4_3 y4_4 y5_0 y5_1
  rfl
 by_cases h3:m.kind=3
 ·skip
  rw [zqo h1] at hm
  rw [zqo h2] at hm
  rw [zqp h3] at hm
  simp only [zqb] at hm
  have g1:=princ_len hm.1.1
  have g2:=tick_len hm.1.2
  have gk:=tick_kv hm.1.2
  have g3:=inZ_le hm.2
  have e0:=princE_len m.r1 m.r2
  have e1:=ticketE_len m.r3 m.r4 m.rKv m.rB
  have e2:=wrapB_len 4 m.rBl
  have hl:laidB m=wrapB 107 [princE m.r1 m.r2,ticketE m.r3 m.r4 m.rKv m.rB,wrapB 4 m.rBl].flatten:=by unfold laidB;rw [zqo h1];rw [zqo h2];rw [zqp h3]
  rw [hl,takenR_wrap _ _ (by simp only [zqk,zql,zqf,List.length_nil];omega)]
  show (rkRep (some [princE m.r1 m.r2,ticketE m.r3 m.r4 m.rKv m.rB,wrapB 4 m.rBl].flatten)).d=_
  simp only [zqk,zql]
  unfold rkRep
  have w0:=princR_wrap m.r1 m.r2 (ticketE m.r3 m.r4 m.rKv m.rB++(wrapB 4 m.rBl++[])) (by omega) (by omega)
  have w1:=tickR_wrap m.r3 m.r4 m.rKv m.rB (wrapB 4 m.rBl++[]) (by omega) (by omega) (by omega) (by omega) (by omega)
  have w2:=octC_wrap m.rBl [] (by omega)
  simp only [w0,w1,w2]
  have z1:=noAs_z (o1 (by omega))
  have z2:=noTgs_z (o2 (by omega))
  have z4:=noAp_z (o4 (by omega))
  have z5:=noFail_z (o5 (by omega))
  clear o1 o2 o3 o4 o5 hl hm h w0
  obtain ⟨kind,a1,a2,a3,a4,aTill,aNonce,t1,t2,tKv,tB,tBo,tAu,tAuo,t3,t4,tTill,tNonce,r1,r2,r3,r4,rKv,rB,rBo,rBl,rBlo,p1,p2,pKv,pB,pBo,pAu,pAuo,fErr,fNonce⟩:=m
  obtain ⟨y1_0,y1_1,y1_2,y1_3,y1_4,y1_5⟩:=z1
  obtain ⟨y2_0,y2_1,y2_2,y2_3,y2_4,y2_5,y2_6,y2_7,y2_8⟩:=z2
  obtain ⟨y4_0,y4_1,y4_2,y4_3,y4_4⟩:=z4
  obtain ⟨y5_0,y5_1⟩:=z5
  simp only at *
  subst h3 y1_0 y1_1 y1_2 y1_3 y1_4 y1_5 y2_0 y2_1 y2_2 y2_3 y2_4 y2_5 y2_6 y2_7 y2_8 y4_0 y4_1 y4_2 y4_3 y4_4 y5_0 y5_1
  rfl
 by_cases h4:m.kind=4
 ·skip
  rw [zqo h1] at hm
  rw [zqo h2] at hm
  rw [zqo h3] at hm
  rw [zqp h4] at hm
  simp only [zqb] at hm
  have g1:=tick_len hm.1
  have gk:=tick_kv hm.1
  have g2:=inZ_le hm.2
  have e0:=ticketE_len m.p1 m.p2 m.pKv m.pB
  have e1:=wrapB_len 4 m.pAu
  have hl:laidB m=wrapB 110 [ticketE m.p1 m.p2 m.pKv m.pB,wrapB 4 m.pAu].flatten:=by unfold laidB;rw [zqo h1];rw [zqo h2];rw [zqo h3];rw [zqp h4]
  rw [hl,takenR_wrap _ _ (by simp only [zqk,zql,zqf,List.length_nil];omega)]
  show (rkAp (some [ticketE m.p1 m.p2 m.pKv m.pB,wrapB 4 m.pAu].flatten)).d=_
  simp only [zqk,zql]
  unfold rkAp
  have w0:=tickR_wrap m.p1 m.p2 m.pKv m.pB (wrapB 4 m.pAu++[]) (by omega) (by omega) (by omega) (by omega) (by omega)
  have w1:=octC_wrap m.pAu [] (by omega)
  simp only [w0,w1]
  have z1:=noAs_z (o1 (by omega))
  have z2:=noTgs_z (o2 (by omega))
  have z3:=noRep_z (o3 (by omega))
  have z5:=noFail_z (o5 (by omega))
  clear o1 o2 o3 o4 o5 hl hm h w0
  obtain ⟨kind,a1,a2,a3,a4,aTill,aNonce,t1,t2,tKv,tB,tBo,tAu,tAuo,t3,t4,tTill,tNonce,r1,r2,r3,r4,rKv,rB,rBo,rBl,rBlo,p1,p2,pKv,pB,pBo,pAu,pAuo,fErr,fNonce⟩:=m
  obtain ⟨y1_0,y1_1,y1_2,y1_3,y1_4,y1_5⟩:=z1
  obtain ⟨y2_0,y2_1,y2_2,y2_3,y2_4,y2_5,y2_6,y2_7,y2_8⟩:=z2
  obtain ⟨y3_0,y3_1,y3_2,y3_3,y3_4,y3_5,y3_6⟩:=z3
  obtain ⟨y5_0,y5_1⟩:=z5
  simp only at *
  subst h4 y1_0 y1_1 y1_2 y1_3 y1_4 y1_5 y2_0 y2_1 y2_2 y2_3 y2_4 y2_5 y2_6 y2_7 y2_8 y3_0 y3_1 y3_2 y3_3 y3_4 y3_5 y3_6 y5_0 y5_1
  rfl
 by_cases h5:m.kind=5
 ·skip
  rw [zqo h1] at hm
  rw [zqo h2] at hm
  rw [zqo h3] at hm
  rw [zqo h4] at hm
  rw [zqp h5] at hm
  simp only [zqb] at hm
  have g1:=inZ_le hm.1
  have g2:=inZ_le hm.2
  have e0:=intE_len m.fErr
  have e1:=intE_len m.fNonce
  have hl:laidB m=wrapB 126 [intE m.fErr,intE m.fNonce].flatten:=by unfold laidB;rw [zqo h1,zqo h2,zqo h3,zqo h4]
  rw [hl,takenR_wrap _ _ (by simp only [zqk,zql,zqf,List.length_nil];omega)]
  show (rkFail (some [intE m.fErr,intE m.fNonce].flatten)).d=_
  simp only [zqk,zql]
  unfold rkFail
  have w0:=rintC_wrap m.fErr (by omega) (by omega) (intE m.fNonce++[])
  have w1:=rintC_wrap m.fNonce (by omega) (by omega) []
  simp only [w0,w1]
  have z1:=noAs_z (o1 (by omega))
  have z2:=noTgs_z (o2 (by omega))
  have z3:=noRep_z (o3 (by omega))
  have z4:=noAp_z (o4 (by omega))
  clear o1 o2 o3 o4 o5 hl hm h w0
  obtain ⟨kind,a1,a2,a3,a4,aTill,aNonce,t1,t2,tKv,tB,tBo,tAu,tAuo,t3,t4,tTill,tNonce,r1,r2,r3,r4,rKv,rB,rBo,rBl,rBlo,p1,p2,pKv,pB,pBo,pAu,pAuo,fErr,fNonce⟩:=m
  obtain ⟨y1_0,y1_1,y1_2,y1_3,y1_4,y1_5⟩:=z1
  obtain ⟨y2_0,y2_1,y2_2,y2_3,y2_4,y2_5,y2_6,y2_7,y2_8⟩:=z2
  obtain ⟨y3_0,y3_1,y3_2,y3_3,y3_4,y3_5,y3_6⟩:=z3
  obtain ⟨y4_0,y4_1,y4_2,y4_3,y4_4⟩:=z4
  simp only at *
  subst h5 y1_0 y1_1 y1_2 y1_3 y1_4 y1_5 y2_0 y2_1 y2_2 y2_3 y2_4 y2_5 y2_6 y2_7 y2_8 y3_0 y3_1 y3_2 y3_3 y3_4 y3_5 y3_6 y4_0 y4_1 y4_2 y4_3 y4_4
  rfl
 rw [zqo h1,zqo h2,zqo h3,zqo h4,zqo h5] at hm
 cases hm
theorem okM_iff {m:Msg} {b:List UInt8}:okM m b=true↔isB m=true∧(laidB m).length≤2000∧laidB m=b:=by
 unfold okM
 rw [zqb,zqb,decide_eq_true_eq,decide_eq_true_eq]
theorem okM_d {m m':Msg} {b:List UInt8} (h:m.d=m'.d):okM m b=okM m' b:=by
 unfold okM
 rw [d_is h,d_laid h]
theorem refDec_eq (b:List UInt8):refDecV b=decV b:=by
 unfold refDecV decV
 cases h1:okM (takenR b) b
 ·cases h2:okM (takenB b) b
  ·rw [agM_no h1,agM_no h2]
  ·exfalso
   obtain ⟨k1,k2,k3⟩:=okM_iff.1 h2
   have e:=takenR_laid _ k1
   rw [k3] at e
   rw [okM_d e,h2] at h1
   cases h1
 ·obtain ⟨k1,k2,k3⟩:=okM_iff.1 h1
  have e:=taken_laid _ k1
  rw [k3] at e
  have h2:okM (takenB b) b=true:=by rw [okM_d e,h1]
  rw [agM_yes h1,agM_yes h2,e]
def ttQ:TT:=[(3,⟨.int .i64,1,8,[.int .i64 0]⟩),(4,⟨.bool,1,1,[.bool false]⟩),(5,⟨.int .u8,1,1,[.int .u8 0]⟩),(9,⟨.str,1,16,[.str []]⟩),(25,⟨.slice 5,1,24,[.slice 0 [] (some 5)]⟩),(36,⟨.strct [(9,0),(9,1)],2,32,[.str [],.str []]⟩),(26,⟨.int .i64,1,8,[.int .i64 0]⟩),(31,⟨.arr 32 5,32,32,List.replicate 32 (.int .u8 0)⟩),(33,⟨.strct [(28,0),(29,1),(3,2),(31,3),(3,35)],36,64,[.ptr none,.ptr none,.int .i64 0]++List.replicate 32 (.int .u8 0)++[.int .i64 0]⟩),(73,⟨.strct [(36,0),(3,2),(3,3)],4,48,[.str [],.str [],.int .i64 0,.int .i64 0]⟩),(54,⟨.strct [(53,0),(25,4),(36,5),(3,7),(3,8)],9,136,[.str [],.str [],.int .i64 0,.slice 0 [] (some 5),.slice 0 [] (some 5),.str [],.str [],.int .i64 0,.int .i64 0]⟩),(195,⟨.fn,1,8,[.nilF]⟩),(179,⟨.arr 16 5,16,16,List.replicate 16 (.int .u8 0)⟩),(126,⟨.ptr,1,8,[.ptr none]⟩),(128,⟨.strct [(25,0),(4,1)],2,32,[.slice 0 [] (some 5),.bool false]⟩),(213,⟨.ptr,1,8,[.ptr none]⟩),(215,⟨.strct [(213,0)],1,8,[.ptr none]⟩),(253,⟨.slice 3,1,24,[.slice 0 [] (some 3)]⟩),(192,⟨.slice 25,1,24,[.slice 0 [] (some 25)]⟩),(123,⟨.strct [(31,0),(36,32),(3,34),(3,35),(3,36)],37,88,List.replicate 32 (.int .u8 0)++[.str [],.str [],.int .i64 0,.int .i64 0,.int .i64 0]⟩),(222,⟨.fn,1,8,[.nilF]⟩)]
theorem ttQ_ok:ttOk prog ttQ=true:=by kernel_rfl
def imm93:List Nat:=[1]
def imm50:List Nat:=[1]
def imm145:List Nat:=[1]
def imm144:List Nat:=[4]
def imm89:List Nat:=[]
def imm113:List Nat:=[1]
def keyR (s:Option (List UInt8)):Option (List UInt8)×(Nat→UInt8):=if (octC s).2.length=32 then ((octC s).1,keyOf (octC s).2) else (none,fun _=>0)
def partRD (s:Option (List UInt8)):Prt:=⟨(princR s).2.1,(princR s).2.2,(keyR (princR s).1).2,(txtC (keyR (princR s).1).1).2,(rintC (txtC (keyR (princR s).1).1).1).2,(rintC (rintC (txtC (keyR (princR s).1).1).1).1).2⟩
def partRE (s:Option (List UInt8)):Option (List UInt8):=(rintC (rintC (txtC (keyR (princR s).1).1).1).1).1
def partR (b:List UInt8):Option (List UInt8):=(elemC 99 (some b)).2
def refPV (b:List UInt8):PV:=match !(partRE (partR b)).isNone&&okPrt (partRD (partR b)) b with
 | true=>.tup [.agg (partRD (partR b)).cells,.int .i64 0]
 | false=>.tup [.agg zPrt.cells,.int .i64 2]
structure Aut where
 r:List UInt8
 n:List UInt8
 tm:Int
 sq:Int
def Aut.cells (p:Aut):List PV:=[.str p.r,.str p.n]++[.int .i64 p.tm]++[.int .i64 p.sq]
def isAutB (p:Aut):Bool:=isPrincB p.r p.n&&inZ p.tm 0 1073741824&&inZ p.sq 0 1073741824
def autL (p:Aut):List UInt8:=wrapB 98 [princE p.r p.n,intE p.tm,intE p.sq].flatten
def encAV (p:Aut):PV:=if isAutB p=true∧(autL p).length≤2000 then .tup [sl (autL p),.int .i64 0] else .tup [sl [],.int .i64 1]
theorem encAV_yes {p:Aut} (h:isAutB p=true∧(autL p).length≤2000):encAV p=.tup [sl (autL p),.int .i64 0]:=zqp h
theorem encAV_no {p:Aut} (h:¬(isAutB p=true∧(autL p).length≤2000)):encAV p=.tup [sl [],.int .i64 1]:=zqo h
def Aut.same (p q:Aut):Prop:=p.r=q.r∧p.n=q.n∧p.tm=q.tm∧p.sq=q.sq
theorem aut_len (p:Aut):(autL p).length≤p.r.length+p.n.length+100:=by
 have h0:=wrapB_len 98 [princE p.r p.n,intE p.tm,intE p.sq].flatten
 have e0:=princE_len p.r p.n
 have e1:=intE_len p.tm
 have e2:=intE_len p.sq
 simp only [zqk,zql,zqf,List.length_nil] at h0
 unfold autL
 simp only [zqk,zql]
 omega
structure Rpt where
 k:Nat→UInt8
 r:List UInt8
 n:List UInt8
 st:Int
 en:Int
 nc:Int
def Rpt.cells (p:Rpt):List PV:=keyC p.k++[.str p.r,.str p.n]++[.int .i64 p.st]++[.int .i64 p.en]++[.int .i64 p.nc]
def isRptB (p:Rpt):Bool:=isPrincB p.r p.n&&(inZ p.st 0 1073741824&&inZ p.en 0 1073741824)&&inZ p.nc 0 1073741824
def rptL (p:Rpt):List UInt8:=wrapB 122 [wrapB 4 (keyB p.k),princE p.r p.n,intE p.st,intE p.en,intE p.nc].flatten
def encRV (p:Rpt):PV:=if isRptB p=true∧(rptL p).length≤2000 then .tup [sl (rptL p),.int .i64 0] else .tup [sl [],.int .i64 1]
theorem encRV_yes {p:Rpt} (h:isRptB p=true∧(rptL p).length≤2000):encRV p=.tup [sl (rptL p),.int .i64 0]:=zqp h
theorem encRV_no {p:Rpt} (h:¬(isRptB p=true∧(rptL p).length≤2000)):encRV p=.tup [sl [],.int .i64 1]:=zqo h
def rptD (s:Option (List UInt8)):Rpt:=⟨keyOf (octC s).2,(princC (octC s).1).2.1,(princC (octC s).1).2.2,(intC (princC (octC s).1).1).2,(intC (intC (princC (octC s).1).1).1).2,(intC (intC (intC (princC (octC s).1).1).1).1).2⟩
def rptC (b:List UInt8):Rpt:=rptD (elemC 122 (some b)).2
def Rpt.same (p q:Rpt):Prop:=keyB p.k=keyB q.k∧p.r=q.r∧p.n=q.n∧p.st=q.st∧p.en=q.en∧p.nc=q.nc
def zRpt:Rpt:=⟨fun _=>0,[],[],0,0,0⟩
theorem rpt_same {p q:Rpt} (h:p.same q):isRptB p=isRptB q∧rptL p=rptL q:=by
 obtain ⟨h0,h1,h2,h3,h4,h5⟩:=h
 unfold isRptB rptL
 rw [h0,h1,h2,h3,h4,h5]
 exact ⟨rfl,rfl⟩
theorem rpt_len (p:Rpt):(rptL p).length≤p.r.length+p.n.length+100:=by
 have h0:=wrapB_len 122 [wrapB 4 (keyB p.k),princE p.r p.n,intE p.st,intE p.en,intE p.nc].flatten
 have e0:=wrapB_len 4 (keyB p.k)
 have e1:=princE_len p.r p.n
 have e2:=intE_len p.st
 have e3:=intE_len p.en
 have e4:=intE_len p.nc
 have ek:=keyB_len p.k
 simp only [zqk,zql,zqf,List.length_nil] at h0
 unfold rptL
 simp only [zqk,zql]
 omega
def okRpt (p:Rpt) (b:List UInt8):Bool:=isRptB p&&(decide ((rptL p).length≤2000)&&decide (rptL p=b))
def agRV (p:Rpt) (b:List UInt8):PV:=match okRpt p b with
 | true=>.tup [.agg p.cells,.int .i64 0]
 | false=>.tup [.agg zRpt.cells,.int .i64 2]
theorem agRV_yes {p:Rpt} {b:List UInt8} (h:okRpt p b=true):agRV p b=.tup [.agg p.cells,.int .i64 0]:=by unfold agRV;rw [h]
theorem agRV_no {p:Rpt} {b:List UInt8} (h:okRpt p b=false):agRV p b=.tup [.agg zRpt.cells,.int .i64 2]:=by unfold agRV;rw [h]
theorem rpt_same_cells {p q:Rpt} (h:p.same q):p.cells=q.cells:=by
 obtain ⟨h0,h1,h2,h3,h4,h5⟩:=h
 unfold Rpt.cells
 rw [keyC_map,keyC_map]
 rw [h0,h1,h2,h3,h4,h5]
theorem okRpt_iff {p:Rpt} {b:List UInt8}:okRpt p b=true↔isRptB p=true∧(rptL p).length≤2000∧rptL p=b:=by
 unfold okRpt
 rw [zqb,zqb,decide_eq_true_eq,decide_eq_true_eq]
theorem okRpt_same {p q:Rpt} {b:List UInt8} (h:p.same q):okRpt p b=okRpt q b:=by
 unfold okRpt
 rw [(rpt_same h).1,(rpt_same h).2]
theorem rptC_laid (p:Rpt) (h:isRptB p=true):(rptC (rptL p)).same p:=by
 unfold isRptB at h
 simp only [zqb] at h
 have gp:=princ_len h.1.1
 have g_st:=inZ_le h.1.2.1
 have g_en:=inZ_le h.1.2.2
 have g_nc:=inZ_le h.2
 have e0:=wrapB_len 4 (keyB p.k)
 have e1:=princE_len p.r p.n
 have e2:=intE_len p.st
 have e3:=intE_len p.en
 have e4:=intE_len p.nc
 have ek:=keyB_len p.k
 have e0x:=elemC_wrap 122 [wrapB 4 (keyB p.k),princE p.r p.n,intE p.st,intE p.en,intE p.nc].flatten [] (by simp only [zqk,zql,zqf,List.length_nil];omega)
 rw [List.append_nil] at e0x
 have w0:=octC_wrap (keyB p.k) (princE p.r p.n++(intE p.st++(intE p.en++(intE p.nc++[])))) (by omega)
 have w1:=princC_wrap p.r p.n (intE p.st++(intE p.en++(intE p.nc++[]))) (by omega) (by omega)
 have w2:=intC_wrap p.st (by omega) (by omega) (intE p.en++(intE p.nc++[]))
 have w3:=intC_wrap p.en (by omega) (by omega) (intE p.nc++[])
 have w4:=intC_wrap p.nc (by omega) (by omega) []
 unfold rptC rptL
 rw [e0x]
 show (rptD (some [wrapB 4 (keyB p.k),princE p.r p.n,intE p.st,intE p.en,intE p.nc].flatten)).same p
 simp only [zqk,zql]
 unfold rptD
 simp only [w0,w1,w2,w3,w4]
 exact ⟨keyB_of _,rfl,rfl,rfl,rfl,rfl⟩
theorem c113 (p:Aut) (hr:p.r.length≤1000000) (hn:p.n.length≤1000000):Pure prog 113 [.agg p.cells] (encAV p):=by
 intro H
 have e0:=princE_len p.r p.n
 have e1:=intE_len p.tm
 have e2:=intE_len p.sq
 (refine fnS (imm:=imm113) ttQ_ok func113 ?_;(conv=>whnf))
 refine dP2 (by kernel_rfl) ?_
 conv=>whnf
 iterate 2 (refine dS ?_;(conv=>whnf))
 refine ⟨_,cP (c79 p.r p.n (by omega) (by omega)) ⟨rfl,rfl,zqv⟩,?_⟩
 conv=>whnf
 cases f0:isPrincB p.r p.n
 ·skip
  iterate 13 (refine dS ?_;(conv=>whnf))
  refine ⟨_,cP (c157 p.r p.n hr hn) ⟨rfl,rfl,zqv⟩,?_⟩
  conv=>whnf
  iterate 2 (refine dS ?_;(conv=>whnf))
  refine ⟨_,cP (c158 p.tm) ⟨rfl,rfl,zqv⟩,?_⟩
  conv=>whnf
  iterate 2 (refine dS ?_;(conv=>whnf))
  refine ⟨_,cP (c158 p.sq) ⟨rfl,rfl,zqv⟩,?_⟩
  conv=>whnf
  (refine dS ?_;(conv=>whnf))
  refine ⟨_,cP (c156p 98 [princE p.r p.n,intE p.tm,intE p.sq] (by simp) (by simp only [zqk,zql,zqf,List.length_nil];omega)) ⟨rfl,rfl,zqv⟩,?_⟩
  conv=>whnf
  have hb:isAutB p=false:=by unfold isAutB;simp only [f0,zq6,zq5,zq3,zq4]
  refine ⟨_,cP ((c118 false (autL p)).of_eq (limV_no (fun h=>by cases h.1))) ⟨rfl,rfl,zqv⟩,?_⟩
  conv=>whnf
  iterate 4 (refine dS ?_;(conv=>whnf))
  exact ⟨(encAV_no (fun h=>by rw [hb] at h;cases h.1)).symm,rfl⟩
 iterate 4 (refine dS ?_;(conv=>whnf))
 refine ⟨_,cP (c154a p.tm) ⟨rfl,rfl,zqv⟩,?_⟩
 conv=>whnf
 cases f1:inZ p.tm 0 1073741824
 ·skip
  iterate 8 (refine dS ?_;(conv=>whnf))
  refine ⟨_,cP (c157 p.r p.n hr hn) ⟨rfl,rfl,zqv⟩,?_⟩
  conv=>whnf
  iterate 2 (refine dS ?_;(conv=>whnf))
  refine ⟨_,cP (c158 p.tm) ⟨rfl,rfl,zqv⟩,?_⟩
  conv=>whnf
  iterate 2 (refine dS ?_;(conv=>whnf))
  refine ⟨_,cP (c158 p.sq) ⟨rfl,rfl,zqv⟩,?_⟩
  conv=>whnf
  (refine dS ?_;(conv=>whnf))
  refine ⟨_,cP (c156p 98 [princE p.r p.n,intE p.tm,intE p.sq] (by simp) (by simp only [zqk,zql,zqf,List.length_nil];omega)) ⟨rfl,rfl,zqv⟩,?_⟩
  conv=>whnf
  have hb:isAutB p=false:=by unfold isAutB;simp only [f0,f1,zq6,zq5,zq3,zq4]
  refine ⟨_,cP ((c118 false (autL p)).of_eq (limV_no (fun h=>by cases h.1))) ⟨rfl,rfl,zqv⟩,?_⟩
  conv=>whnf
  iterate 4 (refine dS ?_;(conv=>whnf))
  exact ⟨(encAV_no (fun h=>by rw [hb] at h;cases h.1)).symm,rfl⟩
 iterate 4 (refine dS ?_;(conv=>whnf))
 refine ⟨_,cP (c155 p.sq) ⟨rfl,rfl,zqv⟩,?_⟩
 conv=>whnf
 cases f2:inZ p.sq 0 1073741824
 ·skip
  iterate 3 (refine dS ?_;(conv=>whnf))
  refine ⟨_,cP (c157 p.r p.n hr hn) ⟨rfl,rfl,zqv⟩,?_⟩
  conv=>whnf
  iterate 2 (refine dS ?_;(conv=>whnf))
  refine ⟨_,cP (c158 p.tm) ⟨rfl,rfl,zqv⟩,?_⟩
  conv=>whnf
  iterate 2 (refine dS ?_;(conv=>whnf))
  refine ⟨_,cP (c158 p.sq) ⟨rfl,rfl,zqv⟩,?_⟩
  conv=>whnf
  (refine dS ?_;(conv=>whnf))
  refine ⟨_,cP (c156p 98 [princE p.r p.n,intE p.tm,intE p.sq] (by simp) (by simp only [zqk,zql,zqf,List.length_nil];omega)) ⟨rfl,rfl,zqv⟩,?_⟩
  conv=>whnf
  have hb:isAutB p=false:=by unfold isAutB;simp only [f0,f1,f2,zq6,zq5,zq3,zq4]
  refine ⟨_,cP ((c118 false (autL p)).of_eq (limV_no (fun h=>by cases h.1))) ⟨rfl,rfl,zqv⟩,?_⟩
  conv=>whnf
  iterate 4 (refine dS ?_;(conv=>whnf))
  exact ⟨(encAV_no (fun h=>by rw [hb] at h;cases h.1)).symm,rfl⟩
 iterate 3 (refine dS ?_;(conv=>whnf))
 refine ⟨_,cP (c157 p.r p.n hr hn) ⟨rfl,rfl,zqv⟩,?_⟩
 conv=>whnf
 iterate 2 (refine dS ?_;(conv=>whnf))
 refine ⟨_,cP (c158 p.tm) ⟨rfl,rfl,zqv⟩,?_⟩
 conv=>whnf
 iterate 2 (refine dS ?_;(conv=>whnf))
 refine ⟨_,cP (c158 p.sq) ⟨rfl,rfl,zqv⟩,?_⟩
 conv=>whnf
 (refine dS ?_;(conv=>whnf))
 refine ⟨_,cP (c156p 98 [princE p.r p.n,intE p.tm,intE p.sq] (by simp) (by simp only [zqk,zql,zqf,List.length_nil];omega)) ⟨rfl,rfl,zqv⟩,?_⟩
 conv=>whnf
 have hb:isAutB p=true:=by unfold isAutB;simp only [f0,f1,f2,zq6,zq5,zq3,zq4]
 by_cases hlen:(autL p).length≤2000
 ·have hlim:=limV_yes (ok:=true) (b:=autL p) ⟨rfl,hlen⟩
  refine ⟨_,cP ((c118 true (autL p)).of_eq hlim) ⟨rfl,rfl,zqv⟩,?_⟩
  conv=>whnf
  iterate 4 (refine dS ?_;(conv=>whnf))
  exact ⟨(encAV_yes ⟨hb,hlen⟩).symm,rfl⟩
 ·have hlim:=limV_no (ok:=true) (b:=autL p) (fun h=>hlen h.2)
  refine ⟨_,cP ((c118 true (autL p)).of_eq hlim) ⟨rfl,rfl,zqv⟩,?_⟩
  conv=>whnf
  iterate 4 (refine dS ?_;(conv=>whnf))
  exact ⟨(encAV_no (fun h=>hlen h.2)).symm,rfl⟩
theorem c145 (p:Rpt) (hr:p.r.length≤1000000) (hn:p.n.length≤1000000):Pure prog 145 [.agg p.cells] (encRV p):=by
 intro H
 have e0:=wrapB_len 4 (keyB p.k)
 have e1:=princE_len p.r p.n
 have e2:=intE_len p.st
 have e3:=intE_len p.en
 have e4:=intE_len p.nc
 have ek:=keyB_len p.k
 (refine fnS (imm:=imm145) ttQ_ok func145 ?_;(conv=>whnf))
 refine dP2 (by kernel_rfl) ?_
 conv=>whnf
 iterate 2 (refine dS ?_;(conv=>whnf))
 refine ⟨_,cP (c79 p.r p.n (by omega) (by omega)) ⟨rfl,rfl,zqv⟩,?_⟩
 conv=>whnf
 cases f0:isPrincB p.r p.n
 ·skip
  iterate 15 (refine dS ?_;(conv=>whnf))
  refine ⟨_,cP (c165p (keyB p.k) (by omega)) ⟨rfl,rfl,zqv⟩,?_⟩
  conv=>whnf
  iterate 2 (refine dS ?_;(conv=>whnf))
  refine ⟨_,cP (c157 p.r p.n hr hn) ⟨rfl,rfl,zqv⟩,?_⟩
  conv=>whnf
  iterate 2 (refine dS ?_;(conv=>whnf))
  refine ⟨_,cP (c158 p.st) ⟨rfl,rfl,zqv⟩,?_⟩
  conv=>whnf
  iterate 2 (refine dS ?_;(conv=>whnf))
  refine ⟨_,cP (c158 p.en) ⟨rfl,rfl,zqv⟩,?_⟩
  conv=>whnf
  iterate 2 (refine dS ?_;(conv=>whnf))
  refine ⟨_,cP (c158 p.nc) ⟨rfl,rfl,zqv⟩,?_⟩
  conv=>whnf
  (refine dS ?_;(conv=>whnf))
  refine ⟨_,cP (c156p 122 [wrapB 4 (keyB p.k),princE p.r p.n,intE p.st,intE p.en,intE p.nc] (by simp) (by simp only [zqk,zql,zqf,List.length_nil];omega)) ⟨rfl,rfl,zqv⟩,?_⟩
  conv=>whnf
  have hb:isRptB p=false:=by unfold isRptB;simp only [f0,zq6,zq5,zq3,zq4]
  refine ⟨_,cP ((c118 false (rptL p)).of_eq (limV_no (fun h=>by cases h.1))) ⟨rfl,rfl,zqv⟩,?_⟩
  conv=>whnf
  iterate 4 (refine dS ?_;(conv=>whnf))
  exact ⟨(encRV_no (fun h=>by rw [hb] at h;cases h.1)).symm,rfl⟩
 iterate 6 (refine dS ?_;(conv=>whnf))
 refine ⟨_,cP ((c154 [p.st,p.en] (by simp)).of_eq (show PV.bool (inZ p.st 0 1073741824&&(inZ p.en 0 1073741824&&true))=.bool (inZ p.st 0 1073741824&&inZ p.en 0 1073741824) by rw [zq6])) ⟨rfl,rfl,zqv⟩,?_⟩
 conv=>whnf
 cases f1:(inZ p.st 0 1073741824&&inZ p.en 0 1073741824)
 ·skip
  iterate 8 (refine dS ?_;(conv=>whnf))
  refine ⟨_,cP (c165p (keyB p.k) (by omega)) ⟨rfl,rfl,zqv⟩,?_⟩
  conv=>whnf
  iterate 2 (refine dS ?_;(conv=>whnf))
  refine ⟨_,cP (c157 p.r p.n hr hn) ⟨rfl,rfl,zqv⟩,?_⟩
  conv=>whnf
  iterate 2 (refine dS ?_;(conv=>whnf))
  refine ⟨_,cP (c158 p.st) ⟨rfl,rfl,zqv⟩,?_⟩
  conv=>whnf
  iterate 2 (refine dS ?_;(conv=>whnf))
  refine ⟨_,cP (c158 p.en) ⟨rfl,rfl,zqv⟩,?_⟩
  conv=>whnf
  iterate 2 (refine dS ?_;(conv=>whnf))
  refine ⟨_,cP (c158 p.nc) ⟨rfl,rfl,zqv⟩,?_⟩
  conv=>whnf
  (refine dS ?_;(conv=>whnf))
  refine ⟨_,cP (c156p 122 [wrapB 4 (keyB p.k),princE p.r p.n,intE p.st,intE p.en,intE p.nc] (by simp) (by simp only [zqk,zql,zqf,List.length_nil];omega)) ⟨rfl,rfl,zqv⟩,?_⟩
  conv=>whnf
  have hb:isRptB p=false:=by unfold isRptB;simp only [f0,f1,zq6,zq5,zq3,zq4]
  refine ⟨_,cP ((c118 false (rptL p)).of_eq (limV_no (fun h=>by cases h.1))) ⟨rfl,rfl,zqv⟩,?_⟩
  conv=>whnf
  iterate 4 (refine dS ?_;(conv=>whnf))
  exact ⟨(encRV_no (fun h=>by rw [hb] at h;cases h.1)).symm,rfl⟩
 iterate 4 (refine dS ?_;(conv=>whnf))
 refine ⟨_,cP (c155 p.nc) ⟨rfl,rfl,zqv⟩,?_⟩
 conv=>whnf
 cases f2:inZ p.nc 0 1073741824
 ·skip
  iterate 3 (refine dS ?_;(conv=>whnf))
  refine ⟨_,cP (c165p (keyB p.k) (by omega)) ⟨rfl,rfl,zqv⟩,?_⟩
  conv=>whnf
  iterate 2 (refine dS ?_;(conv=>whnf))
  refine ⟨_,cP (c157 p.r p.n hr hn) ⟨rfl,rfl,zqv⟩,?_⟩
  conv=>whnf
  iterate 2 (refine dS ?_;(conv=>whnf))
  refine ⟨_,cP (c158 p.st) ⟨rfl,rfl,zqv⟩,?_⟩
  conv=>whnf
  iterate 2 (refine dS ?_;(conv=>whnf))
  refine ⟨_,cP (c158 p.en) ⟨rfl,rfl,zqv⟩,?_⟩
  conv=>whnf
  iterate 2 (refine dS ?_;(conv=>whnf))
  refine ⟨_,cP (c158 p.nc) ⟨rfl,rfl,zqv⟩,?_⟩
  conv=>whnf
  (refine dS ?_;(conv=>whnf))
  refine ⟨_,cP (c156p 122 [wrapB 4 (keyB p.k),princE p.r p.n,intE p.st,intE p.en,intE p.nc] (by simp) (by simp only [zqk,zql,zqf,List.length_nil];omega)) ⟨rfl,rfl,zqv⟩,?_⟩
  conv=>whnf
  have hb:isRptB p=false:=by unfold isRptB;simp only [f0,f1,f2,zq6,zq5,zq3,zq4]
  refine ⟨_,cP ((c118 false (rptL p)).of_eq (limV_no (fun h=>by cases h.1))) ⟨rfl,rfl,zqv⟩,?_⟩
  conv=>whnf
  iterate 4 (refine dS ?_;(conv=>whnf))
  exact ⟨(encRV_no (fun h=>by rw [hb] at h;cases h.1)).symm,rfl⟩
 iterate 3 (refine dS ?_;(conv=>whnf))
 refine ⟨_,cP (c165p (keyB p.k) (by omega)) ⟨rfl,rfl,zqv⟩,?_⟩
 conv=>whnf
 iterate 2 (refine dS ?_;(conv=>whnf))
 refine ⟨_,cP (c157 p.r p.n hr hn) ⟨rfl,rfl,zqv⟩,?_⟩
 conv=>whnf
 iterate 2 (refine dS ?_;(conv=>whnf))
 refine ⟨_,cP (c158 p.st) ⟨rfl,rfl,zqv⟩,?_⟩
 conv=>whnf
 iterate 2 (refine dS ?_;(conv=>whnf))
 refine ⟨_,cP (c158 p.en) ⟨rfl,rfl,zqv⟩,?_⟩
 conv=>whnf
 iterate 2 (refine dS ?_;(conv=>whnf))
 refine ⟨_,cP (c158 p.nc) ⟨rfl,rfl,zqv⟩,?_⟩
 conv=>whnf
 (refine dS ?_;(conv=>whnf))
 refine ⟨_,cP (c156p 122 [wrapB 4 (keyB p.k),princE p.r p.n,intE p.st,intE p.en,intE p.nc] (by simp) (by simp only [zqk,zql,zqf,List.length_nil];omega)) ⟨rfl,rfl,zqv⟩,?_⟩
 conv=>whnf
 have hb:isRptB p=true:=by unfold isRptB;simp only [f0,f1,f2,zq6,zq5,zq3,zq4]
 by_cases hlen:(rptL p).length≤2000
 ·have hlim:=limV_yes (ok:=true) (b:=rptL p) ⟨rfl,hlen⟩
  refine ⟨_,cP ((c118 true (rptL p)).of_eq hlim) ⟨rfl,rfl,zqv⟩,?_⟩
  conv=>whnf
  iterate 4 (refine dS ?_;(conv=>whnf))
  exact ⟨(encRV_yes ⟨hb,hlen⟩).symm,rfl⟩
 ·have hlim:=limV_no (ok:=true) (b:=rptL p) (fun h=>hlen h.2)
  refine ⟨_,cP ((c118 true (rptL p)).of_eq hlim) ⟨rfl,rfl,zqv⟩,?_⟩
  conv=>whnf
  iterate 4 (refine dS ?_;(conv=>whnf))
  exact ⟨(encRV_no (fun h=>hlen h.2)).symm,rfl⟩
theorem c144x (p:Rpt) (b:List UInt8) (hr:p.r.length≤1000000) (hn:p.n.length≤1000000) (H:PH) :
  CK prog 144 [sl b,.agg p.cells,.func 145 [] []] H fun r H'=>r=agRV p b∧∃ext,H'=H++ext:=by
 (refine fnS (imm:=imm144) ttQ_ok func144 ?_;(conv=>whnf))
 have ext3:∀a b c:PObj,∃ext,((H++[a]++[b]).set H.length c)=H++ext:=fun a b c=>(((Ext.refl H).push _).push _).set (zqn _) _
 by_cases hb:isRptB p=true∧(rptL p).length≤2000
 ·refine cP ((c145 p hr hn).of_eq (encRV_yes hb)) ?_
  conv=>whnf
  refine ⟨fun _=>?_,fun h=>absurd rfl h⟩
  conv=>whnf
  refine cP (c132 (rptL p) b) ?_
  cases hq:decide (rptL p=b)
  ·have hk:okRpt p b=false:=by unfold okRpt;rw [hq,zq3,zq3]
   rw [agRV_no hk]
   conv=>whnf
   ((conv in (_[_]?)=>tactic=>exact gL _ _);(conv=>whnf))
   ((conv in (_[_]?)=>tactic=>exact get_mid _ _ _);(conv=>whnf))
   ((conv in (_[_]?)=>tactic=>exact gS (get_mid _ _ _));(conv=>whnf))
   exact ⟨rfl,ext3 _ _ _⟩
  ·have hk:okRpt p b=true:=by unfold okRpt;rw [hq,hb.1,zqe hb.2];rfl
   rw [agRV_yes hk]
   conv=>whnf
   ((conv in (_[_]?)=>tactic=>exact get_mid _ _ _);(conv=>whnf))
   ((conv in (_[_]?)=>tactic=>exact gS (get_mid _ _ _));(conv=>whnf))
   exact ⟨rfl,ext3 _ _ _⟩
 ·refine cP ((c145 p hr hn).of_eq (encRV_no hb)) ?_
  have hk:okRpt p b=false:=by
   unfold okRpt
   cases h1:isRptB p
   ·rfl
   ·rw [zqd (fun h2=>hb ⟨h1,h2⟩)];rfl
  rw [agRV_no hk]
  conv=>whnf
  refine ⟨fun h=>absurd h (by decide),fun _=>?_⟩
  conv=>whnf
  ((conv in (_[_]?)=>tactic=>exact gL _ _);(conv=>whnf))
  ((conv in (_[_]?)=>tactic=>exact get_mid _ _ _);(conv=>whnf))
  ((conv in (_[_]?)=>tactic=>exact gS (get_mid _ _ _));(conv=>whnf))
  exact ⟨rfl,ext3 _ _ _⟩
theorem agRV_old (p:Rpt) (b:List UInt8):oldR (agRV p b)=true:=by unfold agRV;cases okRpt p b <;> rfl
theorem c144 (p:Rpt) (b:List UInt8) (hr:p.r.length≤1000000) (hn:p.n.length≤1000000):Pure prog 144 [sl b,.agg p.cells,.func 145 [] []] (agRV p b):=Pure.of_gc (agRV_old p b) (c144x p b hr hn)
theorem c89x (b:List UInt8) (hb:b.length≤140737488355328) (H:PH):CK prog 89 [sl b] H fun r H'=>r=agRV (rptC b) b∧∃ext,H'=H++ext:=by
 (refine fnS (imm:=imm89) ttQ_ok func89 ?_;(conv=>whnf))
 refine cO (c133 b 122 hb (H++[PObj.mk 123 zRpt.cells 0])) ?_
 rintro _ H2 ⟨d,rfl,k1,k2,k3⟩
 obtain ⟨o1,o2,e1,e2,e3,e4⟩:=dec_begin k1 k2 k3
 have hs0:∀l,(elemC 122 (some b)).2=some l→l.length≤140737488355328:=fun l h=>((elemC_len (tag:=122) (fun l h=>by cases h;exact hb)).2 l h).1
 show _
 unfold rptC
 generalize (elemC 122 (some b)).2=s at hs0 k3 e3
 conv=>whnf
 ((conv in (_[_]?)=>tactic=>exact gL _ _);(conv=>whnf))
 ((conv in (_[_]?)=>tactic=>exact e2);(conv=>whnf))
 have l0:∀l,s=some l→l.length≤140737488355328:=hs0
 refine cO (c143 d s _ e3 l0) ?_
 rintro _ K0 ⟨rfl,u0,g0⟩
 have D1:=dec_part o1 o2 e1 e2 e4 u0 g0 (Rpt.mk (keyOf (octC s).2) [] [] 0 0 0).cells 1
 conv=>whnf
 ((conv in (_[_]?)=>tactic=>exact gL _ _);(conv=>whnf))
 have l1:∀l,(octC s).1=some l→l.length≤140737488355328:=(elemC_len (tag:=4) l0).1
 ((conv in (_[_]?)=>tactic=>exact D1.c);(conv=>whnf))
 refine cO (c134 d (octC s).1 _ D1.cur l1) ?_
 rintro _ K1 ⟨rfl,u1,g1⟩
 have D2:=D1.call u1 g1
 conv=>whnf
 ((conv in (_[_]?)=>tactic=>exact D2.p);(conv=>whnf))
 have D3:=D2.store (Rpt.mk (keyOf (octC s).2) (princC (octC s).1).2.1 (princC (octC s).1).2.2 0 0 0).cells 2
 have l2:∀l,(princC (octC s).1).1=some l→l.length≤140737488355328:=(elemC_len (tag:=48) l1).1
 ((conv in (_[_]?)=>tactic=>exact D3.c);(conv=>whnf))
 refine cO (c135 d (princC (octC s).1).1 _ D3.cur l2) ?_
 rintro _ K2 ⟨rfl,u2,g2⟩
 have D4:=D3.call u2 g2
 conv=>whnf
 ((conv in (_[_]?)=>tactic=>exact D4.p);(conv=>whnf))
 have D5:=D4.store (Rpt.mk (keyOf (octC s).2) (princC (octC s).1).2.1 (princC (octC s).1).2.2 (intC (princC (octC s).1).1).2 0 0).cells 3
 have l3:∀l,(intC (princC (octC s).1).1).1=some l→l.length≤140737488355328:=intC_len l2
 ((conv in (_[_]?)=>tactic=>exact D5.c);(conv=>whnf))
 refine cO (c135 d (intC (princC (octC s).1).1).1 _ D5.cur l3) ?_
 rintro _ K3 ⟨rfl,u3,g3⟩
 have D6:=D5.call u3 g3
 conv=>whnf
 ((conv in (_[_]?)=>tactic=>exact D6.p);(conv=>whnf))
 have D7:=D6.store (Rpt.mk (keyOf (octC s).2) (princC (octC s).1).2.1 (princC (octC s).1).2.2 (intC (princC (octC s).1).1).2 (intC (intC (princC (octC s).1).1).1).2 0).cells 4
 have l4:∀l,(intC (intC (princC (octC s).1).1).1).1=some l→l.length≤140737488355328:=intC_len l3
 ((conv in (_[_]?)=>tactic=>exact D7.c);(conv=>whnf))
 refine cO (c135 d (intC (intC (princC (octC s).1).1).1).1 _ D7.cur l4) ?_
 rintro _ K4 ⟨rfl,u4,g4⟩
 have D8:=D7.call u4 g4
 conv=>whnf
 ((conv in (_[_]?)=>tactic=>exact D8.p);(conv=>whnf))
 have D9:=D8.store (Rpt.mk (keyOf (octC s).2) (princC (octC s).1).2.1 (princC (octC s).1).2.2 (intC (princC (octC s).1).1).2 (intC (intC (princC (octC s).1).1).1).2 (intC (intC (intC (princC (octC s).1).1).1).1).2).cells 5
 ((conv in (_[_]?)=>tactic=>exact D9.p);(conv=>whnf))
 refine cP (c144 (rptD s) b (by unfold rptD;exact Nat.le_trans (small _ _) (by decide)) (by unfold rptD;exact Nat.le_trans (small _ _) (by decide))) ?_
 cases hk:okRpt (rptD s) b
 ·rw [agRV_no hk]
  conv=>whnf
  ((conv in (_[_]?)=>tactic=>exact D9.z);(conv=>whnf))
  ((conv in (_[_]?)=>tactic=>exact gS D9.z);(conv=>whnf))
  exact ⟨rfl,Upd.ext (D9.up.set (.inr (zqn _)) _)⟩
 ·rw [agRV_yes hk]
  conv=>whnf
  ((conv in (_[_]?)=>tactic=>exact D9.z);(conv=>whnf))
  ((conv in (_[_]?)=>tactic=>exact gS D9.z);(conv=>whnf))
  exact ⟨rfl,Upd.ext (D9.up.set (.inr (zqn _)) _)⟩
theorem c89 (b:List UInt8) (hb:b.length≤140737488355328):Pure prog 89 [sl b] (agRV (rptC b) b):=Pure.of_gc (agRV_old _ b) (c89x b hb)
theorem c93 (p:Rpt) (hr:p.r.length≤1099511627775) (hn:p.n.length≤1099511627775):Pure prog 93 [.agg p.cells] (.bool (isRptB p)):=by
 intro H
 (refine fnS (imm:=imm93) ttQ_ok func93 ?_;(conv=>whnf))
 refine cP (c36 p.r p.n (by omega) (by omega)) ?_
 cases f0:isPrincB p.r p.n
 ·conv=>whnf
  exact ⟨zqm PV.bool (by unfold isRptB;simp only [f0,zq6,zq5,zq3,zq4]),rfl⟩
 conv=>whnf
 refine cP (c110 p.st 0 1073741824) ?_
 cases f1:inZ p.st 0 1073741824
 ·conv=>whnf
  exact ⟨zqm PV.bool (by unfold isRptB;simp only [f0,f1,zq6,zq5,zq3,zq4]),rfl⟩
 conv=>whnf
 refine cP (c110 p.en 0 1073741824) ?_
 cases f2:inZ p.en 0 1073741824
 ·conv=>whnf
  exact ⟨zqm PV.bool (by unfold isRptB;simp only [f0,f1,f2,zq6,zq5,zq3,zq4]),rfl⟩
 conv=>whnf
 refine cP (c110 p.nc 0 1073741824) ?_
 cases f3:inZ p.nc 0 1073741824
 ·conv=>whnf
  exact ⟨zqm PV.bool (by unfold isRptB;simp only [f0,f1,f2,f3,zq6,zq5,zq3,zq4]),rfl⟩
 conv=>whnf
 exact ⟨zqm PV.bool (by unfold isRptB;simp only [f0,f1,f2,f3,zq6,zq5,zq3,zq4]),rfl⟩
theorem autL_le {p:Aut} (h:isAutB p=true):(autL p).length≤2000:=by
 have h0:=aut_len p
 unfold isAutB at h
 simp only [zqb] at h
 have gp:=princ_len h.1.1
 have g_tm:=inZ_le h.1.2
 have g_sq:=inZ_le h.2
 omega
def refERpt (p:Rpt):PV:=if isRptB p=true then .tup [sl (rptL p),.int .i64 0] else .tup [.slice 0 [] (some 5),.int .i64 1]
theorem rptL_le {p:Rpt} (h:isRptB p=true):(rptL p).length≤2000:=by
 have h0:=rpt_len p
 unfold isRptB at h
 simp only [zqb] at h
 have gp:=princ_len h.1.1
 have g_st:=inZ_le h.1.2.1
 have g_en:=inZ_le h.1.2.2
 have g_nc:=inZ_le h.2
 omega
theorem c50 (p:Rpt) (hr:p.r.length≤1000000) (hn:p.n.length≤1000000):Pure prog 50 [.agg p.cells] (refERpt p):=by
 intro H
 have e0:=wrapB_len 4 (keyB p.k)
 have e1:=princE_len p.r p.n
 have e2:=intE_len p.st
 have e3:=intE_len p.en
 have e4:=intE_len p.nc
 have ek:=keyB_len p.k
 (refine fnS (imm:=imm50) ttQ_ok func50 ?_;(conv=>whnf))
 refine cP (c93 p (by omega) (by omega)) ?_
 cases hb:isRptB p
 ·conv=>whnf
  exact ⟨(zqo (by rw [hb];decide):refERpt p=_).symm,rfl⟩
 have hlen:=rptL_le hb
 conv=>whnf
 refine dP2 (by kernel_rfl) ?_
 conv=>whnf
 iterate 2 (refine dS ?_;(conv=>whnf))
 refine ⟨_,cP (c67 (keyB p.k) none (by omega)) ⟨rfl,rfl,zqv⟩,?_⟩
 conv=>whnf
 iterate 2 (refine dS ?_;(conv=>whnf))
 refine ⟨_,cP (c64 p.r p.n hr hn) ⟨rfl,rfl,zqv⟩,?_⟩
 conv=>whnf
 iterate 2 (refine dS ?_;(conv=>whnf))
 refine ⟨_,cP (c65 p.st) ⟨rfl,rfl,zqv⟩,?_⟩
 conv=>whnf
 iterate 2 (refine dS ?_;(conv=>whnf))
 refine ⟨_,cP (c65 p.en) ⟨rfl,rfl,zqv⟩,?_⟩
 conv=>whnf
 iterate 2 (refine dS ?_;(conv=>whnf))
 refine ⟨_,cP (c65 p.nc) ⟨rfl,rfl,zqv⟩,?_⟩
 conv=>whnf
 (refine dS ?_;(conv=>whnf))
 refine ⟨_,cP (c63 122 [wrapB 4 (keyB p.k),princE p.r p.n,intE p.st,intE p.en,intE p.nc] (by simp) (by simp only [zqk,zql,zqf,List.length_nil];omega)) ⟨rfl,rfl,zqv⟩,?_⟩
 conv=>whnf
 refine ⟨_,cP (c62 _ hlen) ⟨rfl,rfl,zqv⟩,?_⟩
 conv=>whnf
 iterate 4 (refine dS ?_;(conv=>whnf))
 exact ⟨(zqp hb:refERpt p=_).symm,rfl⟩
def eBAut (p:Aut):List UInt8:=if isAutB p=true then autL p else []
def eEAut (p:Aut):Int:=if isAutB p=true then 0 else 1
theorem c113s (p:Aut) (hr:p.r.length≤1000000) (hn:p.n.length≤1000000):Pure prog 113 [.agg p.cells] (.tup [sl (eBAut p),.int .i64 (eEAut p)]):=(c113 p hr hn).of_eq (by
 unfold eBAut eEAut
 cases h:isAutB p
 ·rw [encAV_no (fun hh=>by rw [h] at hh;cases hh.1)];rfl
 ·rw [encAV_yes ⟨h,autL_le h⟩];rfl)
def eBRpt (p:Rpt):List UInt8:=if isRptB p=true then rptL p else []
def eERpt (p:Rpt):Int:=if isRptB p=true then 0 else 1
def gPRpt (p:Rpt) (b:List UInt8):Rpt:=if okRpt p b=true then p else zRpt
def gERpt (p:Rpt) (b:List UInt8):Int:=if okRpt p b=true then 0 else 2
theorem agRpt_eq (p:Rpt) (b:List UInt8):agRV p b=.tup [.agg (gPRpt p b).cells,.int .i64 (gERpt p b)]:=by
 unfold gPRpt gERpt
 cases h:okRpt p b
 ·rw [agRV_no h];rfl
 ·rw [agRV_yes h];rfl
theorem renRpt_eq (p:Rpt):∃cs,refERpt p=.tup cs∧PV.tup (cs.map dem)=.tup [sl (eBRpt p),.int .i64 (eERpt p)]:=by
 unfold refERpt eBRpt eERpt
 cases h:isRptB p
 ·exact ⟨_,rfl,rfl⟩
 ·exact ⟨_,rfl,rfl⟩
theorem c50s (p:Rpt) (hr:p.r.length≤1000000) (hn:p.n.length≤1000000):Pure prog 50 [.agg p.cells] (.tup [sl (eBRpt p),.int .i64 (eERpt p)]):=by
 obtain ⟨cs,h1,h2⟩:=renRpt_eq p
 exact ((c50 p hr hn).of_eq h1).demT.of_eq h2
theorem c89s (b:List UInt8) (hb:b.length≤140737488355328):Pure prog 89 [sl b] (.tup [.agg (gPRpt (rptC b) b).cells,.int .i64 (gERpt (rptC b) b)]):=(c89 b hb).of_eq (agRpt_eq _ _)
theorem ebAut {p:Aut} (h:isAutB p=true):eBAut p=autL p∧eEAut p=0:=⟨zqp h,zqp h⟩
theorem prAut {p:Aut} (h:isAutB p=true):p.r.length≤1000000∧p.n.length≤1000000:=by
 unfold isAutB at h
 simp only [zqb] at h
 have gp:=princ_len h.1.1
 have g_tm:=inZ_le h.1.2
 have g_sq:=inZ_le h.2
 exact ⟨by omega,by omega⟩
theorem ebRpt {p:Rpt} (h:isRptB p=true):eBRpt p=rptL p∧eERpt p=0:=⟨zqp h,zqp h⟩
theorem backRpt {p:Rpt} (h:isRptB p=true):(gPRpt (rptC (rptL p)) (rptL p)).cells=p.cells∧gERpt (rptC (rptL p)) (rptL p)=0:=by
 have e:=rptC_laid p h
 have hok:okRpt (rptC (rptL p)) (rptL p)=true:=by rw [okRpt_same e];exact okRpt_iff.2 ⟨h,rptL_le h,rfl⟩
 unfold gPRpt gERpt
 rw [zqp hok,zqp hok]
 exact ⟨rpt_same_cells e,rfl⟩
end Go.Proofs.Tryz
namespace Go.Proofs.YtldfjimgfnjdjaaGreatDoor
open Go Go.RowKit Ps
theorem rows_ints {k:IntKind}:∀{rs:List (List PV)},(∀r∈rs,∃x,r=[.int k x]∧(Lit.int k x).wf=true)→∃xs:List Int,rs.length=xs.length∧rs.flatten=xs.map (.int k)∧∀x∈xs,(Lit.int k x).wf=true
 | [],_=>⟨[],rfl,rfl,fun x h=>by cases h⟩
 | r::rs,h=>by
  obtain ⟨x,rfl,hx⟩:=h r List.mem_cons_self
  obtain ⟨xs,h1,h2,h3⟩:=rows_ints fun r hr=>h r (List.mem_cons_of_mem _ hr)
  exact ⟨x::xs,by simp [h1],by simp [h2],fun y hy=>by
   rcases List.mem_cons.1 hy with rfl | hy
   ·exact hx
   ·exact h3 y hy⟩
theorem bytes_of:∀{xs:List Int},(∀x∈xs,(Lit.int .u8 x).wf=true)→∃bs:List UInt8,xs.length=bs.length∧xs.map (PV.int .u8)=bs.map bC
 | [],_=>⟨[],rfl,rfl⟩
 | x::xs,h=>by
  obtain ⟨bs,h1,h2⟩:=bytes_of fun y hy=>h y (List.mem_cons_of_mem _ hy)
  have hx:=bounds_u8 (h x List.mem_cons_self)
  refine ⟨UInt8.ofNat x.toNat::bs,by simp [h1],?_⟩
  rw [List.map_cons,List.map_cons,h2]
  congr 1
  show PV.int .u8 x=.int .u8 _
  rw [UInt8.toNat_ofNat']
  congr 1;omega
theorem own:ownKnob Tryz.prog.godebug=none:=by kernel_rfl
theorem laidOut:laidOutB Tryz.prog=true:=by kernel_rfl
def litV:DataW Unit→Value
 | .lit (.int k n)=>.int k n
 | _=>Go.undef
def litVs:DataW Unit→List Value
 | .agg l=>l.map litV
 | d=>[litV d]
def tabVs:DataW Unit→List Value
 | .agg l=>l.flatMap litVs
 | _=>[]
def fillTab (l:List Value):Obj→Obj
 | .cells _ t frozen=>.cells l.toArray t frozen
 | o=>o
noncomputable def laidWorld (os:Os):World :=
 { World.holding Tryz.prog os ⟨#[],#[],[]⟩ with heap:=((World.holding Tryz.prog os ⟨#[],#[],[]⟩).heap.modify 0 (fillTab (tabVs Rows.laid_unicode_utf8_first))).modify 1 (fillTab (tabVs Rows.laid_unicode_utf8_acceptRanges)) }
theorem laid_met (os : Os) (args : Array Value) : laidMet Tryz.prog [("unicode/utf8.acceptRanges", Rows.laid_unicode_utf8_acceptRanges), ("unicode/utf8.first", Rows.laid_unicode_utf8_first)] ((laidWorld os).forCall (fun _ _ => 0) ⟨#[], args, []⟩).memory :=
 laidMet_of_run' 8 (by kernel_rfl) (by kernel_rfl)
theorem varsB (os:Os) (args:Array Value):((laidWorld os).forCall (fun _ _=>0) ⟨#[],args,[]⟩).variablesB Tryz.checked.prog=true:=by kernel_rfl
theorem heapB (os : Os) (args : Array Value) : (((laidWorld os).forCall (fun _ _ => 0) ⟨#[], args, []⟩).heap.toList.drop Tryz.checked.prog.globals.size).take ((begin Tryz.checked.prog (fun _ _ => 0) default).world.heap.size - Tryz.checked.prog.globals.size) =
      (begin Tryz.checked.prog (fun _ _ => 0) default).world.heap.toList.drop Tryz.checked.prog.globals.size := by kernel_rfl
theorem noLooks:false=Tryz.prog.looks []:=by kernel_rfl
theorem plainOf {name:String} {k:Nat} {g:Func} (hn:Tryz.prog.funcNamed name=some k) (hg:Tryz.prog.funcs[k]? = some g) (hall:(g.params.toList.all fun t=>Tryz.prog.wantsStandIn t==false)=true)
  (f:FuncId) (fn:Func) (hf:Tryz.pinned.checked.prog.funcNamed name=some f) (hfn:Tryz.pinned.checked.prog.funcs[f]? = some fn) :
  false=Tryz.pinned.checked.prog.looks []∧∀(j:Nat) t,fn.params[j]? = some t→Tryz.pinned.checked.prog.wantsStandIn t=false:=by
 obtain rfl:f=k:=Option.some.inj (hn.symm.trans hf) |>.symm
 obtain rfl:fn=g:=(Option.some.inj (hg.symm.trans hfn)).symm
 refine ⟨noLooks,fun j t ht=>?_⟩
 have h:Tryz.prog.wantsStandIn t=false:=by simpa using List.all_eq_true.1 hall t (Array.mem_toList_iff.2 (Array.mem_of_getElem? ht))
 exact h
end Go.Proofs.YtldfjimgfnjdjaaGreatDoor
namespace Go.Proofs.Tryz
open Go Ps
def ttK:TT:=[(2,⟨.int .i64,1,8,[.int .i64 0]⟩),(3,⟨.int .i64,1,8,[.int .i64 0]⟩),(4,⟨.bool,1,1,[.bool false]⟩),(5,⟨.int .u8,1,1,[.int .u8 0]⟩),(9,⟨.str,1,16,[.str []]⟩),(22,⟨.slice 9,1,24,[.slice 0 [] (some 9)]⟩),(23,⟨.ptr,1,8,[.ptr none]⟩),(25,⟨.slice 5,1,24,[.slice 0 [] (some 5)]⟩),(26,⟨.int .i64,1,8,[.int .i64 0]⟩),(28,⟨.ptr,1,8,[.ptr none]⟩),(29,⟨.ptr,1,8,[.ptr none]⟩),(31,⟨.arr 32 5,32,32,List.replicate 32 (.int .u8 0)⟩),(33,⟨.strct [(28,0),(29,1),(3,2),(31,3),(3,35)],36,64,[.ptr none,.ptr none,.int .i64 0]++List.replicate 32 (.int .u8 0)++[.int .i64 0]⟩),(36,⟨.strct [(9,0),(9,1)],2,32,[.str [],.str []]⟩),(43,⟨.strct [(3,0),(3,1),(9,2),(9,3),(3,4),(25,5),(3,6)],7,88,[.int .i64 0,.int .i64 0,.str [],.str [],.int .i64 0,.slice 0 [] (some 5),.int .i64 0]⟩),(51,⟨.strct [(36,0),(36,2),(3,4),(3,5)],6,80,[.str [],.str [],.str [],.str [],.int .i64 0,.int .i64 0]⟩),(53,⟨.strct [(36,0),(3,2),(25,3)],4,64,[.str [],.str [],.int .i64 0,.slice 0 [] (some 5)]⟩),(55,⟨.strct [(53,0),(25,4),(36,5),(3,7),(3,8)],9,136,[.str [],.str [],.int .i64 0,.slice 0 [] (some 5),.slice 0 [] (some 5),.str [],.str [],.int .i64 0,.int .i64 0]⟩),(57,⟨.strct [(36,0),(53,2),(25,6)],7,120,[.str [],.str [],.str [],.str [],.int .i64 0,.slice 0 [] (some 5),.slice 0 [] (some 5)]⟩),(59,⟨.strct [(53,0),(25,4)],5,88,[.str [],.str [],.int .i64 0,.slice 0 [] (some 5),.slice 0 [] (some 5)]⟩),(61,⟨.strct [(26,0),(3,1)],2,16,[.int .i64 0,.int .i64 0]⟩),(63,⟨.strct [(3,0),(51,1),(55,7),(57,16),(59,23),(61,28)],30,448,[.int .i64 0,.str [],.str [],.str [],.str [],.int .i64 0,.int .i64 0,.str [],.str [],.int .i64 0,.slice 0 [] (some 5),.slice 0 [] (some 5),.str [],.str [],.int .i64 0,.int .i64 0,.str [],.str [],.str [],.str [],.int .i64 0,.slice 0 [] (some 5),.slice 0 [] (some 5),.str [],.str [],.int .i64 0,.slice 0 [] (some 5),.slice 0 [] (some 5),.int .i64 0,.int .i64 0]⟩),(73,⟨.strct [(36,0),(3,2),(3,3)],4,48,[.str [],.str [],.int .i64 0,.int .i64 0]⟩),(83,⟨.strct [(53,0),(31,4),(3,36)],37,104,[.str [],.str [],.int .i64 0,.slice 0 [] (some 5)]++List.replicate 32 (.int .u8 0)++[.int .i64 0]⟩),(86,⟨.slice 156,1,24,[.slice 0 [] (some 156)]⟩),(88,⟨.strct [(86,0)],1,24,[.slice 0 [] (some 156)]⟩),(90,⟨.strct [(36,0),(31,2),(88,34),(3,35),(3,36),(3,37),(3,38),(3,39),(3,40),(36,41),(22,43),(31,44),(3,76),(4,77)],78,240,[.str [],.str []]++List.replicate 32 (.int .u8 0)++[.slice 0 [] (some 156)]++List.replicate 6 (.int .i64 0)++[.str [],.str [],.slice 0 [] (some 9)]++List.replicate 32 (.int .u8 0)++[.int .i64 0,.bool false]⟩),(100,⟨.ptr,1,8,[.ptr none]⟩),(105,⟨.strB [(102,0),(103,0),(2,0)],1,8,[.int .i64 0]⟩),(106,⟨.ptr,1,8,[.ptr none]⟩),(108,⟨.strct [(3,0),(106,1),(3,2),(4,3)],4,32,[.int .i64 0,.ptr none,.int .i64 0,.bool false]⟩),(110,⟨.strct [(36,0),(31,2),(100,34),(105,35),(105,36),(105,37),(3,38),(26,39),(3,40),(36,41),(22,43),(108,44)],48,208,[.str [],.str []]++List.replicate 32 (.int .u8 0)++[.ptr none]++List.replicate 6 (.int .i64 0)++[.str [],.str [],.slice 0 [] (some 9),.int .i64 0,.ptr none,.int .i64 0,.bool false]⟩),(123,⟨.strct [(31,0),(36,32),(3,34),(3,35),(3,36)],37,88,List.replicate 32 (.int .u8 0)++[.str [],.str [],.int .i64 0,.int .i64 0,.int .i64 0]⟩),(156,⟨.strct [(36,0),(83,2)],39,136,[.str [],.str [],.str [],.str [],.int .i64 0,.slice 0 [] (some 5)]++List.replicate 32 (.int .u8 0)++[.int .i64 0]⟩),(158,⟨.map 36 83,1,8,[.undef]⟩),(160,⟨.strct [(158,0)],1,8,[.undef]⟩),(164,⟨.fn,1,8,[.nilF]⟩),(171,⟨.fn,1,8,[.nilF]⟩)]
theorem ttK_ok:ttOk prog ttK=true:=by kernel_rfl
def imm13:List Nat:=[]
def imm14:List Nat:=[4]
def imm15:List Nat:=[]
def imm16:List Nat:=[]
def imm17:List Nat:=[]
def imm18:List Nat:=[3]
def imm20:List Nat:=[]
def imm21:List Nat:=[]
def imm25:List Nat:=[]
def imm26:List Nat:=[]
def imm34:List Nat:=[2,3]
def imm37:List Nat:=[2,3]
def imm38:List Nat:=[1]
def imm39:List Nat:=[]
def imm40:List Nat:=[4]
def imm41:List Nat:=[]
def imm42:List Nat:=[4,6,7]
def imm43:List Nat:=[2,3]
def imm45:List Nat:=[]
def imm47:List Nat:=[5,6,7]
def imm48:List Nat:=[5,6]
def imm49:List Nat:=[]
def imm69:List Nat:=[]
def imm77:List Nat:=[]
def imm80:List Nat:=[]
def imm81:List Nat:=[]
def imm82:List Nat:=[]
def imm83:List Nat:=[]
def imm84:List Nat:=[]
def imm85:List Nat:=[]
def imm91:List Nat:=[3,4]
def krb (r:List UInt8):List UInt8:=krbB++r
def isUserB (r n:List UInt8):Bool:=isPrincB r n&&!(targetB n).2
theorem c39 (n:Int):Pure prog 39 [.int .i64 n] (.bool (inZ n 0 1073741824)):=by
 intro H
 (refine fnS (imm:=imm39) ttK_ok func39 ?_;(conv=>whnf))
 unfold inZ
 refine ⟨fun h=>?_,fun h=>?_⟩
 ·have h:(0:Int)≤n:=h
  conv=>whnf
  refine ⟨fun h2=>?_,fun h2=>?_⟩
  ·have h2:n≤1073741824:=h2
   conv=>whnf
   exact ⟨zqm PV.bool (by rw [zqe h,zqe h2];rfl),rfl⟩
  ·have h2:¬n≤1073741824:=h2
   conv=>whnf
   exact ⟨zqm PV.bool (by rw [zqd h2,zq3]),rfl⟩
 ·have h:¬(0:Int)≤n:=h
  conv=>whnf
  exact ⟨zqm PV.bool (by rw [zqd h,zq4]),rfl⟩
theorem c81 (r:List UInt8) (hr:r.length≤1099511627775):Pure prog 81 [.str r] (.str (krb r)):=by
 intro H
 (refine fnS (imm:=imm81) ttK_ok func81 ?_;(conv=>whnf))
 refine ⟨by show 7+r.length≤9223372036854775807;omega,?_⟩
 conv=>whnf
 exact ⟨rfl,rfl⟩
theorem c49 (r:List UInt8) (hr:r.length≤1099511627775):Pure prog 49 [.str r] (.str (krb r)):=by
 intro H
 (refine fnS (imm:=imm49) ttK_ok func49 ?_;(conv=>whnf))
 refine ⟨by show 7+r.length≤9223372036854775807;omega,?_⟩
 conv=>whnf
 exact ⟨rfl,rfl⟩
theorem c38 (r n:List UInt8) (h1:r.length≤1099511627775) (h2:n.length≤1099511627775):Pure prog 38 [.agg [.str r,.str n]] (.bool (isUserB r n)):=by
 intro H
 have k78:=c78 n h2
 have k79:=c79 r n h1 h2
 unfold isUserB
 generalize (targetB n).1=t1 at *
 generalize (targetB n).2=t2 at *
 generalize isPrincB r n=b at *
 cases b
 ·(refine fnS (imm:=imm38) ttK_ok func38 ?_;(conv=>whnf))
  (repeat (first | ((first | (apply exA;(focus exact oN)) | refine bT ?_ | refine bF ?_ | refine bW (bT ?_) | refine bW (bF ?_) | (apply cP;(focus assumption)) | (apply cE;(focus assumption)) | refine ⟨by first | decide | omega,?_⟩);((conv=>whnf))) | ((conv in (_[_]?)=>tactic=>first | exact oL | exact gS (by assumption));(conv=>whnf))))
  exact ⟨rfl,rfl⟩
 ·(refine fnS (imm:=imm38) ttK_ok func38 ?_;(conv=>whnf))
  (repeat (first | ((first | (apply exA;(focus exact oN)) | refine bT ?_ | refine bF ?_ | refine bW (bT ?_) | refine bW (bF ?_) | (apply cP;(focus assumption)) | (apply cE;(focus assumption)) | refine ⟨by first | decide | omega,?_⟩);((conv=>whnf))) | ((conv in (_[_]?)=>tactic=>first | exact oL | exact gS (by assumption));(conv=>whnf))))
  exact ⟨rfl,rfl⟩
def tillI (now:Int):Int:=min (now+1000) 1073741824
theorem c84 (now:Int) (h0:0≤now) (h1:now≤1073741824):Pure prog 84 [.int .i64 now] (.int .i64 (tillI now)):=by
 intro H
 have hw:IntKind.i64.wrap (now+1000)=now+1000:=w64 (by omega) (by omega)
 (refine fnS (imm:=imm84) ttK_ok func84 ?_;(conv=>whnf))
 exact ⟨zqm (PV.int .i64) (by rw [hw];rfl),rfl⟩
theorem gA2 (H:PH) (a b:PObj):(H++[a]++[b])[H.length]? = some a:=by rw [List.append_assoc,zqi (zqn _),Nat.sub_self];rfl
theorem sA2 (H:PH) (a b a':PObj):(H++[a]++[b]).set H.length a'=H++[a']++[b]:=by rw [List.append_assoc,List.set_append_right _ _ (zqn _),Nat.sub_self,List.append_assoc];rfl
theorem sA1 (H:PH) (a a':PObj):(H++[a]).set H.length a'=H++[a']:=by rw [List.set_append_right _ _ (zqn _),Nat.sub_self];rfl
theorem gB2 (H:PH) (a b c:PObj):(H++[a]++[b])[(H++[c]).length]? = some b:=by rw [show (H++[c]).length=(H++[a]).length by simp];exact gL _ _
theorem sB3 (H:PH) (a b c b':PObj):(H++[a]++[b]).set (H++[c]).length b'=H++[a]++[b']:=by rw [show (H++[c]).length=(H++[a]).length by simp];exact sA1 _ _ _
theorem old_crd (c:Crd):oldPs c.cells=true:=by simp [Crd.cells,keyC,bC,oldPs,oldP,oldPs_bytes]
def crdC (r n:List UInt8) (kv:Int) (b:List UInt8) (ow:Option Nat) (k:Nat→UInt8) (en:Int):List PV:=[.str r,.str n]++[.int .i64 kv,.slice b.length (b.map bC) ow]++keyC k++[.int .i64 en]
theorem c91 (r n:List UInt8) (c:Crd) (now:Int):Pure prog 91 [.agg [.str r,.str n],.agg c.cells,.elem [.int .i64 now]] (.bool (decide (c.en<now))):=by
 intro H
 (refine fnS (imm:=imm91) ttK_ok func91 ?_;(conv=>whnf))
 refine ⟨fun h=>?_,fun h=>?_⟩
 ·have h:c.en<now:=h
  conv=>whnf
  exact ⟨zqm PV.bool (by rw [zqe h]),rfl⟩
 ·have h:¬c.en<now:=h
  conv=>whnf
  exact ⟨zqm PV.bool (by rw [zqd h]),rfl⟩
theorem c80 (c:Crd) (hb:c.b.length≤1000000):Pure prog 80 [.agg c.cells] (.agg c.cells):=by
 refine Pure.of_gc (old_crd c) fun H=>?_
 have k131:=c131 c.b (by omega)
 have g1:=gA2 H ⟨83,c.cells,0⟩ z83c
 have s1:=sA2 H ⟨83,c.cells,0⟩ z83c ⟨83,crdC c.r c.n c.kv c.b (some 5) c.k c.en,1⟩
 (refine fnS (imm:=imm80) ttK_ok func80 ?_;(conv=>whnf))
 ((conv in (_[_]?)=>tactic=>exact g1);(conv=>whnf))
 refine cP k131 ?_
 conv=>whnf
 ((conv in (_[_]?)=>tactic=>exact g1);(conv=>whnf))
 ((conv in (_[_]?)=>tactic=>exact (show _=some (⟨83,crdC c.r c.n c.kv c.b (some 5) c.k c.en,1⟩:PObj) from (zqm (fun X:PH=>X[H.length]?) s1).trans (gA2 H _ z83c)));(conv=>whnf))
 ((conv in (_[_]?)=>tactic=>exact (show _=some z83c from (zqm (fun X:PH=>X[(H++[(⟨83,c.cells,0⟩:PObj)]).length]?) s1).trans (gB2 H _ z83c _)));(conv=>whnf))
 ((conv in (_[_]?)=>tactic=>exact (show _=some (⟨83,c.cells,1⟩:PObj) from (zqm (fun X:PH=>(X.set (H++[(⟨83,c.cells,0⟩:PObj)]).length (⟨83,c.cells,1⟩:PObj))[(H++[(⟨83,c.cells,0⟩:PObj)]).length]?) s1).trans ((zqm (fun X:PH=>X[(H++[(⟨83,c.cells,0⟩:PObj)]).length]?) (sB3 H _ z83c _ _)).trans (gB2 H _ _ _))));(conv=>whnf))
 exact ⟨rfl,_,(zqm (fun X:PH=>X.set (H++[(⟨83,c.cells,0⟩:PObj)]).length (⟨83,c.cells,1⟩:PObj)) s1).trans ((sB3 H _ z83c _ _).trans (List.append_assoc _ _ _))⟩
/-! The cache. -/
def cacheC:List Crd→List PV
 | []=>[]
 | c::L=>.agg [.str c.r,.str c.n]::.agg c.cells::cacheC L
def cacheO (mid:Nat) (v:Nat):PObj:=⟨160,[.mref mid],v⟩
def mapO (L:List Crd) (v:Nat):PObj:=⟨158,cacheC L,v⟩
def Crd.is (r n:List UInt8) (c:Crd):Bool:=decide (c.r=r)&&decide (c.n=n)
def findL (r n:List UInt8) (L:List Crd):Option Crd:=L.find? (Crd.is r n)
theorem Crd.is_iff {r n:List UInt8} {c:Crd}:c.is r n=true↔c.r=r∧c.n=n:=by
 unfold Crd.is;rw [zqb];exact ⟨fun h=>⟨of_decide_eq_true h.1,of_decide_eq_true h.2⟩,fun h=>⟨zqe h.1,zqe h.2⟩⟩
theorem keyEq {r n:List UInt8} {c:Crd}:(PV.agg [.str r,.str n]=PV.agg [.str c.r,.str c.n])↔c.is r n=true:=by
 rw [Crd.is_iff]
 constructor
 ·intro h
  injection h with h
  injection h with h1 h2
  injection h1 with h1
  injection h2 with h2 _
  injection h2 with h2
  exact ⟨h1.symm,h2.symm⟩
 ·rintro ⟨h1,h2⟩;rw [h1,h2]
theorem mapFind_none {r n:List UInt8} {K:Option (Nat×PV)→Prop} (k:K none):∀{L:List Crd} (i:Nat),findL r n L=none→mapFind (.agg [.str r,.str n]) i (cacheC L) K
 | [],_,_=>k
 | c::L,i,h=>by
  unfold findL at h
  rw [List.find?_cons] at h
  refine ⟨fun e=>?_,fun _=>mapFind_none k (i+1) ?_⟩
  ·rw [keyEq.1 e] at h;cases h
  ·cases hc:c.is r n
   ·rw [hc] at h;exact h
   ·rw [hc] at h;cases h
theorem mapFind_some {r n:List UInt8} {K:Option (Nat×PV)→Prop} {c:Crd}:∀{L:List Crd} (i:Nat),findL r n L=some c→(∀j,L[j]? = some c→K (some (i+j,.agg c.cells)))→mapFind (.agg [.str r,.str n]) i (cacheC L) K
 | [],_,h,_=>by cases h
 | x::L,i,h,k=>by
  unfold findL at h
  rw [List.find?_cons] at h
  refine ⟨fun e=>?_,fun e=>mapFind_some (i+1) (c:=c) ?_ (fun j hj=>?_)⟩
  ·rw [keyEq.1 e] at h
   cases h
   exact k 0 rfl
  ·cases hc:x.is r n
   ·rw [hc] at h;exact h
   ·exact absurd (keyEq.2 hc) e
  ·have:=k (j+1) hj
   rwa [show i+(j+1)=i+1+j by omega] at this
theorem kf36 (r n:List UInt8):keyFit ttK 36 (.agg [.str r,.str n]):=⟨rfl,⟨by show 1≤2;omega,r,rfl⟩,rfl,⟨by show 1≤1;omega,n,rfl⟩,rfl⟩
theorem ksL:∀L:List Crd,keysFit ttK 36 (cacheC L)
 | []=>trivial
 | c::L=>⟨kf36 c.r c.n,ksL L⟩
theorem cacheC_get:∀(L:List Crd) (i:Nat) (k v:PV),(cacheC L)[2*i]? = some k→(cacheC L)[2*i+1]? = some v→∃c∈L,k=.agg [.str c.r,.str c.n]∧v=.agg c.cells
 | [],i,k,v,h,_=>by simp [cacheC] at h
 | c::L,0,k,v,h1,h2=>by
  simp [cacheC] at h1 h2
  exact ⟨c,List.mem_cons_self,h1.symm,h2.symm⟩
 | c::L,i+1,k,v,h1,h2=>by
  obtain ⟨x,hx,h⟩:=cacheC_get L i k v (by simpa [cacheC,show 2*(i+1)=2*i+1+1 by omega] using h1) (by simpa [cacheC,show 2*(i+1)+1=2*i+1+1+1 by omega] using h2)
  exact ⟨x,List.mem_cons_of_mem _ hx,h⟩
theorem cacheC_len:∀L:List Crd,(cacheC L).length=2*L.length
 | []=>rfl
 | c::L=>by simp [cacheC,cacheC_len L];omega
def Xt (H H':PH):Prop:=∃ext,H'=H++ext
theorem Xt.refl (H:PH):Xt H H:=⟨[],by simp⟩
theorem Xt.app {H H':PH} (h:Xt H H') (l:PH):Xt H (H'++l):=by obtain ⟨e,rfl⟩:=h;exact ⟨e++l,by simp⟩
theorem Xt.set {H H':PH} (h:Xt H H') {i:Nat} (hi:H.length≤i) (o:PObj):Xt H (H'.set i o):=by
 obtain ⟨e,rfl⟩:=h
 exact ⟨_,List.set_append_right _ _ hi⟩
theorem Xt.get {H H':PH} (h:Xt H H') {i:Nat} {o:PObj} (ho:H[i]? = some o):H'[i]? = some o:=by
 obtain ⟨e,rfl⟩:=h
 rw [zq2 (zq1.1 ho).1];exact ho
theorem Xt.len {H H':PH} (h:Xt H H'):H.length≤H'.length:=by obtain ⟨e,rfl⟩:=h;simp
theorem drawK_at {P:Program} {tt:TT} {imm:List Nat} {N:Nat} {ops:List Oper} {E:Env} {H Y:PH} {K:Env→PH→Prop} (e:H=Y) (h:drawK P tt imm N ops E Y K):drawK P tt imm N ops E H K:=e▸h
theorem callK_at {P:Program} {f:Nat} {args:List PV} {H Y:PH} {K:PV→PH→Prop} (e:H=Y) (h:callK P f args Y K):callK P f args H K:=e▸h
theorem oR {A:Prop} (h:A:=by (conv=>whnf);exact ⟨⟨rfl,rfl,zqv⟩,gL _ _⟩):A:=h
theorem drawK_of3 {P:Program} {tt:TT} {imm:List Nat} {N:Nat} {ops:List Oper} {E:Env} {H:PH} {K:Env→PH→Prop} (D:Draw) (Hs:List PH) (Hf:PH) (h0:drawOk N ops D=true) (h1:startOk D H Hs)
  (h2:pVers D Hs D.fs) (hf:hk Hs (cnt D.isImp ops.length)=Hf) (h:pDr2 P tt imm ops D Hs 0 ops E fun E'=>K E' Hf):drawK P tt imm N ops E H K :=
 dO2 D Hs h0 h1 h2 (by rw [hf];exact h)
def zCrd:Crd:=⟨[],[],0,[],fun _=>0,0⟩
def D40 (b:Nat):Draw:={ imp:=[10],win:=[(8,0,1),(11,1,1)],robs:=[z83c],res:=[(9,0)],base:=b }
theorem c40n {H:PH} {caid mid v v2:Nat} {L:List Crd} {r n:List UInt8} (now:Int) (hc:H[caid]? = some (cacheO mid v)) (hm:H[mid]? = some (mapO L v2)) (hf:findL r n L=none) :
  CK prog 40 [.ptr (some (caid,0)),.agg [.str r,.str n],.int .i64 now] H fun x H'=>x=.tup [.agg zCrd.cells,.bool false]∧H'=H:=by
 refine (CK.gc (Q:=fun x H'=>x=.tup [.agg zCrd.cells,.bool false]∧Xt H H') ?_ (fun r H' h=>⟨by rw [h.1];rfl,h.2⟩)).mono (fun x H' h=>⟨h.2.choose_spec.1,h.1⟩)
 have e1:=(Xt.refl H).app [z83c]
 have hlt:=e1.len
 have g1:(H++[z83c])[H.length]? = some z83c:=gL _ _
 generalize hX:H++[z83c]=X at *
 have e2:=e1.app [z83c]
 have hc2:=e2.get hc
 have hm2:=e2.get hm
 have hg2:=gL X z83c
 have hXl:H.length<X.length:=by rw [←hX];simp
 obtain ⟨Y,hY⟩:∃Y,(X++[z83c]).set X.length ⟨83,z83c.cs,1⟩=Y:=⟨_,rfl⟩
 have e3:Xt H Y:=hY▸e2.set hlt _
 have g3:Y[H.length]? = some z83c:=by rw [←hY,zqj (by omega),zq2 hXl];exact g1
 (refine fnS (imm:=imm40) ttK_ok func40 ?_;(conv=>whnf))
 refine drawK_at hX ?_
 refine drawK_of3 (D40 X.length) [X++[z83c],Y] Y (by kernel_rfl) ⟨rfl,rfl⟩ trivial rfl ?_
 conv=>whnf
 (repeat (first | ((first | (apply exA;(focus exact oN)) | refine bT ?_ | refine bF ?_ | refine bW (bT ?_) | refine bW (bF ?_) | (apply cP;(focus assumption)) | (apply cE;(focus assumption)) | refine ⟨by first | decide | omega,?_⟩);((conv=>whnf))) | ((conv in (_[_]?)=>tactic=>first | exact oL | exact gS (by assumption));(conv=>whnf))))
 apply exA
 ·conv=>whnf
  ((conv in (_[_]?)=>tactic=>exact hm2);(conv=>whnf))
  refine ⟨⟨kf36 _ _,ksL L⟩,?_⟩
  refine mapFind_none ?_ 0 hf
  exact ⟨rfl,rfl,zqv⟩
 conv=>whnf
 (repeat (first | ((first | (apply exA;(focus exact oN)) | refine bT ?_ | refine bF ?_ | refine bW (bT ?_) | refine bW (bF ?_) | (apply cP;(focus assumption)) | (apply cE;(focus assumption)) | refine ⟨by first | decide | omega,?_⟩);((conv=>whnf))) | ((conv in (_[_]?)=>tactic=>first | exact oL | exact gS (by assumption));(conv=>whnf))))
 apply exA
 ·exact oR
 conv=>whnf
 apply exA
 ·conv=>whnf
  ((conv in (_[_]?)=>tactic=>exact hg2);(conv=>whnf))
  exact ⟨rfl,hY,zqv⟩
 conv=>whnf
 (repeat (first | ((first | (apply exA;(focus exact oN)) | refine bT ?_ | refine bF ?_ | refine bW (bT ?_) | refine bW (bF ?_) | (apply cP;(focus assumption)) | (apply cE;(focus assumption)) | refine ⟨by first | decide | omega,?_⟩);((conv=>whnf))) | ((conv in (_[_]?)=>tactic=>first | exact oL | exact gS (by assumption));(conv=>whnf))))
 exact ⟨rfl,e3.set (zqn _) _⟩
theorem c40o {H:PH} {caid mid v v2:Nat} {L:List Crd} {r n:List UInt8} (now:Int) (hc:H[caid]? = some (cacheO mid v)) (hm:H[mid]? = some (mapO L v2)) {c:Crd} (hf:findL r n L=some c) (hen:c.en<now) :
  CK prog 40 [.ptr (some (caid,0)),.agg [.str r,.str n],.int .i64 now] H fun x H'=>x=.tup [.agg zCrd.cells,.bool false]∧H'=H:=by
 refine (CK.gc (Q:=fun x H'=>x=.tup [.agg zCrd.cells,.bool false]∧Xt H H') ?_ (fun r H' h=>⟨by rw [h.1];rfl,h.2⟩)).mono (fun x H' h=>⟨h.2.choose_spec.1,h.1⟩)
 have e1:=(Xt.refl H).app [z83c]
 have hlt:=e1.len
 have g1:(H++[z83c])[H.length]? = some z83c:=gL _ _
 generalize hX:H++[z83c]=X at *
 have e2:=e1.app [z83c]
 have hc2:=e2.get hc
 have hm2:=e2.get hm
 have hg2:=gL X z83c
 have hXl:H.length<X.length:=by rw [←hX];simp
 obtain ⟨Y,hY⟩:∃Y,(X++[z83c]).set X.length ⟨83,c.cells,1⟩=Y:=⟨_,rfl⟩
 have e3:Xt H Y:=hY▸e2.set hlt _
 have g3:Y[H.length]? = some z83c:=by rw [←hY,zqj (by omega),zq2 hXl];exact g1
 (refine fnS (imm:=imm40) ttK_ok func40 ?_;(conv=>whnf))
 refine drawK_at hX ?_
 refine drawK_of3 (D40 X.length) [X++[z83c],Y] Y (by kernel_rfl) ⟨rfl,rfl⟩ trivial rfl ?_
 conv=>whnf
 (repeat (first | ((first | (apply exA;(focus exact oN)) | refine bT ?_ | refine bF ?_ | refine bW (bT ?_) | refine bW (bF ?_) | (apply cP;(focus assumption)) | (apply cE;(focus assumption)) | refine ⟨by first | decide | omega,?_⟩);((conv=>whnf))) | ((conv in (_[_]?)=>tactic=>first | exact oL | exact gS (by assumption));(conv=>whnf))))
 apply exA
 ·conv=>whnf
  ((conv in (_[_]?)=>tactic=>exact hm2);(conv=>whnf))
  refine ⟨⟨kf36 _ _,ksL L⟩,?_⟩
  refine mapFind_some 0 hf (fun j _=>?_)
  exact ⟨rfl,rfl,zqv⟩
 conv=>whnf
 (repeat (first | ((first | (apply exA;(focus exact oN)) | refine bT ?_ | refine bF ?_ | refine bW (bT ?_) | refine bW (bF ?_) | (apply cP;(focus assumption)) | (apply cE;(focus assumption)) | refine ⟨by first | decide | omega,?_⟩);((conv=>whnf))) | ((conv in (_[_]?)=>tactic=>first | exact oL | exact gS (by assumption));(conv=>whnf))))
 apply exA
 ·exact oR
 conv=>whnf
 apply exA
 ·conv=>whnf
  ((conv in (_[_]?)=>tactic=>exact hg2);(conv=>whnf))
  exact ⟨rfl,hY,zqv⟩
 have g4:Y[X.length]? = some (⟨83,c.cells,1⟩:PObj):=by rw [←hY,List.getElem?_set_self (by simp)]
 conv=>whnf
 (repeat (first | ((first | (apply exA;(focus exact oN)) | refine bT ?_ | refine bF ?_ | refine bW (bT ?_) | refine bW (bF ?_) | (apply cP;(focus assumption)) | (apply cE;(focus assumption)) | refine ⟨by first | decide | omega,?_⟩);((conv=>whnf))) | ((conv in (_[_]?)=>tactic=>first | exact oL | exact gS (by assumption));(conv=>whnf))))
 exact ⟨rfl,e3.set (zqn _) _⟩
def putL:List Crd→Crd→List Crd
 | [],x=>[x]
 | c::L,x=>if c.is x.r x.n then x::L else c::putL L x
theorem putL_t {c x:Crd} {L:List Crd} (h:c.is x.r x.n=true):putL (c::L) x=x::L:=by unfold putL;rw [zqp h]
theorem putL_f {c x:Crd} {L:List Crd} (h:c.is x.r x.n=false):putL (c::L) x=c::putL L x:=by rw [putL,zqo (by rw [h];decide)]
theorem putL_len:∀(L:List Crd) (x:Crd),(putL L x).length≤L.length+1
 | [],x=>zqn _
 | c::L,x=>by
  unfold putL
  split
  ·simp
  ·simp [putL_len L x]
theorem putL_none:∀{L:List Crd} {x:Crd},findL x.r x.n L=none→cacheC L++[.agg [.str x.r,.str x.n],.agg x.cells]=cacheC (putL L x)
 | [],x,_=>rfl
 | c::L,x,h=>by
  unfold findL at h
  rw [List.find?_cons] at h
  cases hc:c.is x.r x.n with
  | true=>rw [hc] at h;cases h
  | false =>
   rw [hc] at h
   rw [putL_f hc]
   show _::_::(cacheC L++_)=_
   rw [putL_none h];rfl
theorem putL_some {x c:Crd} {K:Option (Nat×PV)→Prop}:∀{L:List Crd} (i:Nat),findL x.r x.n L=some c→(∀j,setCells (2*j+1) [.agg x.cells] (cacheC L)=cacheC (putL L x)→K (some (i+j,.agg c.cells)))→mapFind (.agg [.str x.r,.str x.n]) i (cacheC L) K
 | [],_,h,_=>by cases h
 | y::L,i,h,k=>by
  unfold findL at h
  rw [List.find?_cons] at h
  refine ⟨fun e=>?_,fun e=>putL_some (i+1) (x:=x) (c:=c) ?_ (fun j hj=>?_)⟩
  ·have hy:=keyEq.1 e
   rw [hy] at h
   cases h
   refine k 0 ?_
   rw [putL_t hy]
   show _=PV.agg [.str x.r,.str x.n]::.agg x.cells::cacheC L
   rw [e];simp [setCells,cacheC]
  ·cases hc:y.is x.r x.n
   ·rw [hc] at h;exact h
   ·exact absurd (keyEq.2 hc) e
  ·have hc:y.is x.r x.n=false:=by
    cases hc:y.is x.r x.n
    ·rfl
    ·exact absurd (keyEq.2 hc) e
   have:=k (j+1) (by
    rw [show 2*(j+1)+1=(2*j+1)+1+1 by omega]
    show _::_::setCells (2*j+1) _ (cacheC L)=_
    rw [hj,putL_f hc];rfl)
   rwa [show i+(j+1)=i+1+j by omega] at this
theorem Evo.xt {S:Nat→Prop} {H H':PH} (h:Xt H H'):Evo S H H':=by obtain ⟨e,rfl⟩:=h;exact Evo.app _ _
def fndC (o:Option Crd):List PV:=match o with | some c=>c.cells | none=>z83c.cs
structure MapAt (H:PH) (mid:Nat) (L:List Crd):Prop where
 ex:∃v,H[mid]? = some (mapO L v)
def D47 (b:Nat):Draw:={ imp:=[10],win:=[(8,0,1),(11,1,1)],robs:=[z83c],res:=[(9,0)],base:=b }
def D47b:Draw:={ imp:=[7] }
theorem c47 {H:PH} {caid mid v v2:Nat} {L:List Crd} (x:Crd) (now:Int) (hc:H[caid]? = some (cacheO mid v)) (hm:H[mid]? = some (mapO L v2)) (hne:caid≠mid) (hen:∀c∈L,¬c.en<now) (hL:L.length<10) (hb:x.b.length≤1000000) :
  ∃H1,MapAt H1 mid (putL L x)∧Evo (·=mid) H H1∧CK prog 47 [.ptr (some (caid,0)),.agg [.str x.r,.str x.n],.agg x.cells,.int .i64 now] H fun r H'=>r=.int .i64 0∧H'=H1:=by
 have e1:=(Xt.refl H).app [z83c]
 have hml:mid<H.length:=(zq1.1 hm).1
 have hg2:=gL H z83c
 have hc2:=e1.get hc
 have hm2:=e1.get hm
 have k90:=c90 hm (.elem [.int .i64 now]) rfl (fun h=>by cases h) (fun i k v h1 h2=>by
  obtain ⟨c,hcm,rfl,rfl⟩:=cacheC_get L i k v h1 h2
  exact ⟨⟨c,rfl,rfl⟩,(c91 c.r c.n c now).of_eq (by rw [zqd (hen c hcm)])⟩)
 obtain ⟨Y,hY⟩:∃Y,(H++[z83c]).set H.length ⟨83,fndC (findL x.r x.n L),1⟩=Y:=⟨_,rfl⟩
 have e3:Xt H Y:=hY▸e1.set (zqn _) _
 have hc3:=e3.get hc
 have hm3:=e3.get hm
 have k80:=c80 x hb
 have fin:MapAt (Y.set mid (mapO (putL L x) (v2+1))) mid (putL L x)∧Evo (·=mid) H (Y.set mid (mapO (putL L x) (v2+1))) :=
  ⟨⟨_,gS hm3⟩,(Evo.xt e3).trans (Evo.setOther hm3 rfl (fun h=>absurd (show 158=keyT from h) (by decide)) (fun h=>absurd (show 158=boxT from h) (by decide)))⟩
 refine ⟨_,fin.1,fin.2,?_⟩
 clear fin
 have hlen:¬(10:Int)≤((cacheC L).length / 2:Nat):=by rw [cacheC_len];omega
 cases hf:findL x.r x.n L with
 | none =>
  rw [hf] at hY
  (refine fnS (imm:=imm47) ttK_ok func47 ?_;(conv=>whnf))
  (repeat (first | ((first | (apply exA;(focus exact oN)) | refine bT ?_ | refine bF ?_ | refine bW (bT ?_) | refine bW (bF ?_) | (apply cP;(focus assumption)) | (apply cE;(focus assumption)) | refine ⟨by first | decide | omega,?_⟩);((conv=>whnf))) | ((conv in (_[_]?)=>tactic=>first | exact oL | exact gS (by assumption));(conv=>whnf))))
  refine drawK_of3 (D47 H.length) [H++[z83c],Y] Y (by kernel_rfl) ⟨rfl,rfl⟩ trivial rfl ?_
  conv=>whnf
  (repeat (first | ((first | (apply exA;(focus exact oN)) | refine bT ?_ | refine bF ?_ | refine bW (bT ?_) | refine bW (bF ?_) | (apply cP;(focus assumption)) | (apply cE;(focus assumption)) | refine ⟨by first | decide | omega,?_⟩);((conv=>whnf))) | ((conv in (_[_]?)=>tactic=>first | exact oL | exact gS (by assumption));(conv=>whnf))))
  apply exA
  ·conv=>whnf
   ((conv in (_[_]?)=>tactic=>exact hm2);(conv=>whnf))
   refine ⟨⟨kf36 _ _,ksL L⟩,?_⟩
   refine mapFind_none ?_ 0 hf
   exact ⟨rfl,rfl,zqv⟩
  conv=>whnf
  (repeat (first | ((first | (apply exA;(focus exact oN)) | refine bT ?_ | refine bF ?_ | refine bW (bT ?_) | refine bW (bF ?_) | (apply cP;(focus assumption)) | (apply cE;(focus assumption)) | refine ⟨by first | decide | omega,?_⟩);((conv=>whnf))) | ((conv in (_[_]?)=>tactic=>first | exact oL | exact gS (by assumption));(conv=>whnf))))
  apply exA
  ·exact oR
  conv=>whnf
  apply exA
  ·conv=>whnf
   ((conv in (_[_]?)=>tactic=>exact hg2);(conv=>whnf))
   exact ⟨rfl,hY,zqv⟩
  conv=>whnf
  (repeat (first | ((first | (apply exA;(focus exact oN)) | refine bT ?_ | refine bF ?_ | refine bW (bT ?_) | refine bW (bF ?_) | (apply cP;(focus assumption)) | (apply cE;(focus assumption)) | refine ⟨by first | decide | omega,?_⟩);((conv=>whnf))) | ((conv in (_[_]?)=>tactic=>first | exact oL | exact gS (by assumption));(conv=>whnf))))
  refine drawK_of3 D47b [Y,Y.set mid (mapO (putL L x) (v2+1))] _ (by kernel_rfl) rfl trivial rfl ?_
  conv=>whnf
  (repeat (first | ((first | (apply exA;(focus exact oN)) | refine bT ?_ | refine bF ?_ | refine bW (bT ?_) | refine bW (bF ?_) | (apply cP;(focus assumption)) | (apply cE;(focus assumption)) | refine ⟨by first | decide | omega,?_⟩);((conv=>whnf))) | ((conv in (_[_]?)=>tactic=>first | exact oL | exact gS (by assumption));(conv=>whnf))))
  apply exA
  ·conv=>whnf
   ((conv in (_[_]?)=>tactic=>exact hm3);(conv=>whnf))
   refine ⟨⟨kf36 _ _,ksL L⟩,?_⟩
   refine mapFind_none ?_ 0 hf
   exact ⟨rfl,zqm (fun cs=>Y.set mid (⟨158,cs,v2+1⟩:PObj)) (putL_none hf),zqv⟩
  conv=>whnf
  (repeat (first | ((first | (apply exA;(focus exact oN)) | refine bT ?_ | refine bF ?_ | refine bW (bT ?_) | refine bW (bF ?_) | (apply cP;(focus assumption)) | (apply cE;(focus assumption)) | refine ⟨by first | decide | omega,?_⟩);((conv=>whnf))) | ((conv in (_[_]?)=>tactic=>first | exact oL | exact gS (by assumption));(conv=>whnf))))
  exact ⟨rfl,rfl⟩
 | some c =>
  rw [hf] at hY
  (refine fnS (imm:=imm47) ttK_ok func47 ?_;(conv=>whnf))
  (repeat (first | ((first | (apply exA;(focus exact oN)) | refine bT ?_ | refine bF ?_ | refine bW (bT ?_) | refine bW (bF ?_) | (apply cP;(focus assumption)) | (apply cE;(focus assumption)) | refine ⟨by first | decide | omega,?_⟩);((conv=>whnf))) | ((conv in (_[_]?)=>tactic=>first | exact oL | exact gS (by assumption));(conv=>whnf))))
  refine drawK_of3 (D47 H.length) [H++[z83c],Y] Y (by kernel_rfl) ⟨rfl,rfl⟩ trivial rfl ?_
  conv=>whnf
  (repeat (first | ((first | (apply exA;(focus exact oN)) | refine bT ?_ | refine bF ?_ | refine bW (bT ?_) | refine bW (bF ?_) | (apply cP;(focus assumption)) | (apply cE;(focus assumption)) | refine ⟨by first | decide | omega,?_⟩);((conv=>whnf))) | ((conv in (_[_]?)=>tactic=>first | exact oL | exact gS (by assumption));(conv=>whnf))))
  apply exA
  ·conv=>whnf
   ((conv in (_[_]?)=>tactic=>exact hm2);(conv=>whnf))
   refine ⟨⟨kf36 _ _,ksL L⟩,?_⟩
   refine mapFind_some 0 hf (fun j _=>?_)
   exact ⟨rfl,rfl,zqv⟩
  conv=>whnf
  (repeat (first | ((first | (apply exA;(focus exact oN)) | refine bT ?_ | refine bF ?_ | refine bW (bT ?_) | refine bW (bF ?_) | (apply cP;(focus assumption)) | (apply cE;(focus assumption)) | refine ⟨by first | decide | omega,?_⟩);((conv=>whnf))) | ((conv in (_[_]?)=>tactic=>first | exact oL | exact gS (by assumption));(conv=>whnf))))
  apply exA
  ·exact oR
  conv=>whnf
  apply exA
  ·conv=>whnf
   ((conv in (_[_]?)=>tactic=>exact hg2);(conv=>whnf))
   exact ⟨rfl,hY,zqv⟩
  conv=>whnf
  (repeat (first | ((first | (apply exA;(focus exact oN)) | refine bT ?_ | refine bF ?_ | refine bW (bT ?_) | refine bW (bF ?_) | (apply cP;(focus assumption)) | (apply cE;(focus assumption)) | refine ⟨by first | decide | omega,?_⟩);((conv=>whnf))) | ((conv in (_[_]?)=>tactic=>first | exact oL | exact gS (by assumption));(conv=>whnf))))
  refine drawK_of3 D47b [Y,Y.set mid (mapO (putL L x) (v2+1))] _ (by kernel_rfl) rfl trivial rfl ?_
  conv=>whnf
  (repeat (first | ((first | (apply exA;(focus exact oN)) | refine bT ?_ | refine bF ?_ | refine bW (bT ?_) | refine bW (bF ?_) | (apply cP;(focus assumption)) | (apply cE;(focus assumption)) | refine ⟨by first | decide | omega,?_⟩);((conv=>whnf))) | ((conv in (_[_]?)=>tactic=>first | exact oL | exact gS (by assumption));(conv=>whnf))))
  apply exA
  ·conv=>whnf
   ((conv in (_[_]?)=>tactic=>exact hm3);(conv=>whnf))
   refine ⟨⟨kf36 _ _,ksL L⟩,?_⟩
   refine putL_some 0 hf (fun j hj=>?_)
   exact ⟨rfl,(zqm (fun j=>Y.set mid (⟨158,setCells (2*j+1) [.agg x.cells] (cacheC L),v2+1⟩:PObj)) (Nat.zero_add j)).trans (zqm (fun cs=>Y.set mid (⟨158,cs,v2+1⟩:PObj)) hj),zqv⟩
  conv=>whnf
  (repeat (first | ((first | (apply exA;(focus exact oN)) | refine bT ?_ | refine bF ?_ | refine bW (bT ?_) | refine bW (bF ?_) | (apply cP;(focus assumption)) | (apply cE;(focus assumption)) | refine ⟨by first | decide | omega,?_⟩);((conv=>whnf))) | ((conv in (_[_]?)=>tactic=>first | exact oL | exact gS (by assumption));(conv=>whnf))))
  exact ⟨rfl,rfl⟩
structure Cs where
 r:List UInt8
 n:List UInt8
 k:Nat→UInt8
 ca:Nat
 nn:Int
 sn:Int
 qn:Int
 st:Int
 er:Int
 se:Int
 tr:List UInt8
 tn:List UInt8
 vis:PV
 on:Int
 ob:PV
 ou:Int
 fi:Bool
def cliO (c:Cs) (v:Nat):PObj:=⟨110,[.str c.r,.str c.n]++keyC c.k++[.ptr (some (c.ca,0)),.int .i64 c.nn,.int .i64 c.sn,.int .i64 c.qn,.int .i64 c.st,.int .i64 c.er,.int .i64 c.se,.str c.tr,.str c.tn,c.vis,.int .i64 c.on,c.ob,.int .i64 c.ou,.bool c.fi],v⟩
theorem cliT (c:Cs) (v:Nat):(cliO c v).T≠keyT∧(cliO c v).T≠boxT:=⟨fun h=>absurd (show 110=keyT from h) (by decide),fun h=>absurd (show 110=boxT from h) (by decide)⟩
theorem cacheOT (m:Nat) (v:Nat):(cacheO m v).T≠keyT∧(cacheO m v).T≠boxT:=⟨fun h=>absurd (show 160=keyT from h) (by decide),fun h=>absurd (show 160=boxT from h) (by decide)⟩
theorem mapOT (L:List Crd) (v:Nat):(mapO L v).T≠keyT∧(mapO L v).T≠boxT:=⟨fun h=>absurd (show 158=keyT from h) (by decide),fun h=>absurd (show 158=boxT from h) (by decide)⟩
structure Cl (H:PH) (cid mid:Nat) (c:Cs) (L:List Crd):Prop where
 o:∃v,H[cid]? = some (cliO c v)
 a:∃v,H[c.ca]? = some (cacheO mid v)
 m:MapAt H mid L
theorem ne_of_T {H:PH} {i j:Nat} {o p:PObj} (h:H[i]? = some o) (k:H[j]? = some p) (hn:o.T≠p.T):i≠j:=fun e=>by
 subst e
 rw [h] at k;cases k
 exact hn rfl
theorem Cl.ne {H:PH} {cid mid:Nat} {c:Cs} {L:List Crd} (h:Cl H cid mid c L):cid≠c.ca∧cid≠mid∧c.ca≠mid:=by
 obtain ⟨⟨v,h1⟩,⟨w,h2⟩,⟨u,h3⟩⟩:=h
 exact ⟨ne_of_T h1 h2 (show 110≠160 by decide),ne_of_T h1 h3 (show 110≠158 by decide),ne_of_T h2 h3 (show 160≠158 by decide)⟩
theorem Cl.evo {S:Nat→Prop} {H H':PH} {cid mid:Nat} {c:Cs} {L:List Crd} (h:Cl H cid mid c L) (k:Evo S H H') (h1:¬S cid) (h2:¬S c.ca) (h3:¬S mid):Cl H' cid mid c L:=by
 obtain ⟨⟨v,g1⟩,⟨w,g2⟩,⟨u,g3⟩⟩:=h
 exact ⟨⟨v,k.same _ _ g1 h1 (cliT ..).1 (cliT ..).2⟩,⟨w,k.same _ _ g2 h2 (cacheOT ..).1 (cacheOT ..).2⟩,⟨u,k.same _ _ g3 h3 (mapOT ..).1 (mapOT ..).2⟩⟩
theorem Cl.put {H:PH} {cid mid:Nat} {c:Cs} {L:List Crd} (h:Cl H cid mid c L) (c':Cs) (hca:c'.ca=c.ca) (v:Nat):Cl (H.set cid (cliO c' v)) cid mid c' L∧Evo (·=cid) H (H.set cid (cliO c' v)):=by
 have hn:=h.ne
 obtain ⟨⟨w,g1⟩,⟨x,g2⟩,⟨u,g3⟩⟩:=h
 have he:Evo (·=cid) H (H.set cid (cliO c' v)):=Evo.setOther g1 rfl (cliT ..).1 (cliT ..).2
 refine ⟨⟨⟨v,gS g1⟩,⟨x,?_⟩,⟨u,?_⟩⟩,he⟩
 ·rw [hca];exact he.same _ _ g2 (Ne.symm hn.1) (cacheOT ..).1 (cacheOT ..).2
 ·exact he.same _ _ g3 (Ne.symm hn.2.1) (mapOT ..).1 (mapOT ..).2
theorem Cl.xt {H H':PH} {cid mid:Nat} {c:Cs} {L:List Crd} (h:Cl H cid mid c L) (e:Xt H H'):Cl H' cid mid c L:=by
 obtain ⟨⟨v,g1⟩,⟨w,g2⟩,⟨u,g3⟩⟩:=h
 exact ⟨⟨v,e.get g1⟩,⟨w,e.get g2⟩,⟨u,e.get g3⟩⟩
def Wc (cid mid:Nat) (i:Nat):Prop:=i=cid∨i=mid
theorem Evo.no {S:Nat→Prop} {H H':PH} (h:Evo (fun _=>False) H H'):Evo S H H':=h.mono fun _ h=>h.elim
theorem Evo.c {cid mid:Nat} {H H':PH} (h:Evo (·=cid) H H'):Evo (Wc cid mid) H H':=h.mono fun _ h=>.inl h
theorem Evo.m {cid mid:Nat} {H H':PH} (h:Evo (·=mid) H H'):Evo (Wc cid mid) H H':=h.mono fun _ h=>.inr h
def z36o:PObj:=⟨36,[.str [],.str []],0⟩
def D41:Draw:={ imp:=[12] }
theorem c41 {H:PH} {cid:Nat} {c:Cs} {v:Nat} (ho:H[cid]? = some (cliO c v)) (hr:c.r.length≤1000000) :
  CK prog 41 [.ptr (some (cid,0))] H fun x H'=>x=.agg [.str c.r,.str (krb c.r)]∧H'=H:=by
 refine (CK.gc (Q:=fun x H'=>x=.agg [.str c.r,.str (krb c.r)]∧Xt H H') ?_ (fun r H' h=>⟨by rw [h.1];rfl,h.2⟩)).mono (fun x H' h=>⟨h.2.choose_spec.1,h.1⟩)
 have e1:=(Xt.refl H).app [z36o]
 have ho1:=e1.get ho
 have hg:=gL H z36o
 have k81:=c81 c.r (by omega)
 have e2:=e1.set (zqn _) (⟨36,[.str c.r,.str (krb c.r)],1⟩:PObj)
 (refine fnS (imm:=imm41) ttK_ok func41 ?_;(conv=>whnf))
 refine drawK_of3 D41 [H++[z36o],(H++[z36o]).set H.length ⟨36,[.str c.r,.str (krb c.r)],1⟩] _ (by kernel_rfl) rfl trivial rfl ?_
 conv=>whnf
 (repeat (first | ((first | (apply exA;(focus exact oN)) | refine bT ?_ | refine bF ?_ | refine bW (bT ?_) | refine bW (bF ?_) | (apply cP;(focus assumption)) | (apply cE;(focus assumption)) | refine ⟨by first | decide | omega,?_⟩);((conv=>whnf))) | ((conv in (_[_]?)=>tactic=>first | exact oL | exact gS (by assumption));(conv=>whnf))))
 exact ⟨rfl,e2⟩
theorem inZ_of {n lo hi:Int} (h1:lo≤n) (h2:n≤hi):inZ n lo hi=true:=by unfold inZ;rw [zqe h1,zqe h2];rfl
theorem autL_784 {a:Aut} (h:isAutB a=true):(autL a).length≤784:=by
 have h0:=aut_len a
 unfold isAutB at h
 simp only [zqb] at h
 have gp:=princ_len h.1.1
 omega
theorem autL_0 (a:Aut):0<(autL a).length:=by unfold autL wrapB;simp
theorem c69 {H:PH} {cid mid:Nat} {c:Cs} {L:List Crd} (hC:Cl H cid mid c L) {bid:Nat} {key:List UInt8} (hb:BoxAt H bid key) (u now seq:Int) (hu:isUseB u=true) (ha:isAutB ⟨c.r,c.n,now,seq⟩=true) (h0:0≤c.sn) (h1:c.sn≤100000) :
  ∃H1,Cl H1 cid mid { c with sn:=c.sn+1 } L∧Evo (Wc cid mid) H H1∧CK prog 69 [.ptr (some (cid,0)),.ptr (some (bid,0)),.int .i64 u,.int .i64 now,.int .i64 seq] H fun r H'=>r=sl (sealK key u (c.sn+1) (autL ⟨c.r,c.n,now,seq⟩))∧H'=H1:=by
 obtain ⟨v,ho⟩:=hC.o
 obtain ⟨g4,g5⟩:=prAut ha
 have k113:=c113s ⟨c.r,c.n,now,seq⟩ g4 g5
 rw [(ebAut ha).1,(ebAut ha).2] at k113
 have hw:IntKind.i64.wrap (c.sn+1)=c.sn+1:=w64 (by omega) (by omega)
 have k71:=c71 (off:=36) (n:=c.sn) 1 ho rfl
 rw [hw] at k71
 obtain ⟨hC2,e2⟩:=hC.put { c with sn:=c.sn+1 } rfl (v+1)
 obtain ⟨H2,hH2⟩:∃H2,H2=H.set cid (cliO { c with sn:=c.sn+1 } (v+1)):=⟨_,rfl⟩
 have k71':CK prog 71 [.ptr (some (cid,0+36)),.int .i64 1] H fun r H'=>r=.int .i64 (c.sn+1)∧H'=H2:=by rw [hH2];exact k71
 rw [←hH2] at hC2 e2
 obtain ⟨H3,e3,_,k114⟩:=sealX (e2.box _ _ hb) u (c.sn+1) hu (by omega) (by omega) (autL ⟨c.r,c.n,now,seq⟩) (autL_784 ha) (autL_0 _)
 refine ⟨H3,hC2.evo e3 id id id,e2.c.trans e3.no,?_⟩
 clear k71
 generalize autL ⟨c.r,c.n,now,seq⟩=ab at *
 generalize sealK key u (c.sn+1) ab=sb at *
 (refine fnS (imm:=imm69) ttK_ok func69 ?_;(conv=>whnf))
 (repeat (first | ((first | (apply exA;(focus exact oN)) | refine bT ?_ | refine bF ?_ | refine bW (bT ?_) | refine bW (bF ?_) | (apply cP;(focus assumption)) | (apply cE;(focus assumption)) | refine ⟨by first | decide | omega,?_⟩);((conv=>whnf))) | ((conv in (_[_]?)=>tactic=>first | exact oL | exact gS (by assumption));(conv=>whnf))))
 exact ⟨rfl,rfl⟩
def msgOk (m:Msg):Prop:=isB m=true∧(laidB m).length≤2000∧m.fits
def outO (on:Int) (ob:PV) (ou:Int) (fi:Bool) (v:Nat):PObj:=⟨108,[.int .i64 on,ob,.int .i64 ou,.bool fi],v⟩
theorem outT (on:Int) (ob:PV) (ou:Int) (fi:Bool) (v:Nat):(outO on ob ou fi v).T≠keyT∧(outO on ob ou fi v).T≠boxT:=⟨fun h=>absurd (show 108=keyT from h) (by decide),fun h=>absurd (show 108=boxT from h) (by decide)⟩
def Cs.out (c:Cs) (ob:PV) (ou:Int) (fi:Bool):Cs:={ c with nn:=c.nn+1,on:=c.nn+1,ob:=ob,ou:=ou,fi:=fi,se:=c.se+1 }
theorem Evo.drop {S:Nat→Prop} {H H':PH} {a:Nat} (h:Evo (fun i=>S i∨i=a) H H') (ha:H.length≤a):Evo S H H' :=
 ⟨h.len,h.box,fun id o ho hs=>h.same id o ho fun hh=>by
  rcases hh with hh | hh
  ·exact hs hh
  ·have:=(zq1.1 ho).1
   omega⟩
theorem Evo.own {S:Nat→Prop} {H X:PH} (e:Evo S H X) {a:Nat} {o:PObj} (ha:X[a]? = some o) (h1:o.T≠keyT) (h2:o.T≠boxT) (hle:H.length≤a) (o':PObj):Evo S H (X.set a o') :=
 Evo.drop ((e.mono fun _ h=>.inl h).trans ((Evo.setOther (S:=(·=a)) ha rfl h1 h2).mono fun _ h=>.inr h)) hle
theorem c82 {H:PH} {cid mid:Nat} {c:Cs} {L:List Crd} (hC:Cl H cid mid c L) (bid:Nat) (ou:Int) (fi:Bool) (f:Nat) (caps:List PV) (m:Msg) (hm:msgOk m) (h0:0≤c.nn) (h1:c.nn≤100000) (h2:0≤c.se) (h3:c.se≤100000) (hcaps:caps.map dem=caps)
  (hreq:∀H',(∃v,H'[cid]? = some (cliO (c.out (.ptr (some (bid,0))) ou fi) v))→Evo (·=cid) H H'→CK prog f ([]++[.int .i64 (c.nn+1)]++caps) H' fun r H''=>r=.agg m.cells∧H''=H') :
  ∃H1,Cl H1 cid mid (c.out (.ptr (some (bid,0))) ou fi) L∧Evo (·=cid) H H1∧CK prog 82 [.ptr (some (cid,0)),.agg [.int .i64 0,.ptr (some (bid,0)),.int .i64 ou,.bool fi],.func f [] caps] H fun r H'=>r=sl (laidB m)∧H'=H1:=by
 obtain ⟨v,ho⟩:=hC.o
 have hlt:cid<H.length:=(zq1.1 ho).1
 have e0:=(Xt.refl H).app [outO 0 (.ptr (some (bid,0))) ou fi 0]
 have hC0:=hC.xt e0
 have ho0:=e0.get ho
 have hg0:=gL H (outO 0 (.ptr (some (bid,0))) ou fi 0)
 have E0:Evo (·=cid) H (H++[outO 0 (.ptr (some (bid,0))) ou fi 0]):=Evo.xt e0
 generalize hX0:H++[outO 0 (.ptr (some (bid,0))) ou fi 0]=X0 at *
 have hw:IntKind.i64.wrap (c.nn+1)=c.nn+1:=w64 (by omega) (by omega)
 have hws:IntKind.i64.wrap (c.se+1)=c.se+1:=w64 (by omega) (by omega)
 have hne:cid≠H.length:=by omega
 have k71:=c71 (off:=0+35) (n:=c.nn) 1 ho0 rfl
 rw [hw] at k71
 obtain ⟨hC1,E1⟩:=hC0.put { c with nn:=c.nn+1 } rfl (v+1)
 obtain ⟨X1,hX1⟩:∃X1,X0.set cid (cliO { c with nn:=c.nn+1 } (v+1))=X1:=⟨_,rfl⟩
 have k71':CK prog 71 [.ptr (some (cid,0+35)),.int .i64 1] X0 fun r H'=>r=.int .i64 (c.nn+1)∧H'=X1:=by rw [←hX1];exact k71
 have hg1:X1[H.length]? = some (outO 0 (.ptr (some (bid,0))) ou fi 0):=by rw [←hX1,zqj hne];exact hg0
 have ho1:X1[cid]? = some (cliO { c with nn:=c.nn+1 } (v+1)):=by rw [←hX1];exact gS ho0
 rw [hX1] at hC1 E1
 clear k71 hX1
 have E2:=(E0.trans E1).own hg1 (outT ..).1 (outT ..).2 (zqn _) (outO (c.nn+1) (.ptr (some (bid,0))) ou fi 1)
 have hC2:Cl (X1.set H.length (outO (c.nn+1) (.ptr (some (bid,0))) ou fi 1)) cid mid { c with nn:=c.nn+1 } L:=hC1.evo (S:=(·=H.length)) (Evo.setOther hg1 rfl (outT ..).1 (outT ..).2) hne (fun e=>by have:=(zq1.1 hC.a.choose_spec).1;have e:c.ca=H.length:=e;omega) (fun e=>by have:=(zq1.1 hC.m.ex.choose_spec).1;have e:mid=H.length:=e;omega)
 have hg2:(X1.set H.length (outO (c.nn+1) (.ptr (some (bid,0))) ou fi 1))[H.length]? = some (outO (c.nn+1) (.ptr (some (bid,0))) ou fi 1):=gS hg1
 have ho2:(X1.set H.length (outO (c.nn+1) (.ptr (some (bid,0))) ou fi 1))[cid]? = some (cliO { c with nn:=c.nn+1 } (v+1)):=by rw [zqj (Ne.symm hne)];exact ho1
 obtain ⟨hC3,E3⟩:=hC2.put { c with nn:=c.nn+1,on:=c.nn+1,ob:=.ptr (some (bid,0)),ou:=ou,fi:=fi } rfl (v+2)
 have hg3:((X1.set H.length (outO (c.nn+1) (.ptr (some (bid,0))) ou fi 1)).set cid (cliO { c with nn:=c.nn+1,on:=c.nn+1,ob:=.ptr (some (bid,0)),ou:=ou,fi:=fi } (v+2)))[H.length]? = some (outO (c.nn+1) (.ptr (some (bid,0))) ou fi 1):=by rw [zqj hne];exact hg2
 have ho3:((X1.set H.length (outO (c.nn+1) (.ptr (some (bid,0))) ou fi 1)).set cid (cliO { c with nn:=c.nn+1,on:=c.nn+1,ob:=.ptr (some (bid,0)),ou:=ou,fi:=fi } (v+2)))[cid]? = some (cliO { c with nn:=c.nn+1,on:=c.nn+1,ob:=.ptr (some (bid,0)),ou:=ou,fi:=fi } (v+2)):=gS ho2
 obtain ⟨hC4,E4⟩:=hC3.put (c.out (.ptr (some (bid,0))) ou fi) rfl (v+3)
 have hg4:(((X1.set H.length (outO (c.nn+1) (.ptr (some (bid,0))) ou fi 1)).set cid (cliO { c with nn:=c.nn+1,on:=c.nn+1,ob:=.ptr (some (bid,0)),ou:=ou,fi:=fi } (v+2))).set cid (cliO (c.out (.ptr (some (bid,0))) ou fi) (v+3)))[H.length]? = some (outO (c.nn+1) (.ptr (some (bid,0))) ou fi 1):=by rw [zqj hne];exact hg3
 have hXw:(((X1.set H.length (outO (c.nn+1) (.ptr (some (bid,0))) ou fi 1)).set cid (cliO { c with nn:=c.nn+1,on:=c.nn+1,ob:=.ptr (some (bid,0)),ou:=ou,fi:=fi } (v+2))).set cid (cliO { c.out (.ptr (some (bid,0))) ou fi with se:=IntKind.i64.wrap (c.se+1) } (v+3)))=(((X1.set H.length (outO (c.nn+1) (.ptr (some (bid,0))) ou fi 1)).set cid (cliO { c with nn:=c.nn+1,on:=c.nn+1,ob:=.ptr (some (bid,0)),ou:=ou,fi:=fi } (v+2))).set cid (cliO (c.out (.ptr (some (bid,0))) ou fi) (v+3))):=by rw [hws];rfl
 have hg4w:(((X1.set H.length (outO (c.nn+1) (.ptr (some (bid,0))) ou fi 1)).set cid (cliO { c with nn:=c.nn+1,on:=c.nn+1,ob:=.ptr (some (bid,0)),ou:=ou,fi:=fi } (v+2))).set cid (cliO { c.out (.ptr (some (bid,0))) ou fi with se:=IntKind.i64.wrap (c.se+1) } (v+3)))[H.length]? = some (outO (c.nn+1) (.ptr (some (bid,0))) ou fi 1):=by rw [hXw];exact hg4
 have E14:=(E2.trans E3).trans E4
 have kr:=hreq (((X1.set H.length (outO (c.nn+1) (.ptr (some (bid,0))) ou fi 1)).set cid (cliO { c with nn:=c.nn+1,on:=c.nn+1,ob:=.ptr (some (bid,0)),ou:=ou,fi:=fi } (v+2))).set cid (cliO (c.out (.ptr (some (bid,0))) ou fi) (v+3))) hC4.o E14
 have k72:=c72 m hm.2.2
 rw [encV_yes ⟨hm.1,hm.2.1⟩] at k72
 refine ⟨(((X1.set H.length (outO (c.nn+1) (.ptr (some (bid,0))) ou fi 1)).set cid (cliO { c with nn:=c.nn+1,on:=c.nn+1,ob:=.ptr (some (bid,0)),ou:=ou,fi:=fi } (v+2))).set cid (cliO (c.out (.ptr (some (bid,0))) ou fi) (v+3))),hC4,E14,?_⟩
 clear hC0 hC1 hC2 hC3 E2 E3 E4 E1 E0 hreq hC4 E14 hC
 (refine fnS (imm:=imm82) ttK_ok func82 ?_;(conv=>whnf))
 refine callK_at hX0 ?_
 refine cE k71' ?_
 conv=>whnf
 ((conv in (_[_]?)=>tactic=>exact hg1);(conv=>whnf))
 ((conv in (_[_]?)=>tactic=>exact hg2);(conv=>whnf))
 ((conv in (_[_]?)=>tactic=>exact ho2);(conv=>whnf))
 repeat ((conv in (_[_]?)=>tactic=>exact ho3);(conv=>whnf))
 ((conv in (_[_]?)=>tactic=>exact hg4w);(conv=>whnf))
 refine callK_at hXw ?_
 refine cE kr ?_
 conv=>whnf
 refine cP k72 ?_
 conv=>whnf
 exact ⟨rfl,rfl⟩
def asM (r n:List UInt8) (till nonce:Int):Msg:={ mZ with kind:=1,a1:=r,a2:=n,a3:=r,a4:=krb r,aTill:=till,aNonce:=nonce }
def tgM (x:Crd) (au:List UInt8) (tr tn:List UInt8) (till nonce:Int):Msg:={ mZ with kind:=2,t1:=x.r,t2:=x.n,tKv:=x.kv,tB:=x.b,tBo:=none,tAu:=au,tAuo:=none,t3:=tr,t4:=tn,tTill:=till,tNonce:=nonce }
def z63o:PObj:=⟨63,mZ.cells,0⟩
def D85:Draw:={ imp:=[11] }
theorem c85 {H:PH} {cid:Nat} {c:Cs} {v:Nat} (ho:H[cid]? = some (cliO c v)) (hr:c.r.length≤1000000) (now nonce:Int) (h0:0≤now) (h1:now≤1073741824) :
  CK prog 85 [.int .i64 nonce,.elem [.ptr (some (cid,0))],.elem [.int .i64 now]] H fun x H'=>x=.agg (asM c.r c.n (tillI now) nonce).d.cells∧H'=H:=by
 refine (CK.gc (Q:=fun x H'=>x=.agg (asM c.r c.n (tillI now) nonce).d.cells∧Xt H H') ?_ (fun r H' h=>⟨by rw [h.1];exact old_cells (asM c.r c.n (tillI now) nonce),h.2⟩)).mono (fun x H' h=>⟨h.2.choose_spec.1,h.1⟩)
 have e1:=(Xt.refl H).app [z63o]
 have ho1:=e1.get ho
 have hg:=gL H z63o
 have k84:=c84 now h0 h1
 have k41:=c41 ho1 hr
 have e2:=e1.set (zqn _) (⟨63,(asM c.r c.n (tillI now) nonce).cells,1⟩:PObj)
 (refine fnS (imm:=imm85) ttK_ok func85 ?_;(conv=>whnf))
 refine drawK_of3 D85 [H++[z63o],(H++[z63o]).set H.length ⟨63,(asM c.r c.n (tillI now) nonce).cells,1⟩] _ (by kernel_rfl) rfl trivial rfl ?_
 conv=>whnf
 (repeat (first | ((first | (apply exA;(focus exact oN)) | refine bT ?_ | refine bF ?_ | refine bW (bT ?_) | refine bW (bF ?_) | (apply cP;(focus assumption)) | (apply cE;(focus assumption)) | refine ⟨by first | decide | omega,?_⟩);((conv=>whnf))) | ((conv in (_[_]?)=>tactic=>first | exact oL | exact gS (by assumption));(conv=>whnf))))
 exact ⟨rfl,e2⟩
def D83:Draw:={ imp:=[12] }
theorem c83 {H:PH} {cid aid:Nat} {c:Cs} {v va:Nat} (ho:H[cid]? = some (cliO c v)) (x:Crd) (au:List UInt8) (ha:H[aid]? = some (⟨25,[sl au],va⟩:PObj)) (now nonce:Int) (h0:0≤now) (h1:now≤1073741824) :
  CK prog 83 [.int .i64 nonce,.elem x.cells,.ptr (some (aid,0)),.elem [.ptr (some (cid,0))],.elem [.int .i64 now]] H fun r H'=>r=.agg (tgM x au c.tr c.tn (tillI now) nonce).d.cells∧H'=H:=by
 refine (CK.gc (Q:=fun r H'=>r=.agg (tgM x au c.tr c.tn (tillI now) nonce).d.cells∧Xt H H') ?_ (fun _ H' h=>⟨by rw [h.1];exact old_cells (tgM x au c.tr c.tn (tillI now) nonce),h.2⟩)).mono (fun x H' h=>⟨h.2.choose_spec.1,h.1⟩)
 have e1:=(Xt.refl H).app [z63o]
 have ho1:=e1.get ho
 have ha1:=e1.get ha
 have hg:=gL H z63o
 have k84:=c84 now h0 h1
 have e2:=e1.set (zqn _) (⟨63,(tgM x au c.tr c.tn (tillI now) nonce).cells,1⟩:PObj)
 (refine fnS (imm:=imm83) ttK_ok func83 ?_;(conv=>whnf))
 refine drawK_of3 D83 [H++[z63o],(H++[z63o]).set H.length ⟨63,(tgM x au c.tr c.tn (tillI now) nonce).cells,1⟩] _ (by kernel_rfl) rfl trivial rfl ?_
 conv=>whnf
 (repeat (first | ((first | (apply exA;(focus exact oN)) | refine bT ?_ | refine bF ?_ | refine bW (bT ?_) | refine bW (bF ?_) | (apply cP;(focus assumption)) | (apply cE;(focus assumption)) | refine ⟨by first | decide | omega,?_⟩);((conv=>whnf))) | ((conv in (_[_]?)=>tactic=>first | exact oL | exact gS (by assumption));(conv=>whnf))))
 exact ⟨rfl,e2⟩
theorem o3 {A:Prop} (h:A:=by
 (conv=>whnf);apply And.intro
 ·exact oN
 ·(conv=>whnf);apply And.intro
  ·exact oN
  ·exact oN):A:=h
theorem o2x {A:Prop} (h:A:=by
 (conv=>whnf);apply And.intro
 ·exact oN
 ·exact oN):A:=h
theorem dX {O R:PV→Prop} {v:PV} (k:R v) (h:O v:=by first | exact oR | exact o2x | exact o3):∃v,O v∧R v:=⟨v,h,k⟩
theorem wX {A:Prop} (h:A:=by
 repeat (first | (first | ((first | (apply exA;(focus exact oN)) | refine bT ?_ | refine bF ?_ | refine bW (bT ?_) | refine bW (bF ?_) | (apply cP;(focus assumption)) | (apply cE;(focus assumption)) | refine ⟨by first | decide | omega,?_⟩);((conv=>whnf))) | ((conv in (_[_]?)=>tactic=>first | exact oL | exact gS (by assumption));(conv=>whnf))) | (refine dX ?_;(conv=>whnf)))
 exact ⟨rfl,rfl⟩):A:=h
theorem wR {A:Prop} (h:A:=by
 repeat (first | (first | ((first | (apply exA;(focus exact oN)) | refine bT ?_ | refine bF ?_ | refine bW (bT ?_) | refine bW (bF ?_) | (apply cP;(focus assumption)) | (apply cE;(focus assumption)) | refine ⟨by first | decide | omega,?_⟩);((conv=>whnf))) | ((conv in (_[_]?)=>tactic=>first | exact oL | exact gS (by assumption));(conv=>whnf))) | (refine dX ?_;(conv=>whnf)))
 rfl):A:=h
theorem newBox (H:PH) {k:List UInt8} (hk:k.length=32):BoxAt (H++[speckO (k.take 16),boxO k H.length]) (H.length+1) k:=by
 refine ⟨hk,H.length,0,0,0,0,speckO (k.take 16),?_,?_,speck_key _⟩
 ·rw [zqi (by omega),show H.length+1 - H.length=1 by omega];rfl
 ·rw [zqi (by omega),show H.length - H.length=0 by omega];rfl
def D43:Draw:={ imp:=[10,13],win:=[(0,0,2),(1,0,2),(2,0,2),(3,0,2),(4,0,2),(5,0,1),(11,1,1),(12,0,1),(13,1,1),(14,2,2),(15,2,2)] }
theorem c43 {H:PH} {cid mid:Nat} {c:Cs} {L:List Crd} (hC:Cl H cid mid c L) (now:Int) (hn0:0≤now) (hn1:now≤1073741824) (hr:c.r.length≤1000000) (hm:msgOk (asM c.r c.n (tillI now) (c.nn+1)).d)
  (h0:0≤c.nn) (h1:c.nn≤100000) (h2:0≤c.se) (h3:c.se≤100000) :
  ∃H1 bid,BoxAt H1 bid (keyB c.k)∧Cl H1 cid mid (c.out (.ptr (some (bid,0))) 3 true) L∧Evo (·=cid) H H1∧CK prog 43 [.ptr (some (cid,0)),.int .i64 now] H fun r H'=>r=.tup [.str c.r,sl (laidB (asM c.r c.n (tillI now) (c.nn+1)))]∧H'=H1:=by
 obtain ⟨v,ho⟩:=hC.o
 have e1:=(Xt.refl H).app [speckO ((keyB c.k).take 16),boxO (keyB c.k) H.length]
 have hb:=newBox H (keyB_len c.k)
 have k70:=c70 (keyB c.k) (keyB_len c.k) H
 have ho1:=e1.get ho
 obtain ⟨H1,g1,g2,g3⟩:=c82 (hC.xt e1) (H.length+1) 3 true 85 [.elem [.ptr (some (cid,0))],.elem [.int .i64 now]] (asM c.r c.n (tillI now) (c.nn+1)).d hm h0 h1 h2 h3 rfl
  (fun H' ⟨v,ho⟩ _=>c85 (c:=c.out (.ptr (some (H.length+1,0))) 3 true) ho hr now (c.nn+1) hn0 hn1)
 refine ⟨H1,H.length+1,g2.box _ _ hb,g1,(Evo.xt e1).trans g2,?_⟩
 obtain ⟨v2,ho2⟩:=g1.o
 clear g1 g2 hm hC e1 hb
 generalize hX:H++[speckO ((keyB c.k).take 16),boxO (keyB c.k) H.length]=X at *
 (refine fnS (imm:=imm43) ttK_ok func43 ?_;(conv=>whnf))
 refine drawK_of3 D43 [H,X,H1] _ (by kernel_rfl) rfl trivial rfl ?_
 conv=>whnf
 exact wX
def visP:List (List UInt8)→PV
 | []=>.nilS
 | x::l=>.slice (l.length+1) (.str x::l.map .str) (some 9)
def D42a:Draw:={ cons:=[(10,[26])],imp:=[10] }
def D42b (cid:Nat):Draw:={ cons:=[(10,[26])],imp:=[7,10],fs:=[(4,7,.cell cid 43)],win:=[(0,0,1),(8,1,1),(9,1,1),(10,1,1)] }
def z25o:PObj:=⟨25,[.slice 0 [] (some 5)],0⟩
def Cs.fur (c:Cs) (bid:Nat) (l:List (List UInt8)) (realm:List UInt8):Cs:=({ c with sn:=c.sn+1,vis:=visP (l++[realm]) }:Cs).out (.ptr (some (bid,0))) 8 false
def Cs.furM (c:Cs) (x:Crd) (now:Int):Msg:=tgM x (sealK (keyB x.k) 7 (c.sn+1) (autL ⟨c.r,c.n,now,0⟩)) c.tr c.tn (tillI now) (c.nn+1)
theorem c42 {H:PH} {cid mid:Nat} {c:Cs} {L:List Crd} (hC:Cl H cid mid c L) (x:Crd) (l:List (List UInt8)) (hv:c.vis=visP l) (hl:l.length≤100) (realm:List UInt8) (now:Int) (hn0:0≤now) (hn1:now≤1073741824) (ha:isAutB ⟨c.r,c.n,now,0⟩=true)
  (hm:msgOk (c.furM x now).d) (h0:0≤c.nn) (h1:c.nn≤100000) (h2:0≤c.se) (h3:c.se≤100000) (h4:0≤c.sn) (h5:c.sn≤100000) :
  ∃H1 bid,BoxAt H1 bid (keyB x.k)∧Cl H1 cid mid (c.fur bid l realm) L∧Evo (Wc cid mid) H H1∧CK prog 42 [.ptr (some (cid,0)),.str realm,.agg x.cells,.int .i64 now] H fun r H'=>r=.tup [.str realm,sl (laidB (c.furM x now))]∧H'=H1:=by
 have e1:=(Xt.refl H).app [speckO ((keyB x.k).take 16),boxO (keyB x.k) H.length]
 have hb:=newBox H (keyB_len x.k)
 have k70:=c70 (keyB x.k) (keyB_len x.k) H
 obtain ⟨H2,hC2,e2,k69⟩:=c69 (hC.xt e1) hb 7 now 0 rfl ha h4 h5
 unfold Cs.furM at hm ⊢
 generalize sealK (keyB x.k) 7 (c.sn+1) (autL ⟨c.r,c.n,now,0⟩)=sb at *
 generalize hX:H++[speckO ((keyB x.k).take 16),boxO (keyB x.k) H.length]=X at *
 have E2:Evo (Wc cid mid) H H2:=(Evo.xt e1).trans e2
 have e3:=((Xt.refl H2).app [z25o]).set (zqn _) (⟨25,[sl sb],1⟩:PObj)
 have hg2:=gL H2 z25o
 have hg3:((H2++[z25o]).set H2.length (⟨25,[sl sb],1⟩:PObj))[H2.length]? = some ⟨25,[sl sb],1⟩:=gS hg2
 have hC3:=hC2.xt e3
 have E3:Evo (Wc cid mid) H ((H2++[z25o]).set H2.length (⟨25,[sl sb],1⟩:PObj)):=E2.trans (Evo.xt e3)
 have hb3:=(e2.trans (Evo.xt e3)).box _ _ hb
 have hlt:cid<H2.length:=by obtain ⟨v,h⟩:=hC2.o;exact (zq1.1 h).1
 obtain ⟨X3,hX3⟩:∃X3,(H2++[z25o]).set H2.length (⟨25,[sl sb],1⟩:PObj)=X3:=⟨_,rfl⟩
 rw [hX3] at hg3 hC3 E3 hb3
 have tail:∀X5,Cl X5 cid mid { c with sn:=c.sn+1,vis:=visP (l++[realm]) } L→Evo (·=cid) X3 X5→∃H1,Cl H1 cid mid (c.fur (H.length+1) l realm) L∧Evo (·=cid) X5 H1 ∧
   CK prog 82 [.ptr (some (cid,0)),.agg [.int .i64 0,.ptr (some (H.length+1,0)),.int .i64 8,.bool false],.func 83 [] [.elem x.cells,.ptr (some (H2.length,0)),.elem [.ptr (some (cid,0))],.elem [.int .i64 now]]] X5 fun r H'=>r=sl (laidB (tgM x sb c.tr c.tn (tillI now) (c.nn+1)).d)∧H'=H1:=fun X5 hC5 e5 =>
  c82 hC5 (H.length+1) 8 false 83 [.elem x.cells,.ptr (some (H2.length,0)),.elem [.ptr (some (cid,0))],.elem [.int .i64 now]] _ hm h0 h1 h2 h3 rfl (fun H' ⟨v,ho⟩ e6 =>
   c83 (c:=c.fur (H.length+1) l realm) ho x sb ((e5.trans e6).same _ _ hg3 (show ¬H2.length=cid by omega) (fun h=>absurd (show 25=keyT from h) (by decide)) (fun h=>absurd (show 25=boxT from h) (by decide))) now (c.nn+1) hn0 hn1)
 obtain ⟨v3,ho3⟩:=hC3.o
 have ho3':X3[cid]? = some (cliO { c with sn:=c.sn+1,vis:=visP l } v3):=by rw [←hv];exact ho3
 cases l with
 | nil =>
  obtain ⟨hC5,e5⟩:=hC3.put { c with sn:=c.sn+1,vis:=visP ([]++[realm]) } rfl (v3+1)
  obtain ⟨H1,g1,g2,k82⟩:=tail _ hC5 e5
  refine ⟨H1,H.length+1,(e5.trans g2).box _ _ hb3,g1,E3.trans (e5.trans g2).c,?_⟩
  clear tail hC5 e5 g1 g2 E3 hC3 hm E2 e3 hb3 hC2 e2 hb e1 hC
  (refine fnS (imm:=imm42) ttK_ok func42 ?_;(conv=>whnf))
  refine cE k70 ?_
  conv=>whnf
  refine cE k69 ?_
  conv=>whnf
  ((conv in (_[_]?)=>tactic=>exact hg2);(conv=>whnf))
  refine drawK_at hX3 ?_
  refine drawK_of3 D42a [X3,X3.set cid (cliO { c with sn:=c.sn+1,vis:=visP ([]++[realm]) } (v3+1))] _ (by kernel_rfl) rfl trivial rfl ?_
  conv=>whnf
  repeat (first | (first | ((first | (apply exA;(focus exact oN)) | refine bT ?_ | refine bF ?_ | refine bW (bT ?_) | refine bW (bF ?_) | (apply cP;(focus assumption)) | (apply cE;(focus assumption)) | refine ⟨by first | decide | omega,?_⟩);((conv=>whnf))) | ((conv in (_[_]?)=>tactic=>first | exact oL | exact gS (by assumption));(conv=>whnf))) | (refine dX ?_;(conv=>whnf)))
  apply exA
  ·conv=>whnf
   refine ⟨⟨by decide,rfl,rfl⟩,?_⟩
   exact ⟨rfl,rfl,zqv⟩
  conv=>whnf
  exact wX
 | cons y l =>
  have hvr:PV.slice (l.length+1+1) ((.str y::l.map .str)++[.str realm]) (some 9)=visP (y::l++[realm]):=by simp [visP]
  obtain ⟨hC4,e4⟩:=hC3.put { c with sn:=c.sn+1,vis:=.slice (l.length+1) (.str y::l.map .str) none } rfl v3
  have ho4:(X3.set cid (cliO { c with sn:=c.sn+1,vis:=.slice (l.length+1) (.str y::l.map .str) none } v3))[cid]? = some (cliO { c with sn:=c.sn+1,vis:=.slice (l.length+1) (.str y::l.map .str) none } v3):=gS ho3
  obtain ⟨hC5,e5⟩:=hC4.put { c with sn:=c.sn+1,vis:=visP (y::l++[realm]) } rfl (v3+1)
  rw [←hvr] at hC5 e5
  obtain ⟨H1,g1,g2,k82⟩:=tail _ (by rw [←hvr];exact hC5) (e4.trans e5)
  refine ⟨H1,H.length+1,((e4.trans e5).trans g2).box _ _ hb3,g1,E3.trans ((e4.trans e5).trans g2).c,?_⟩
  clear tail hC5 e5 g1 g2 E3 hC3 hm E2 e3 hb3 hC2 e2 hb e1 hC hC4 e4 ho3
  have hl':l.length+1≤100:=hl
  (refine fnS (imm:=imm42) ttK_ok func42 ?_;(conv=>whnf))
  refine cE k70 ?_
  conv=>whnf
  refine cE k69 ?_
  conv=>whnf
  ((conv in (_[_]?)=>tactic=>exact hg2);(conv=>whnf))
  refine drawK_at hX3 ?_
  refine drawK_of3 (D42b cid) [X3,X3.set cid (cliO { c with sn:=c.sn+1,vis:=.slice (l.length+1) (.str y::l.map .str) none } v3),(X3.set cid (cliO { c with sn:=c.sn+1,vis:=.slice (l.length+1) (.str y::l.map .str) none } v3)).set cid (cliO { c with sn:=c.sn+1,vis:=.slice (l.length+1+1) ((.str y::l.map .str)++[.str realm]) (some 9) } (v3+1))] _ (by kernel_rfl) rfl ⟨fun k h1 h2=>absurd h2 (Nat.not_lt_zero _),zqv⟩ rfl ?_
  conv=>whnf
  repeat (first | (first | ((first | (apply exA;(focus exact oN)) | refine bT ?_ | refine bF ?_ | refine bW (bT ?_) | refine bW (bF ?_) | (apply cP;(focus assumption)) | (apply cE;(focus assumption)) | refine ⟨by first | decide | omega,?_⟩);((conv=>whnf))) | ((conv in (_[_]?)=>tactic=>first | exact oL | exact gS (by assumption));(conv=>whnf))) | (refine dX ?_;(conv=>whnf)))
  apply exA
  ·conv=>whnf
   ((conv in (_[_]?)=>tactic=>exact ho3');(conv=>whnf))
   exact ⟨rfl,rfl,rfl,zqv⟩
  conv=>whnf
  repeat (first | (first | ((first | (apply exA;(focus exact oN)) | refine bT ?_ | refine bF ?_ | refine bW (bT ?_) | refine bW (bF ?_) | (apply cP;(focus assumption)) | (apply cE;(focus assumption)) | refine ⟨by first | decide | omega,?_⟩);((conv=>whnf))) | ((conv in (_[_]?)=>tactic=>first | exact oL | exact gS (by assumption));(conv=>whnf))) | (refine dX ?_;(conv=>whnf)))
  apply exA
  ·conv=>whnf
   ((conv in (_[_]?)=>tactic=>exact ho3');(conv=>whnf))
   refine ⟨⟨by show (l.length+1+1)*16≤140737488355328;omega,rfl,rfl⟩,?_⟩
   exact ⟨rfl,rfl,zqv⟩
  conv=>whnf
  exact wX
end Go.Proofs.Tryz
