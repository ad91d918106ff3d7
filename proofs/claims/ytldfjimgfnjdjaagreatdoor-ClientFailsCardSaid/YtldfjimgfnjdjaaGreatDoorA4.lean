import Derived.Test.YtldfjimgfnjdjaaGreatDoorA3
import Derived.Test.YtldfjimgfnjdjaaGreatDoorA2
import Derived.Test.YtldfjimgfnjdjaaGreatDoorCards
import Derived.Test.YtldfjimgfnjdjaaGreatDoorTie
import Derived.WalkKit
import Derived.ProofKit
import Derived.OpenShut
import Derived.Deep.DeepHandedRow
import Derived.Lib.LaidTab
set_option linter.all false
set_option maxRecDepth 100000
set_option maxHeartbeats 4000000
namespace Go.Proofs.Tryz
open Go Ps
theorem c56 (c:Nat) (s:Option (List UInt8)) (H:PH) (hc:rcur H c s) (hl:∀l,s=some l→l.length≤140737488355328) :
  CK prog 56 [.ptr (some (c,0))] H fun r H'=>r=.agg [.str (tickR s).2.r,.str (tickR s).2.n,.int .i64 (tickR s).2.kv,sl (tickR s).2.b]∧Upd (·=c) H H'∧rcur H' c (tickR s).1:=by
 have hd:=hc.lt
 have g0:=elemC_len (tag:=97) hl
 have hs0:∀l,(elemC 97 s).2=some l→l.length≤140737488355328:=fun l h=>(g0.2 l h).1
 have hs1:∀l,(princR (elemC 97 s).2).1=some l→l.length≤140737488355328:=outR_len (elemC_len (tag:=48) hs0).1
 have hs2:=rintC_len hs1
 (refine fnS (imm:=imm56) ttL_ok func56 ?_;(conv=>whnf))
 obtain ⟨H1,hH1⟩:∃H1,H1=H++[PObj.mk 53 [.str [],.str [],.int .i64 0,.slice 0 [] (some 5)] 0]:=⟨_,rfl⟩
 have hl1:H1.length=H.length+1:=by rw [hH1];simp
 have h0:H1[H.length]? = some ⟨53,[.str [],.str [],.int .i64 0,.slice 0 [] (some 5)],0⟩:=by rw [hH1];exact gL _ _
 have u1:Upd (·=c) H H1:=by rw [hH1];exact (Upd.refl H).push _
 have hc1:rcur H1 c s:=hc.keep (X:=fun _=>False) (by rw [hH1];exact (Upd.refl H).push _) (fun f=>f)
 rw [←hH1]
 refine cO (c53 c 97 s H1 hc1 hl) ?_
 rintro _ H2 ⟨e,rfl,k1,k2,k3,k4⟩
 have hle:=k4.lt
 have uB:Upd (·=c) H H2:=u1.trans k2
 have h2z:H2[H.length]? = some ⟨53,[.str [],.str [],.int .i64 0,.slice 0 [] (some 5)],0⟩:=by rw [k2.2 _ (by omega) (by omega)];exact h0
 conv=>whnf
 refine cO (c54 e _ H2 k4 hs0) ?_
 rintro _ K1 ⟨rfl,u4,g4⟩
 have D1:=RakS.new h2z (by omega) u4 g4 [.str (princR (elemC 97 s).2).2.1,.str (princR (elemC 97 s).2).2.2,.int .i64 0,.slice 0 [] (some 5)] 1
 conv=>whnf
 ((conv in (_[_]?)=>tactic=>exact gL _ _);(conv=>whnf))
 refine cO (c55 e _ _ D1.cur hs1) ?_
 rintro _ K2 ⟨rfl,u5,g5⟩
 have D2:=D1.call u5 g5
 conv=>whnf
 ((conv in (_[_]?)=>tactic=>exact D2.p);(conv=>whnf))
 have D3:=D2.store [.str (princR (elemC 97 s).2).2.1,.str (princR (elemC 97 s).2).2.2,.int .i64 (rintC (princR (elemC 97 s).2).1).2,.slice 0 [] (some 5)] 2
 refine cO (c57 e _ _ D3.cur hs2) ?_
 rintro _ K3 ⟨rfl,u6,g6⟩
 have D4:=D3.call u6 g6
 conv=>whnf
 ((conv in (_[_]?)=>tactic=>exact D4.p);(conv=>whnf))
 obtain ⟨F,hF⟩:∃F:List PV,F=[.str (princR (elemC 97 s).2).2.1,.str (princR (elemC 97 s).2).2.2,.int .i64 (rintC (princR (elemC 97 s).2).1).2,sl (octC (rintC (princR (elemC 97 s).2).1).1).2]:=⟨_,rfl⟩
 have D5:=D4.store [.str (princR (elemC 97 s).2).2.1,.str (princR (elemC 97 s).2).2.2,.int .i64 (rintC (princR (elemC 97 s).2).1).2,sl (octC (rintC (princR (elemC 97 s).2).1).1).2] 3
 have o3:rcur _ c (elemC 97 s).1:=k3.keep D5.up (by omega)
 have hq:=D5.lb
 have fin:∀(s':Option (List UInt8)) (bc:List UInt8) (vc:Nat),(∀l,s'=some l→bc=l)→∀(hcc:(K3.set K1.length (PObj.mk 53 [.str (princR (elemC 97 s).2).2.1,.str (princR (elemC 97 s).2).2.2,.int .i64 (rintC (princR (elemC 97 s).2).1).2,sl (octC (rintC (princR (elemC 97 s).2).1).1).2] 3))[c]? = some ⟨128,[sl bc,.bool (elemC 97 s).1.isNone],vc⟩) (o:PObj),
   Upd (·=c) H (((K3.set K1.length (PObj.mk 53 [.str (princR (elemC 97 s).2).2.1,.str (princR (elemC 97 s).2).2.2,.int .i64 (rintC (princR (elemC 97 s).2).1).2,sl (octC (rintC (princR (elemC 97 s).2).1).1).2] 3)).set c ⟨128,[sl bc,.bool s'.isNone],vc+1⟩).set H.length o) ∧
   rcur (((K3.set K1.length (PObj.mk 53 [.str (princR (elemC 97 s).2).2.1,.str (princR (elemC 97 s).2).2.2,.int .i64 (rintC (princR (elemC 97 s).2).1).2,sl (octC (rintC (princR (elemC 97 s).2).1).1).2] 3)).set c ⟨128,[sl bc,.bool s'.isNone],vc+1⟩).set H.length o) c s':=fun s' bc vc hb hcc o=>by
  have uF:=uB.over D5.up (fun i hi h=>by omega)
  refine ⟨(uF.set (.inl rfl) _).set (.inr (zqn _)) _,?_⟩
  exact rcur.set_ne ⟨bc,vc+1,gS hcc,hb⟩ (by omega) _
 have hpz:∀(o:PObj),((K3.set K1.length (PObj.mk 53 [.str (princR (elemC 97 s).2).2.1,.str (princR (elemC 97 s).2).2.2,.int .i64 (rintC (princR (elemC 97 s).2).1).2,sl (octC (rintC (princR (elemC 97 s).2).1).1).2] 3)).set c o)[K1.length]? = some ⟨53,[.str (princR (elemC 97 s).2).2.1,.str (princR (elemC 97 s).2).2.2,.int .i64 (rintC (princR (elemC 97 s).2).1).2,sl (octC (rintC (princR (elemC 97 s).2).1).1).2],3⟩:=fun o=>by
  rw [zqj (by omega)];exact D5.p
 have hzz:∀(o:PObj),((K3.set K1.length (PObj.mk 53 [.str (princR (elemC 97 s).2).2.1,.str (princR (elemC 97 s).2).2.2,.int .i64 (rintC (princR (elemC 97 s).2).1).2,sl (octC (rintC (princR (elemC 97 s).2).1).1).2] 3)).set c o)[H.length]? = some ⟨53,[.str [],.str [],.int .i64 0,.slice 0 [] (some 5)],0⟩:=fun o=>by
  rw [zqj (by omega)];exact D5.z
 unfold tickR
 obtain ⟨bc,vc,hcc,hxc⟩:=o3
 ((conv in (_[_]?)=>tactic=>exact hcc);(conv=>whnf))
 revert hcc hxc fin
 generalize (elemC 97 s).1=s1
 intro fin hcc hxc
 cases s1 with
 | none =>
  rw [outR_none]
  conv=>whnf
  ((conv in (_[_]?)=>tactic=>exact hcc);(conv=>whnf))
  ((conv in (_[_]?)=>tactic=>exact hpz _);(conv=>whnf))
  ((conv in (_[_]?)=>tactic=>exact hzz _);(conv=>whnf))
  ((conv in (_[_]?)=>tactic=>exact gS (hzz _));(conv=>whnf))
  exact ⟨rfl,fin none bc vc (fun l h=>by cases h) hcc _⟩
 | some l =>
  conv=>whnf
  refine cO (c99 e _ _ D5.cur) ?_
  rintro _ _ ⟨rfl,rfl⟩
  have hbl:=hxc l rfl
  subst hbl
  show _
  cases hw:wholeB (octC (rintC (princR (elemC 97 s).2).1).1).1
  ·have e1:outR (some bc) (octC (rintC (princR (elemC 97 s).2).1).1).1=none:=outR_no hw
   rw [e1]
   conv=>whnf
   ((conv in (_[_]?)=>tactic=>exact hcc);(conv=>whnf))
   ((conv in (_[_]?)=>tactic=>exact hpz _);(conv=>whnf))
   ((conv in (_[_]?)=>tactic=>exact hzz _);(conv=>whnf))
   ((conv in (_[_]?)=>tactic=>exact gS (hzz _));(conv=>whnf))
   exact ⟨rfl,fin none bc vc (fun l h=>by cases h) hcc _⟩
  ·have e1:outR (some bc) (octC (rintC (princR (elemC 97 s).2).1).1).1=some bc:=outR_yes hw
   rw [e1]
   conv=>whnf
   ((conv in (_[_]?)=>tactic=>exact hcc);(conv=>whnf))
   ((conv in (_[_]?)=>tactic=>exact hpz _);(conv=>whnf))
   ((conv in (_[_]?)=>tactic=>exact hzz _);(conv=>whnf))
   ((conv in (_[_]?)=>tactic=>exact gS (hzz _));(conv=>whnf))
   exact ⟨rfl,fin (some bc) bc vc (fun l h=>Option.some.inj h) hcc _⟩
def rkAs (s:Option (List UInt8)):Msg:={ mZ with kind:=1,a1:=(princR s).2.1,a2:=(princR s).2.2,a3:=(princR (princR s).1).2.1,a4:=(princR (princR s).1).2.2,aTill:=(rintC (princR (princR s).1).1).2,aNonce:=(rintC (rintC (princR (princR s).1).1).1).2 }
def rkTgs (s:Option (List UInt8)):Msg:={ mZ with kind:=2,t1:=(tickR s).2.r,t2:=(tickR s).2.n,tKv:=(tickR s).2.kv,tB:=(tickR s).2.b,tBo:=none,tAu:=(octC (tickR s).1).2,tAuo:=none,t3:=(princR (octC (tickR s).1).1).2.1,t4:=(princR (octC (tickR s).1).1).2.2,tTill:=(rintC (princR (octC (tickR s).1).1).1).2,tNonce:=(rintC (rintC (princR (octC (tickR s).1).1).1).1).2 }
def rkRep (s:Option (List UInt8)):Msg:={ mZ with kind:=3,r1:=(princR s).2.1,r2:=(princR s).2.2,r3:=(tickR (princR s).1).2.r,r4:=(tickR (princR s).1).2.n,rKv:=(tickR (princR s).1).2.kv,rB:=(tickR (princR s).1).2.b,rBo:=none,rBl:=(octC (tickR (princR s).1).1).2,rBlo:=none }
def rkAp (s:Option (List UInt8)):Msg:={ mZ with kind:=4,p1:=(tickR s).2.r,p2:=(tickR s).2.n,pKv:=(tickR s).2.kv,pB:=(tickR s).2.b,pBo:=none,pAu:=(octC (tickR s).1).2,pAuo:=none }
def rkFail (s:Option (List UInt8)):Msg:={ mZ with kind:=5,fErr:=(rintC s).2,fNonce:=(rintC (rintC s).1).2 }
def takenRT (t:UInt8) (s:Option (List UInt8)):Msg :=
 if t.toNat=106 then rkAs s else if t.toNat=108 then rkTgs s else if t.toNat=107 then rkRep s else if t.toNat=110 then rkAp s else if t.toNat=126 then rkFail s else mZ
def takenR:List UInt8→Msg
 | []=>mZ
 | t::r=>takenRT t (elemC t (some (t::r))).2
theorem takenR_fits (t:UInt8) (s:Option (List UInt8)):(takenRT t s).fits:=by
 unfold takenRT
 have z:∀n:Nat,([]:List UInt8).length≤n:=fun n=>Nat.zero_le _
 split
 ·refine ⟨?_,?_,?_,?_,?_,?_,?_,?_,?_,?_,?_,?_,?_,?_⟩ <;> first | exact z _ | exact small2 _ _
 ·split
  ·refine ⟨?_,?_,?_,?_,?_,?_,?_,?_,?_,?_,?_,?_,?_,?_⟩ <;> first | exact z _ | exact small2 _ _
  ·split
   ·refine ⟨?_,?_,?_,?_,?_,?_,?_,?_,?_,?_,?_,?_,?_,?_⟩ <;> first | exact z _ | exact small2 _ _
   ·split
    ·refine ⟨?_,?_,?_,?_,?_,?_,?_,?_,?_,?_,?_,?_,?_,?_⟩ <;> first | exact z _ | exact small2 _ _
    ·split
     ·refine ⟨?_,?_,?_,?_,?_,?_,?_,?_,?_,?_,?_,?_,?_,?_⟩ <;> first | exact z _ | exact small2 _ _
     ·refine ⟨?_,?_,?_,?_,?_,?_,?_,?_,?_,?_,?_,?_,?_,?_⟩ <;> first | exact z _ | exact small2 _ _
theorem okM_mZ (b:List UInt8):okM mZ b=false:=rfl
def refDecV (b:List UInt8):PV:=agM (takenR b) b
theorem c22x (b:List UInt8) (hb:b.length≤140737488355328) (H:PH):CK prog 22 [sl b] H fun r H'=>r=refDecV b∧∃ext,H'=H++ext:=by
 (refine fnS (imm:=imm22) ttL_ok func22 ?_;(conv=>whnf))
 ((conv in (_[_]?)=>tactic=>exact gL _ _);(conv=>whnf))
 cases b with
 | nil =>
  have e0:refDecV []=.tup [.agg mZ.d.cells,.int .i64 2]:=agM_no (okM_mZ [])
  rw [e0]
  refine ⟨fun _=>?_,fun h=>absurd rfl h⟩
  conv=>whnf
  ((conv in (_[_]?)=>tactic=>exact gS (gL _ _));(conv=>whnf))
  ((conv in (_[_]?)=>tactic=>exact get_mid_set _ _ _ _);(conv=>whnf))
  ((conv in (_[_]?)=>tactic=>exact gS (get_mid_set _ _ _ _));(conv=>whnf))
  exact ⟨rfl,((((Ext.refl H).push _).push _).set (by simp) _).set (zqn _) _⟩
 | cons t b =>
  refine ⟨fun h=>absurd h (by simp <;> omega),fun _=>?_⟩
  conv=>whnf
  refine ⟨⟨by decide,by first | (simp;done) | (simp;omega)⟩,[bC t],sl_get0 t b,?_⟩
  conv=>whnf
  obtain ⟨HC,hHC⟩:∃HC,HC=(H++[PObj.mk 63 mZ.cells 0]++[PObj.mk 63 mZ.cells 0]).set (H++[PObj.mk 63 mZ.cells 0]).length (PObj.mk 63 mZ.cells 1):=⟨_,rfl⟩
  have hHC':HC=H++[PObj.mk 63 mZ.cells 0]++[PObj.mk 63 mZ.cells 1]:=by rw [hHC,sL]
  have hlC:HC.length=H.length+2:=by rw [hHC'];simp
  have hCr:HC[H.length]? = some ⟨63,mZ.cells,0⟩:=by rw [hHC'];exact get_mid _ _ _
  have hCq:HC[(H++[PObj.mk 63 mZ.cells 0]).length]? = some ⟨63,mZ.cells,1⟩:=by rw [hHC'];exact gL _ _
  have u1:Upd (fun _=>False) H (HC++[PObj.mk 128 [sl (t::b),.bool false] 0]):=by rw [hHC'];exact (((Upd.refl H).push _).push _).push _
  have hcur:rcur (HC++[PObj.mk 128 [sl (t::b),.bool false] 0]) HC.length (some (t::b)):=⟨t::b,0,gL _ _,fun l h=>Option.some.inj h⟩
  have hqn:(H++[PObj.mk 63 mZ.cells 0]).length=H.length+1:=by simp
  have hlD:(HC++[PObj.mk 128 [sl (t::b),.bool false] 0]).length=H.length+3:=by simp [hlC]
  have hDr:(HC++[PObj.mk 128 [sl (t::b),.bool false] 0])[H.length]? = some ⟨63,mZ.cells,0⟩:=by rw [zq2 (by omega)];exact hCr
  have hDq:(HC++[PObj.mk 128 [sl (t::b),.bool false] 0])[(H++[PObj.mk 63 mZ.cells 0]).length]? = some ⟨63,mZ.cells,1⟩:=by rw [zq2 (by omega)];exact hCq
  have k0:HC.length≠H.length:=by omega
  have k9:HC.length≠(H++[PObj.mk 63 mZ.cells 0]).length:=by omega
  subst hHC
  refine cO (c53 _ t _ _ hcur (fun l h=>by cases h;exact hb)) ?_
  rintro _ H2 ⟨e,rfl,k1,k2,k3,k4⟩
  have k1:H.length+3≤e:=Nat.le_trans (Nat.le_of_eq hlD.symm) k1
  have hle:=k4.lt
  have hs0:∀l,(elemC t (some (t::b))).2=some l→l.length≤140737488355328:=fun l h=>((elemC_len (tag:=t) (fun l h=>by cases h;exact hb)).2 l h).1
  have e0:refDecV (t::b)=agM (takenRT t (elemC t (some (t::b))).2) (t::b):=rfl
  rw [e0]
  generalize (elemC t (some (t::b))).2=s at hs0 k4
  have D0:RakS 63 mZ.cells H H2 H.length e (H++[PObj.mk 63 mZ.cells 0]).length s mZ.cells 1:=by
   refine ⟨?_,?_,k4,((u1.over k2 (fun i hi h=>?_))).mono (fun i _ h=>h.elim),by omega,by omega,by omega,by omega⟩
   ·exact (k2.2 _ (Nat.lt_of_lt_of_le (show H.length<H.length+3 by omega) (Nat.le_of_eq hlD.symm)) (fun h=>k0 h.symm)).trans hDr
   ·exact (k2.2 _ (Nat.lt_of_lt_of_le (show (H++[PObj.mk 63 mZ.cells 0]).length<H.length+3 by omega) (Nat.le_of_eq hlD.symm)) (fun h=>k9 h.symm)).trans hDq
   ·have h2:i=H.length+2:=h.trans hlC
    omega
  have fin:∀{K:PH} {s':Option (List UInt8)} {cells:List PV} {ver:Nat} (D:RakS 63 mZ.cells H K H.length e (H++[PObj.mk 63 mZ.cells 0]).length s' cells ver) (o:PObj),∃ext,K.set H.length o=H++ext:=fun D o =>
   Upd.ext ((D.up.mono (Y:=fun _=>False) (fun i hi h=>by have h:i=e:=h;omega)).set (.inr (zqn _)) o)
  have hf:=takenR_fits t s
  conv=>whnf
  refine ⟨⟨by decide,by first | (simp;done) | (simp;omega)⟩,[bC t],sl_get0 t b,?_⟩
  conv=>whnf
  refine ⟨fun h1=>?_,fun h1=>?_⟩
  ·have h1:(t.toNat:Int)=106:=h1
   have et:takenRT t s=rkAs s:=by unfold takenRT;rw [zqp (by omega)]
   rw [et] at hf ⊢
   conv=>whnf
   ((conv in (_[_]?)=>tactic=>exact D0.p);(conv=>whnf))
   have E0:=D0.store ({ mZ with kind:=1 }:Msg).cells 2
   have l0:∀l,s=some l→l.length≤140737488355328:=hs0
   refine cO (c54 e _ _ E0.cur l0) ?_
   rintro _ K0 ⟨rfl,u0,g0⟩
   have F0:=E0.call u0 g0
   conv=>whnf
   ((conv in (_[_]?)=>tactic=>exact F0.p);(conv=>whnf))
   have E1:=F0.store ({ mZ with kind:=1,a1:=(princR s).2.1,a2:=(princR s).2.2 }:Msg).cells 3
   have l1:∀l,(princR s).1=some l→l.length≤140737488355328:=outR_len (elemC_len (tag:=48) l0).1
   refine cO (c54 e _ _ E1.cur l1) ?_
   rintro _ K1 ⟨rfl,u1,g1⟩
   have F1:=E1.call u1 g1
   conv=>whnf
   ((conv in (_[_]?)=>tactic=>exact F1.p);(conv=>whnf))
   have E2:=F1.store ({ mZ with kind:=1,a1:=(princR s).2.1,a2:=(princR s).2.2,a3:=(princR (princR s).1).2.1,a4:=(princR (princR s).1).2.2 }:Msg).cells 4
   have l2:∀l,(princR (princR s).1).1=some l→l.length≤140737488355328:=outR_len (elemC_len (tag:=48) l1).1
   refine cO (c55 e _ _ E2.cur l2) ?_
   rintro _ K2 ⟨rfl,u2,g2⟩
   have F2:=E2.call u2 g2
   conv=>whnf
   ((conv in (_[_]?)=>tactic=>exact F2.p);(conv=>whnf))
   have E3:=F2.store ({ mZ with kind:=1,a1:=(princR s).2.1,a2:=(princR s).2.2,a3:=(princR (princR s).1).2.1,a4:=(princR (princR s).1).2.2,aTill:=(rintC (princR (princR s).1).1).2 }:Msg).cells 5
   have l3:∀l,(rintC (princR (princR s).1).1).1=some l→l.length≤140737488355328:=rintC_len l2
   refine cO (c55 e _ _ E3.cur l3) ?_
   rintro _ K3 ⟨rfl,u3,g3⟩
   have F3:=E3.call u3 g3
   conv=>whnf
   ((conv in (_[_]?)=>tactic=>exact F3.p);(conv=>whnf))
   have E4:=F3.store ({ mZ with kind:=1,a1:=(princR s).2.1,a2:=(princR s).2.2,a3:=(princR (princR s).1).2.1,a4:=(princR (princR s).1).2.2,aTill:=(rintC (princR (princR s).1).1).2,aNonce:=(rintC (rintC (princR (princR s).1).1).1).2 }:Msg).cells 6
   ((conv in (_[_]?)=>tactic=>exact E4.p);(conv=>whnf))
   have hd:encV (rkAs s).d=encV (rkAs s):=rfl
   by_cases hq:isB (rkAs s)=true∧(laidB (rkAs s)).length≤2000
   ·refine cP ((c24 (rkAs s).d hf).of_eq (hd.trans (encV_yes hq))) ?_
    conv=>whnf
    refine ⟨fun _=>?_,fun h=>absurd rfl h⟩
    conv=>whnf
    refine ⟨laidB (rkAs s),⟨rfl,rfl⟩,?_⟩
    conv=>whnf
    refine ⟨t::b,⟨rfl,rfl⟩,?_⟩
    conv=>whnf
    refine ⟨fun h=>?_,fun h=>?_⟩
    ·have hk:okM (rkAs s) (t::b)=true:=by unfold okM;rw [hq.1,zqe hq.2,zqe (show laidB (rkAs s)=t::b from h)];rfl
     rw [agM_yes hk]
     conv=>whnf
     ((conv in (_[_]?)=>tactic=>exact E4.p);(conv=>whnf))
     ((conv in (_[_]?)=>tactic=>exact E4.z);(conv=>whnf))
     ((conv in (_[_]?)=>tactic=>exact gS E4.z);(conv=>whnf))
     exact ⟨rfl,fin E4 _⟩
    ·have hk:okM (rkAs s) (t::b)=false:=by unfold okM;rw [zqd (show ¬laidB (rkAs s)=t::b from h),zq3,zq3]
     rw [agM_no hk]
     conv=>whnf
     ((conv in (_[_]?)=>tactic=>exact E4.z);(conv=>whnf))
     ((conv in (_[_]?)=>tactic=>exact gS E4.z);(conv=>whnf))
     exact ⟨rfl,fin E4 _⟩
   ·have hk:okM (rkAs s) (t::b)=false:=by
     unfold okM
     cases h1:isB (rkAs s)
     ·rfl
     ·rw [zqd (fun h2=>hq ⟨h1,h2⟩)];rfl
    refine cP ((c24 (rkAs s).d hf).of_eq (hd.trans (encV_no hq))) ?_
    rw [agM_no hk]
    conv=>whnf
    refine ⟨fun h=>absurd h (by decide),fun _=>?_⟩
    conv=>whnf
    ((conv in (_[_]?)=>tactic=>exact E4.z);(conv=>whnf))
    ((conv in (_[_]?)=>tactic=>exact gS E4.z);(conv=>whnf))
    exact ⟨rfl,fin E4 _⟩
  conv=>whnf
  have h1:¬(t.toNat:Int)=106:=h1
  refine ⟨fun h2=>?_,fun h2=>?_⟩
  ·have h2:(t.toNat:Int)=108:=h2
   have et:takenRT t s=rkTgs s:=by unfold takenRT;rw [zqo (by omega)];rw [zqp (by omega)]
   rw [et] at hf ⊢
   conv=>whnf
   ((conv in (_[_]?)=>tactic=>exact D0.p);(conv=>whnf))
   have E0:=D0.store ({ mZ with kind:=2 }:Msg).cells 2
   have l0:∀l,s=some l→l.length≤140737488355328:=hs0
   refine cO (c56 e _ _ E0.cur l0) ?_
   rintro _ K0 ⟨rfl,u0,g0⟩
   have F0:=E0.call u0 g0
   conv=>whnf
   ((conv in (_[_]?)=>tactic=>exact F0.p);(conv=>whnf))
   have E1:=F0.store ({ mZ with kind:=2,t1:=(tickR s).2.r,t2:=(tickR s).2.n,tKv:=(tickR s).2.kv,tB:=(tickR s).2.b,tBo:=none }:Msg).cells 3
   have l1:∀l,(tickR s).1=some l→l.length≤140737488355328:=outR_len (elemC_len (tag:=97) l0).1
   refine cO (c57 e _ _ E1.cur l1) ?_
   rintro _ K1 ⟨rfl,u1,g1⟩
   have F1:=E1.call u1 g1
   conv=>whnf
   ((conv in (_[_]?)=>tactic=>exact F1.p);(conv=>whnf))
   have E2:=F1.store ({ mZ with kind:=2,t1:=(tickR s).2.r,t2:=(tickR s).2.n,tKv:=(tickR s).2.kv,tB:=(tickR s).2.b,tBo:=none,tAu:=(octC (tickR s).1).2,tAuo:=none }:Msg).cells 4
   have l2:∀l,(octC (tickR s).1).1=some l→l.length≤140737488355328:=(elemC_len (tag:=4) l1).1
   refine cO (c54 e _ _ E2.cur l2) ?_
   rintro _ K2 ⟨rfl,u2,g2⟩
   have F2:=E2.call u2 g2
   conv=>whnf
   ((conv in (_[_]?)=>tactic=>exact F2.p);(conv=>whnf))
   have E3:=F2.store ({ mZ with kind:=2,t1:=(tickR s).2.r,t2:=(tickR s).2.n,tKv:=(tickR s).2.kv,tB:=(tickR s).2.b,tBo:=none,tAu:=(octC (tickR s).1).2,tAuo:=none,t3:=(princR (octC (tickR s).1).1).2.1,t4:=(princR (octC (tickR s).1).1).2.2 }:Msg).cells 5
   have l3:∀l,(princR (octC (tickR s).1).1).1=some l→l.length≤140737488355328:=outR_len (elemC_len (tag:=48) l2).1
   refine cO (c55 e _ _ E3.cur l3) ?_
   rintro _ K3 ⟨rfl,u3,g3⟩
   have F3:=E3.call u3 g3
   conv=>whnf
   ((conv in (_[_]?)=>tactic=>exact F3.p);(conv=>whnf))
   have E4:=F3.store ({ mZ with kind:=2,t1:=(tickR s).2.r,t2:=(tickR s).2.n,tKv:=(tickR s).2.kv,tB:=(tickR s).2.b,tBo:=none,tAu:=(octC (tickR s).1).2,tAuo:=none,t3:=(princR (octC (tickR s).1).1).2.1,t4:=(princR (octC (tickR s).1).1).2.2,tTill:=(rintC (princR (octC (tickR s).1).1).1).2 }:Msg).cells 6
   have l4:∀l,(rintC (princR (octC (tickR s).1).1).1).1=some l→l.length≤140737488355328:=rintC_len l3
   refine cO (c55 e _ _ E4.cur l4) ?_
   rintro _ K4 ⟨rfl,u4,g4⟩
   have F4:=E4.call u4 g4
   conv=>whnf
   ((conv in (_[_]?)=>tactic=>exact F4.p);(conv=>whnf))
   have E5:=F4.store ({ mZ with kind:=2,t1:=(tickR s).2.r,t2:=(tickR s).2.n,tKv:=(tickR s).2.kv,tB:=(tickR s).2.b,tBo:=none,tAu:=(octC (tickR s).1).2,tAuo:=none,t3:=(princR (octC (tickR s).1).1).2.1,t4:=(princR (octC (tickR s).1).1).2.2,tTill:=(rintC (princR (octC (tickR s).1).1).1).2,tNonce:=(rintC (rintC (princR (octC (tickR s).1).1).1).1).2 }:Msg).cells 7
   ((conv in (_[_]?)=>tactic=>exact E5.p);(conv=>whnf))
   have hd:encV (rkTgs s).d=encV (rkTgs s):=rfl
   by_cases hq:isB (rkTgs s)=true∧(laidB (rkTgs s)).length≤2000
   ·refine cP ((c24 (rkTgs s).d hf).of_eq (hd.trans (encV_yes hq))) ?_
    conv=>whnf
    refine ⟨fun _=>?_,fun h=>absurd rfl h⟩
    conv=>whnf
    refine ⟨laidB (rkTgs s),⟨rfl,rfl⟩,?_⟩
    conv=>whnf
    refine ⟨t::b,⟨rfl,rfl⟩,?_⟩
    conv=>whnf
    refine ⟨fun h=>?_,fun h=>?_⟩
    ·have hk:okM (rkTgs s) (t::b)=true:=by unfold okM;rw [hq.1,zqe hq.2,zqe (show laidB (rkTgs s)=t::b from h)];rfl
     rw [agM_yes hk]
     conv=>whnf
     ((conv in (_[_]?)=>tactic=>exact E5.p);(conv=>whnf))
     ((conv in (_[_]?)=>tactic=>exact E5.z);(conv=>whnf))
     ((conv in (_[_]?)=>tactic=>exact gS E5.z);(conv=>whnf))
     exact ⟨rfl,fin E5 _⟩
    ·have hk:okM (rkTgs s) (t::b)=false:=by unfold okM;rw [zqd (show ¬laidB (rkTgs s)=t::b from h),zq3,zq3]
     rw [agM_no hk]
     conv=>whnf
     ((conv in (_[_]?)=>tactic=>exact E5.z);(conv=>whnf))
     ((conv in (_[_]?)=>tactic=>exact gS E5.z);(conv=>whnf))
     exact ⟨rfl,fin E5 _⟩
   ·have hk:okM (rkTgs s) (t::b)=false:=by
     unfold okM
     cases h1:isB (rkTgs s)
     ·rfl
     ·rw [zqd (fun h2=>hq ⟨h1,h2⟩)];rfl
    refine cP ((c24 (rkTgs s).d hf).of_eq (hd.trans (encV_no hq))) ?_
    rw [agM_no hk]
    conv=>whnf
    refine ⟨fun h=>absurd h (by decide),fun _=>?_⟩
    conv=>whnf
    ((conv in (_[_]?)=>tactic=>exact E5.z);(conv=>whnf))
    ((conv in (_[_]?)=>tactic=>exact gS E5.z);(conv=>whnf))
    exact ⟨rfl,fin E5 _⟩
  conv=>whnf
  have h2:¬(t.toNat:Int)=108:=h2
  refine ⟨fun h3=>?_,fun h3=>?_⟩
  ·have h3:(t.toNat:Int)=107:=h3
   have et:takenRT t s=rkRep s:=by unfold takenRT;rw [zqo (by omega)];rw [zqo (by omega)];rw [zqp (by omega)]
   rw [et] at hf ⊢
   conv=>whnf
   ((conv in (_[_]?)=>tactic=>exact D0.p);(conv=>whnf))
   have E0:=D0.store ({ mZ with kind:=3 }:Msg).cells 2
   have l0:∀l,s=some l→l.length≤140737488355328:=hs0
   refine cO (c54 e _ _ E0.cur l0) ?_
   rintro _ K0 ⟨rfl,u0,g0⟩
   have F0:=E0.call u0 g0
   conv=>whnf
   ((conv in (_[_]?)=>tactic=>exact F0.p);(conv=>whnf))
   have E1:=F0.store ({ mZ with kind:=3,r1:=(princR s).2.1,r2:=(princR s).2.2 }:Msg).cells 3
   have l1:∀l,(princR s).1=some l→l.length≤140737488355328:=outR_len (elemC_len (tag:=48) l0).1
   refine cO (c56 e _ _ E1.cur l1) ?_
   rintro _ K1 ⟨rfl,u1,g1⟩
   have F1:=E1.call u1 g1
   conv=>whnf
   ((conv in (_[_]?)=>tactic=>exact F1.p);(conv=>whnf))
   have E2:=F1.store ({ mZ with kind:=3,r1:=(princR s).2.1,r2:=(princR s).2.2,r3:=(tickR (princR s).1).2.r,r4:=(tickR (princR s).1).2.n,rKv:=(tickR (princR s).1).2.kv,rB:=(tickR (princR s).1).2.b,rBo:=none }:Msg).cells 4
   have l2:∀l,(tickR (princR s).1).1=some l→l.length≤140737488355328:=outR_len (elemC_len (tag:=97) l1).1
   refine cO (c57 e _ _ E2.cur l2) ?_
   rintro _ K2 ⟨rfl,u2,g2⟩
   have F2:=E2.call u2 g2
   conv=>whnf
   ((conv in (_[_]?)=>tactic=>exact F2.p);(conv=>whnf))
   have E3:=F2.store ({ mZ with kind:=3,r1:=(princR s).2.1,r2:=(princR s).2.2,r3:=(tickR (princR s).1).2.r,r4:=(tickR (princR s).1).2.n,rKv:=(tickR (princR s).1).2.kv,rB:=(tickR (princR s).1).2.b,rBo:=none,rBl:=(octC (tickR (princR s).1).1).2,rBlo:=none }:Msg).cells 5
   ((conv in (_[_]?)=>tactic=>exact E3.p);(conv=>whnf))
   have hd:encV (rkRep s).d=encV (rkRep s):=rfl
   by_cases hq:isB (rkRep s)=true∧(laidB (rkRep s)).length≤2000
   ·refine cP ((c24 (rkRep s).d hf).of_eq (hd.trans (encV_yes hq))) ?_
    conv=>whnf
    refine ⟨fun _=>?_,fun h=>absurd rfl h⟩
    conv=>whnf
    refine ⟨laidB (rkRep s),⟨rfl,rfl⟩,?_⟩
    conv=>whnf
    refine ⟨t::b,⟨rfl,rfl⟩,?_⟩
    conv=>whnf
    refine ⟨fun h=>?_,fun h=>?_⟩
    ·have hk:okM (rkRep s) (t::b)=true:=by unfold okM;rw [hq.1,zqe hq.2,zqe (show laidB (rkRep s)=t::b from h)];rfl
     rw [agM_yes hk]
     conv=>whnf
     ((conv in (_[_]?)=>tactic=>exact E3.p);(conv=>whnf))
     ((conv in (_[_]?)=>tactic=>exact E3.z);(conv=>whnf))
     ((conv in (_[_]?)=>tactic=>exact gS E3.z);(conv=>whnf))
     exact ⟨rfl,fin E3 _⟩
    ·have hk:okM (rkRep s) (t::b)=false:=by unfold okM;rw [zqd (show ¬laidB (rkRep s)=t::b from h),zq3,zq3]
     rw [agM_no hk]
     conv=>whnf
     ((conv in (_[_]?)=>tactic=>exact E3.z);(conv=>whnf))
     ((conv in (_[_]?)=>tactic=>exact gS E3.z);(conv=>whnf))
     exact ⟨rfl,fin E3 _⟩
   ·have hk:okM (rkRep s) (t::b)=false:=by
     unfold okM
     cases h1:isB (rkRep s)
     ·rfl
     ·rw [zqd (fun h2=>hq ⟨h1,h2⟩)];rfl
    refine cP ((c24 (rkRep s).d hf).of_eq (hd.trans (encV_no hq))) ?_
    rw [agM_no hk]
    conv=>whnf
    refine ⟨fun h=>absurd h (by decide),fun _=>?_⟩
    conv=>whnf
    ((conv in (_[_]?)=>tactic=>exact E3.z);(conv=>whnf))
    ((conv in (_[_]?)=>tactic=>exact gS E3.z);(conv=>whnf))
    exact ⟨rfl,fin E3 _⟩
  conv=>whnf
  have h3:¬(t.toNat:Int)=107:=h3
  refine ⟨fun h4=>?_,fun h4=>?_⟩
  ·have h4:(t.toNat:Int)=110:=h4
   have et:takenRT t s=rkAp s:=by unfold takenRT;rw [zqo (by omega)];rw [zqo (by omega)];rw [zqo (by omega)];rw [zqp (by omega)]
   rw [et] at hf ⊢
   conv=>whnf
   ((conv in (_[_]?)=>tactic=>exact D0.p);(conv=>whnf))
   have E0:=D0.store ({ mZ with kind:=4 }:Msg).cells 2
   have l0:∀l,s=some l→l.length≤140737488355328:=hs0
   refine cO (c56 e _ _ E0.cur l0) ?_
   rintro _ K0 ⟨rfl,u0,g0⟩
   have F0:=E0.call u0 g0
   conv=>whnf
   ((conv in (_[_]?)=>tactic=>exact F0.p);(conv=>whnf))
   have E1:=F0.store ({ mZ with kind:=4,p1:=(tickR s).2.r,p2:=(tickR s).2.n,pKv:=(tickR s).2.kv,pB:=(tickR s).2.b,pBo:=none }:Msg).cells 3
   have l1:∀l,(tickR s).1=some l→l.length≤140737488355328:=outR_len (elemC_len (tag:=97) l0).1
   refine cO (c57 e _ _ E1.cur l1) ?_
   rintro _ K1 ⟨rfl,u1,g1⟩
   have F1:=E1.call u1 g1
   conv=>whnf
   ((conv in (_[_]?)=>tactic=>exact F1.p);(conv=>whnf))
   have E2:=F1.store ({ mZ with kind:=4,p1:=(tickR s).2.r,p2:=(tickR s).2.n,pKv:=(tickR s).2.kv,pB:=(tickR s).2.b,pBo:=none,pAu:=(octC (tickR s).1).2,pAuo:=none }:Msg).cells 4
   ((conv in (_[_]?)=>tactic=>exact E2.p);(conv=>whnf))
   have hd:encV (rkAp s).d=encV (rkAp s):=rfl
   by_cases hq:isB (rkAp s)=true∧(laidB (rkAp s)).length≤2000
   ·refine cP ((c24 (rkAp s).d hf).of_eq (hd.trans (encV_yes hq))) ?_
    conv=>whnf
    refine ⟨fun _=>?_,fun h=>absurd rfl h⟩
    conv=>whnf
    refine ⟨laidB (rkAp s),⟨rfl,rfl⟩,?_⟩
    conv=>whnf
    refine ⟨t::b,⟨rfl,rfl⟩,?_⟩
    conv=>whnf
    refine ⟨fun h=>?_,fun h=>?_⟩
    ·have hk:okM (rkAp s) (t::b)=true:=by unfold okM;rw [hq.1,zqe hq.2,zqe (show laidB (rkAp s)=t::b from h)];rfl
     rw [agM_yes hk]
     conv=>whnf
     ((conv in (_[_]?)=>tactic=>exact E2.p);(conv=>whnf))
     ((conv in (_[_]?)=>tactic=>exact E2.z);(conv=>whnf))
     ((conv in (_[_]?)=>tactic=>exact gS E2.z);(conv=>whnf))
     exact ⟨rfl,fin E2 _⟩
    ·have hk:okM (rkAp s) (t::b)=false:=by unfold okM;rw [zqd (show ¬laidB (rkAp s)=t::b from h),zq3,zq3]
     rw [agM_no hk]
     conv=>whnf
     ((conv in (_[_]?)=>tactic=>exact E2.z);(conv=>whnf))
     ((conv in (_[_]?)=>tactic=>exact gS E2.z);(conv=>whnf))
     exact ⟨rfl,fin E2 _⟩
   ·have hk:okM (rkAp s) (t::b)=false:=by
     unfold okM
     cases h1:isB (rkAp s)
     ·rfl
     ·rw [zqd (fun h2=>hq ⟨h1,h2⟩)];rfl
    refine cP ((c24 (rkAp s).d hf).of_eq (hd.trans (encV_no hq))) ?_
    rw [agM_no hk]
    conv=>whnf
    refine ⟨fun h=>absurd h (by decide),fun _=>?_⟩
    conv=>whnf
    ((conv in (_[_]?)=>tactic=>exact E2.z);(conv=>whnf))
    ((conv in (_[_]?)=>tactic=>exact gS E2.z);(conv=>whnf))
    exact ⟨rfl,fin E2 _⟩
  conv=>whnf
  have h4:¬(t.toNat:Int)=110:=h4
  refine ⟨fun h5=>?_,fun h5=>?_⟩
  ·have h5:(t.toNat:Int)=126:=h5
   have et:takenRT t s=rkFail s:=by unfold takenRT;rw [zqo (by omega)];rw [zqo (by omega)];rw [zqo (by omega)];rw [zqo (by omega)];rw [zqp (by omega)]
   rw [et] at hf ⊢
   conv=>whnf
   ((conv in (_[_]?)=>tactic=>exact D0.p);(conv=>whnf))
   have E0:=D0.store ({ mZ with kind:=5 }:Msg).cells 2
   have l0:∀l,s=some l→l.length≤140737488355328:=hs0
   refine cO (c55 e _ _ E0.cur l0) ?_
   rintro _ K0 ⟨rfl,u0,g0⟩
   have F0:=E0.call u0 g0
   conv=>whnf
   ((conv in (_[_]?)=>tactic=>exact F0.p);(conv=>whnf))
   have E1:=F0.store ({ mZ with kind:=5,fErr:=(rintC s).2 }:Msg).cells 3
   have l1:∀l,(rintC s).1=some l→l.length≤140737488355328:=rintC_len l0
   refine cO (c55 e _ _ E1.cur l1) ?_
   rintro _ K1 ⟨rfl,u1,g1⟩
   have F1:=E1.call u1 g1
   conv=>whnf
   ((conv in (_[_]?)=>tactic=>exact F1.p);(conv=>whnf))
   have E2:=F1.store ({ mZ with kind:=5,fErr:=(rintC s).2,fNonce:=(rintC (rintC s).1).2 }:Msg).cells 4
   ((conv in (_[_]?)=>tactic=>exact E2.p);(conv=>whnf))
   have hd:encV (rkFail s).d=encV (rkFail s):=rfl
   by_cases hq:isB (rkFail s)=true∧(laidB (rkFail s)).length≤2000
   ·refine cP ((c24 (rkFail s).d hf).of_eq (hd.trans (encV_yes hq))) ?_
    conv=>whnf
    refine ⟨fun _=>?_,fun h=>absurd rfl h⟩
    conv=>whnf
    refine ⟨laidB (rkFail s),⟨rfl,rfl⟩,?_⟩
    conv=>whnf
    refine ⟨t::b,⟨rfl,rfl⟩,?_⟩
    conv=>whnf
    refine ⟨fun h=>?_,fun h=>?_⟩
    ·have hk:okM (rkFail s) (t::b)=true:=by unfold okM;rw [hq.1,zqe hq.2,zqe (show laidB (rkFail s)=t::b from h)];rfl
     rw [agM_yes hk]
     conv=>whnf
     ((conv in (_[_]?)=>tactic=>exact E2.p);(conv=>whnf))
     ((conv in (_[_]?)=>tactic=>exact E2.z);(conv=>whnf))
     ((conv in (_[_]?)=>tactic=>exact gS E2.z);(conv=>whnf))
     exact ⟨rfl,fin E2 _⟩
    ·have hk:okM (rkFail s) (t::b)=false:=by unfold okM;rw [zqd (show ¬laidB (rkFail s)=t::b from h),zq3,zq3]
     rw [agM_no hk]
     conv=>whnf
     ((conv in (_[_]?)=>tactic=>exact E2.z);(conv=>whnf))
     ((conv in (_[_]?)=>tactic=>exact gS E2.z);(conv=>whnf))
     exact ⟨rfl,fin E2 _⟩
   ·have hk:okM (rkFail s) (t::b)=false:=by
     unfold okM
     cases h1:isB (rkFail s)
     ·rfl
     ·rw [zqd (fun h2=>hq ⟨h1,h2⟩)];rfl
    refine cP ((c24 (rkFail s).d hf).of_eq (hd.trans (encV_no hq))) ?_
    rw [agM_no hk]
    conv=>whnf
    refine ⟨fun h=>absurd h (by decide),fun _=>?_⟩
    conv=>whnf
    ((conv in (_[_]?)=>tactic=>exact E2.z);(conv=>whnf))
    ((conv in (_[_]?)=>tactic=>exact gS E2.z);(conv=>whnf))
    exact ⟨rfl,fin E2 _⟩
  conv=>whnf
  have h5:¬(t.toNat:Int)=126:=h5
  have et:takenRT t s=mZ:=by unfold takenRT;rw [zqo (by omega),zqo (by omega),zqo (by omega),zqo (by omega),zqo (by omega)]
  rw [et,agM_no (okM_mZ _)]
  ((conv in (_[_]?)=>tactic=>exact D0.p);(conv=>whnf))
  ((conv in (_[_]?)=>tactic=>exact D0.z);(conv=>whnf))
  ((conv in (_[_]?)=>tactic=>exact gS D0.z);(conv=>whnf))
  exact ⟨rfl,fin D0 _⟩
theorem c22 (b:List UInt8) (hb:b.length≤140737488355328):Pure prog 22 [sl b] (refDecV b):=Pure.of_gc (agM_old _ b) (c22x b hb)
theorem princR_wrap (r n rest:List UInt8) (hr:r.length≤1000) (hn:n.length≤1000):princR (some (princE r n++rest))=(some rest,(r,n)):=by
 have h1:=wrapB_len 27 r
 have h2:=wrapB_len 27 n
 unfold princR princE
 rw [elemC_wrap 48 _ rest (by simp only [zqk,zql,zqf,List.length_nil];omega)]
 simp only [zqk,zql]
 rw [txtC_wrap r _ (by omega)]
 simp only
 rw [txtC_wrap n [] (by omega)]
 rfl
theorem tickR_wrap (r n:List UInt8) (kv:Int) (b rest:List UInt8) (hr:r.length≤1000) (hn:n.length≤1000) (h0:0≤kv) (h1:kv≤4611686018427387904) (hb:b.length≤10000) :
  tickR (some (ticketE r n kv b++rest))=(some rest,⟨r,n,kv,b⟩):=by
 have k1:=princE_len r n
 have k2:=intE_len kv
 have k3:=wrapB_len 4 b
 unfold tickR ticketE
 rw [elemC_wrap 97 _ rest (by simp only [zqk,zql,zqf,List.length_nil];omega)]
 simp only [zqk,zql]
 unfold tickRD
 rw [princR_wrap r n _ hr hn]
 simp only
 rw [rintC_wrap kv h0 h1]
 simp only
 rw [octC_wrap b [] (by omega)]
 rfl
theorem takenR_wrap (t:UInt8) (x:List UInt8) (hx:x.length≤65535):takenR (wrapB t x)=takenRT t (some x):=by
 have e:=elemC_wrap t x [] hx
 rw [List.append_nil] at e
 show takenRT t (elemC t (some (wrapB t x))).2=_
 rw [e]
theorem takenR_laid (m:Msg) (h:isB m=true):(takenR (laidB m)).d=m.d:=by
 obtain ⟨o1,o2,o3,o4,o5⟩:=others_z (isB_kind h)
 have hm:=(zqb _ _▸h:_∧_).1
 by_cases h1:m.kind=1
 ·skip
  rw [zqp h1] at hm
  simp only [zqb] at hm
  have g1:=princ_len hm.1.1.1
  have g2:=princ_len hm.1.1.2
  have g3:=inZ_le hm.1.2
  have g4:=inZ_le hm.2
  have e0:=princE_len m.a1 m.a2
  have e1:=princE_len m.a3 m.a4
  have e2:=intE_len m.aTill
  have e3:=intE_len m.aNonce
  have hl:laidB m=wrapB 106 [princE m.a1 m.a2,princE m.a3 m.a4,intE m.aTill,intE m.aNonce].flatten:=by unfold laidB;rw [zqp h1]
  rw [hl,takenR_wrap _ _ (by simp only [zqk,zql,zqf,List.length_nil];omega)]
  show (rkAs (some [princE m.a1 m.a2,princE m.a3 m.a4,intE m.aTill,intE m.aNonce].flatten)).d=_
  simp only [zqk,zql]
  unfold rkAs
  have w0:=princR_wrap m.a1 m.a2 (princE m.a3 m.a4++(intE m.aTill++(intE m.aNonce++[]))) (by omega) (by omega)
  have w1:=princR_wrap m.a3 m.a4 (intE m.aTill++(intE m.aNonce++[])) (by omega) (by omega)
  have w2:=rintC_wrap m.aTill (by omega) (by omega) (intE m.aNonce++[])
  have w3:=rintC_wrap m.aNonce (by omega) (by omega) []
  simp only [w0,w1,w2,w3]
  have z2:=noTgs_z (o2 (by omega))
  have z3:=noRep_z (o3 (by omega))
  have z4:=noAp_z (o4 (by omega))
  have z5:=noFail_z (o5 (by omega))
  clear o1 o2 o3 o4 o5 hl hm h w0
  obtain ⟨kind,a1,a2,a3,a4,aTill,aNonce,t1,t2,tKv,tB,tBo,tAu,tAuo,t3,t4,tTill,tNonce,r1,r2,r3,r4,rKv,rB,rBo,rBl,rBlo,p1,p2,pKv,pB,pBo,pAu,pAuo,fErr,fNonce⟩:=m
  obtain ⟨y2_0,y2_1,y2_2,y2_3,y2_4,y2_5,y2_6,y2_7,y2_8⟩:=z2
  obtain ⟨y3_0,y3_1,y3_2,y3_3,y3_4,y3_5,y3_6⟩:=z3
  obtain ⟨y4_0,y4_1,y4_2,y4_3,y4_4⟩:=z4
  obtain ⟨y5_0,y5_1⟩:=z5
  simp only at *
  subst h1 y2_0 y2_1 y2_2 y2_3 y2_4 y2_5 y2_6 y2_7 y2_8 y3_0 y3_1 y3_2 y3_3 y3_4 y3_5 y3_6 y4_0 y4_1 y4_2 y4_3 y4_4 y5_0 y5_1
  rfl
 by_cases h2:m.kind=2
 ·skip
  rw [zqo h1] at hm
  rw [zqp h2] at hm
  simp only [zqb] at hm
  have g1:=tick_len hm.1.1.1.1
  have gk:=tick_kv hm.1.1.1.1
  have g2:=inZ_le hm.1.1.1.2
  have g3:=princ_len hm.1.1.2
  have g4:=inZ_le hm.1.2
  have g5:=inZ_le hm.2
  have e0:=ticketE_len m.t1 m.t2 m.tKv m.tB
  have e1:=wrapB_len 4 m.tAu
  have e2:=princE_len m.t3 m.t4
  have e3:=intE_len m.tTill
  have e4:=intE_len m.tNonce
  have hl:laidB m=wrapB 108 [ticketE m.t1 m.t2 m.tKv m.tB,wrapB 4 m.tAu,princE m.t3 m.t4,intE m.tTill,intE m.tNonce].flatten:=by unfold laidB;rw [zqo h1];rw [zqp h2]
  rw [hl,takenR_wrap _ _ (by simp only [zqk,zql,zqf,List.length_nil];omega)]
  show (rkTgs (some [ticketE m.t1 m.t2 m.tKv m.tB,wrapB 4 m.tAu,princE m.t3 m.t4,intE m.tTill,intE m.tNonce].flatten)).d=_
  simp only [zqk,zql]
  unfold rkTgs
  have w0:=tickR_wrap m.t1 m.t2 m.tKv m.tB (wrapB 4 m.tAu++(princE m.t3 m.t4++(intE m.tTill++(intE m.tNonce++[])))) (by omega) (by omega) (by omega) (by omega) (by omega)
  have w1:=octC_wrap m.tAu (princE m.t3 m.t4++(intE m.tTill++(intE m.tNonce++[]))) (by omega)
  have w2:=princR_wrap m.t3 m.t4 (intE m.tTill++(intE m.tNonce++[])) (by omega) (by omega)
  have w3:=rintC_wrap m.tTill (by omega) (by omega) (intE m.tNonce++[])
  have w4:=rintC_wrap m.tNonce (by omega) (by omega) []
  simp only [w0,w1,w2,w3,w4]
  have z1:=noAs_z (o1 (by omega))
  have z3:=noRep_z (o3 (by omega))
  have z4:=noAp_z (o4 (by omega))
  have z5:=noFail_z (o5 (by omega))
  clear o1 o2 o3 o4 o5 hl hm h w0
  obtain ⟨kind,a1,a2,a3,a4,aTill,aNonce,t1,t2,tKv,tB,tBo,tAu,tAuo,t3,t4,tTill,tNonce,r1,r2,r3,r4,rKv,rB,rBo,rBl,rBlo,p1,p2,pKv,pB,pBo,pAu,pAuo,fErr,fNonce⟩:=m
  obtain ⟨y1_0,y1_1,y1_2,y1_3,y1_4,y1_5⟩:=z1
  obtain ⟨y3_0,y3_1,y3_2,y3_3,y3_4,y3_5,y3_6⟩:=z3
  obtain ⟨y4_0,y4_1,y4_2,y4_3,y4_4⟩:=z4
  obtain ⟨y5_0,y5_1⟩:=z5
  simp only at *
  subst h2 y1_0 y1_1 y1_2 y1_3 y1_4 y1_5 y3_0 y3_1 y3_2 y3_3 y3_4 y3_5 y3_6 y4_0 y4_1 y4_2 y4_3 y4_4 y5_0 y5_1
  rfl
 by_cases h3:m.kind=3
 ·skip
  rw [zqo h1] at hm
  rw [zqo h2] at hm
  rw [zqp h3] at hm
  simp only [zqb] at hm
  have g1:=princ_len hm.1.1
  have g2:=tick_len hm.1.2
  have gk:=tick_kv hm.1.2
  have g3:=inZ_le hm.2
  have e0:=princE_len m.r1 m.r2
  have e1:=ticketE_len m.r3 m.r4 m.rKv m.rB
  have e2:=wrapB_len 4 m.rBl
  have hl:laidB m=wrapB 107 [princE m.r1 m.r2,ticketE m.r3 m.r4 m.rKv m.rB,wrapB 4 m.rBl].flatten:=by unfold laidB;rw [zqo h1];rw [zqo h2];rw [zqp h3]
  rw [hl,takenR_wrap _ _ (by simp only [zqk,zql,zqf,List.length_nil];omega)]
  show (rkRep (some [princE m.r1 m.r2,ticketE m.r3 m.r4 m.rKv m.rB,wrapB 4 m.rBl].flatten)).d=_
  simp only [zqk,zql]
  unfold rkRep
  have w0:=princR_wrap m.r1 m.r2 (ticketE m.r3 m.r4 m.rKv m.rB++(wrapB 4 m.rBl++[])) (by omega) (by omega)
  have w1:=tickR_wrap m.r3 m.r4 m.rKv m.rB (wrapB 4 m.rBl++[]) (by omega) (by omega) (by omega) (by omega) (by omega)
  have w2:=octC_wrap m.rBl [] (by omega)
  simp only [w0,w1,w2]
  have z1:=noAs_z (o1 (by omega))
  have z2:=noTgs_z (o2 (by omega))
  have z4:=noAp_z (o4 (by omega))
  have z5:=noFail_z (o5 (by omega))
  clear o1 o2 o3 o4 o5 hl hm h w0
  obtain ⟨kind,a1,a2,a3,a4,aTill,aNonce,t1,t2,tKv,tB,tBo,tAu,tAuo,t3,t4,tTill,tNonce,r1,r2,r3,r4,rKv,rB,rBo,rBl,rBlo,p1,p2,pKv,pB,pBo,pAu,pAuo,fErr,fNonce⟩:=m
  obtain ⟨y1_0,y1_1,y1_2,y1_3,y1_4,y1_5⟩:=z1
  obtain ⟨y2_0,y2_1,y2_2,y2_3,y2_4,y2_5,y2_6,y2_7,y2_8⟩:=z2
  obtain ⟨y4_0,y4_1,y4_2,y4_3,y4_4⟩:=z4
  obtain ⟨y5_0,y5_1⟩:=z5
  simp only at *
  subst h3 y1_0 y1_1 y1_2 y1_3 y1_4 y1_5 y2_0 y2_1 y2_2 y2_3 y2_4 y2_5 y2_6 y2_7 y2_8 y4_0 y4_1 y4_2 y4_3 y4_4 y5_0 y5_1
  rfl
 by_cases h4:m.kind=4
 ·skip
  rw [zqo h1] at hm
  rw [zqo h2] at hm
  rw [zqo h3] at hm
  rw [zqp h4] at hm
  simp only [zqb] at hm
  have g1:=tick_len hm.1
  have gk:=tick_kv hm.1
  have g2:=inZ_le hm.2
  have e0:=ticketE_len m.p1 m.p2 m.pKv m.pB
  have e1:=wrapB_len 4 m.pAu
  have hl:laidB m=wrapB 110 [ticketE m.p1 m.p2 m.pKv m.pB,wrapB 4 m.pAu].flatten:=by unfold laidB;rw [zqo h1];rw [zqo h2];rw [zqo h3];rw [zqp h4]
  rw [hl,takenR_wrap _ _ (by simp only [zqk,zql,zqf,List.length_nil];omega)]
  show (rkAp (some [ticketE m.p1 m.p2 m.pKv m.pB,wrapB 4 m.pAu].flatten)).d=_
  simp only [zqk,zql]
  unfold rkAp
  have w0:=tickR_wrap m.p1 m.p2 m.pKv m.pB (wrapB 4 m.pAu++[]) (by omega) (by omega) (by omega) (by omega) (by omega)
  have w1:=octC_wrap m.pAu [] (by omega)
  simp only [w0,w1]
  have z1:=noAs_z (o1 (by omega))
  have z2:=noTgs_z (o2 (by omega))
  have z3:=noRep_z (o3 (by omega))
  have z5:=noFail_z (o5 (by omega))
  clear o1 o2 o3 o4 o5 hl hm h w0
  obtain ⟨kind,a1,a2,a3,a4,aTill,aNonce,t1,t2,tKv,tB,tBo,tAu,tAuo,t3,t4,tTill,tNonce,r1,r2,r3,r4,rKv,rB,rBo,rBl,rBlo,p1,p2,pKv,pB,pBo,pAu,pAuo,fErr,fNonce⟩:=m
  obtain ⟨y1_0,y1_1,y1_2,y1_3,y1_4,y1_5⟩:=z1
  obtain ⟨y2_0,y2_1,y2_2,y2_3,y2_4,y2_5,y2_6,y2_7,y2_8⟩:=z2
  obtain ⟨y3_0,y3_1,y3_2,y3_3,y3_4,y3_5,y3_6⟩:=z3
  obtain ⟨y5_0,y5_1⟩:=z5
  simp only at *
  subst h4 y1_0 y1_1 y1_2 y1_3 y1_4 y1_5 y2_0 y2_1 y2_2 y2_3 y2_4 y2_5 y2_6 y2_7 y2_8 y3_0 y3_1 y3_2 y3_3 y3_4 y3_5 y3_6 y5_0 y5_1
  rfl
 by_cases h5:m.kind=5
 ·skip
  rw [zqo h1] at hm
  rw [zqo h2] at hm
  rw [zqo h3] at hm
  rw [zqo h4] at hm
  rw [zqp h5] at hm
  simp only [zqb] at hm
  have g1:=inZ_le hm.1
  have g2:=inZ_le hm.2
  have e0:=intE_len m.fErr
  have e1:=intE_len m.fNonce
  have hl:laidB m=wrapB 126 [intE m.fErr,intE m.fNonce].flatten:=by unfold laidB;rw [zqo h1,zqo h2,zqo h3,zqo h4]
  rw [hl,takenR_wrap _ _ (by simp only [zqk,zql,zqf,List.length_nil];omega)]
  show (rkFail (some [intE m.fErr,intE m.fNonce].flatten)).d=_
  simp only [zqk,zql]
  unfold rkFail
  have w0:=rintC_wrap m.fErr (by omega) (by omega) (intE m.fNonce++[])
  have w1:=rintC_wrap m.fNonce (by omega) (by omega) []
  simp only [w0,w1]
  have z1:=noAs_z (o1 (by omega))
  have z2:=noTgs_z (o2 (by omega))
  have z3:=noRep_z (o3 (by omega))
  have z4:=noAp_z (o4 (by omega))
  clear o1 o2 o3 o4 o5 hl hm h w0
  obtain ⟨kind,a1,a2,a3,a4,aTill,aNonce,t1,t2,tKv,tB,tBo,tAu,tAuo,t3,t4,tTill,tNonce,r1,r2,r3,r4,rKv,rB,rBo,rBl,rBlo,p1,p2,pKv,pB,pBo,pAu,pAuo,fErr,fNonce⟩:=m
  obtain ⟨y1_0,y1_1,y1_2,y1_3,y1_4,y1_5⟩:=z1
  obtain ⟨y2_0,y2_1,y2_2,y2_3,y2_4,y2_5,y2_6,y2_7,y2_8⟩:=z2
  obtain ⟨y3_0,y3_1,y3_2,y3_3,y3_4,y3_5,y3_6⟩:=z3
  obtain ⟨y4_0,y4_1,y4_2,y4_3,y4_4⟩:=z4
  simp only at *
  subst h5 y1_0 y1_1 y1_2 y1_3 y1_4 y1_5 y2_0 y2_1 y2_2 y2_3 y2_4 y2_5 y2_6 y2_7 y2_8 y3_0 y3_1 y3_2 y3_3 y3_4 y3_5 y3_6 y4_0 y4_1 y4_2 y4_3 y4_4
  rfl
 rw [zqo h1,zqo h2,zqo h3,zqo h4,zqo h5] at hm
 cases hm
theorem okM_iff {m:Msg} {b:List UInt8}:okM m b=true↔isB m=true∧(laidB m).length≤2000∧laidB m=b:=by
 unfold okM
 rw [zqb,zqb,decide_eq_true_eq,decide_eq_true_eq]
theorem okM_d {m m':Msg} {b:List UInt8} (h:m.d=m'.d):okM m b=okM m' b:=by
 unfold okM
 rw [d_is h,d_laid h]
theorem refDec_eq (b:List UInt8):refDecV b=decV b:=by
 unfold refDecV decV
 cases h1:okM (takenR b) b
 ·cases h2:okM (takenB b) b
  ·rw [agM_no h1,agM_no h2]
  ·exfalso
   obtain ⟨k1,k2,k3⟩:=okM_iff.1 h2
   have e:=takenR_laid _ k1
   rw [k3] at e
   rw [okM_d e,h2] at h1
   cases h1
 ·obtain ⟨k1,k2,k3⟩:=okM_iff.1 h1
  have e:=taken_laid _ k1
  rw [k3] at e
  have h2:okM (takenB b) b=true:=by rw [okM_d e,h1]
  rw [agM_yes h1,agM_yes h2,e]
end Go.Proofs.Tryz
namespace Go.Proofs.YtldfjimgfnjdjaaGreatDoor
open Go Go.RowKit Ps
theorem rows_ints {k:IntKind}:∀{rs:List (List PV)},(∀r∈rs,∃x,r=[.int k x]∧(Lit.int k x).wf=true)→∃xs:List Int,rs.length=xs.length∧rs.flatten=xs.map (.int k)∧∀x∈xs,(Lit.int k x).wf=true
 | [],_=>⟨[],rfl,rfl,fun x h=>by cases h⟩
 | r::rs,h=>by
  obtain ⟨x,rfl,hx⟩:=h r List.mem_cons_self
  obtain ⟨xs,h1,h2,h3⟩:=rows_ints fun r hr=>h r (List.mem_cons_of_mem _ hr)
  exact ⟨x::xs,by simp [h1],by simp [h2],fun y hy=>by
   rcases List.mem_cons.1 hy with rfl | hy
   ·exact hx
   ·exact h3 y hy⟩
theorem bytes_of:∀{xs:List Int},(∀x∈xs,(Lit.int .u8 x).wf=true)→∃bs:List UInt8,xs.length=bs.length∧xs.map (PV.int .u8)=bs.map bC
 | [],_=>⟨[],rfl,rfl⟩
 | x::xs,h=>by
  obtain ⟨bs,h1,h2⟩:=bytes_of fun y hy=>h y (List.mem_cons_of_mem _ hy)
  have hx:=bounds_u8 (h x List.mem_cons_self)
  refine ⟨UInt8.ofNat x.toNat::bs,by simp [h1],?_⟩
  rw [List.map_cons,List.map_cons,h2]
  congr 1
  show PV.int .u8 x=.int .u8 _
  rw [UInt8.toNat_ofNat']
  congr 1;omega
theorem own:ownKnob Tryz.prog.godebug=none:=by kernel_rfl
theorem laidOut:laidOutB Tryz.prog=true:=by kernel_rfl
def litV:DataW Unit→Value
 | .lit (.int k n)=>.int k n
 | _=>Go.undef
def litVs:DataW Unit→List Value
 | .agg l=>l.map litV
 | d=>[litV d]
def tabVs:DataW Unit→List Value
 | .agg l=>l.flatMap litVs
 | _=>[]
def fillTab (l:List Value):Obj→Obj
 | .cells _ t frozen=>.cells l.toArray t frozen
 | o=>o
noncomputable def laidWorld (os:Os):World :=
 { World.holding Tryz.prog os ⟨#[],#[],[]⟩ with heap:=((World.holding Tryz.prog os ⟨#[],#[],[]⟩).heap.modify 0 (fillTab (tabVs Rows.laid_unicode_utf8_first))).modify 1 (fillTab (tabVs Rows.laid_unicode_utf8_acceptRanges)) }
theorem laid_met (os : Os) (args : Array Value) : laidMet Tryz.prog [("unicode/utf8.acceptRanges", Rows.laid_unicode_utf8_acceptRanges), ("unicode/utf8.first", Rows.laid_unicode_utf8_first)] ((laidWorld os).forCall (fun _ _ => 0) ⟨#[], args, []⟩).memory :=
 laidMet_of_run' 8 (by kernel_rfl) (by kernel_rfl)
theorem varsB (os:Os) (args:Array Value):((laidWorld os).forCall (fun _ _=>0) ⟨#[],args,[]⟩).variablesB Tryz.checked.prog=true:=by kernel_rfl
theorem heapB (os : Os) (args : Array Value) : (((laidWorld os).forCall (fun _ _ => 0) ⟨#[], args, []⟩).heap.toList.drop Tryz.checked.prog.globals.size).take ((begin Tryz.checked.prog (fun _ _ => 0) default).world.heap.size - Tryz.checked.prog.globals.size) =
      (begin Tryz.checked.prog (fun _ _ => 0) default).world.heap.toList.drop Tryz.checked.prog.globals.size := by kernel_rfl
theorem noLooks:false=Tryz.prog.looks []:=by kernel_rfl
theorem plainOf {name:String} {k:Nat} {g:Func} (hn:Tryz.prog.funcNamed name=some k) (hg:Tryz.prog.funcs[k]? = some g) (hall:(g.params.toList.all fun t=>Tryz.prog.wantsStandIn t==false)=true)
  (f:FuncId) (fn:Func) (hf:Tryz.pinned.checked.prog.funcNamed name=some f) (hfn:Tryz.pinned.checked.prog.funcs[f]? = some fn) :
  false=Tryz.pinned.checked.prog.looks []∧∀(j:Nat) t,fn.params[j]? = some t→Tryz.pinned.checked.prog.wantsStandIn t=false:=by
 obtain rfl:f=k:=Option.some.inj (hn.symm.trans hf) |>.symm
 obtain rfl:fn=g:=(Option.some.inj (hg.symm.trans hfn)).symm
 refine ⟨noLooks,fun j t ht=>?_⟩
 have h:Tryz.prog.wantsStandIn t=false:=by simpa using List.all_eq_true.1 hall t (Array.mem_toList_iff.2 (Array.mem_of_getElem? ht))
 exact h
end Go.Proofs.YtldfjimgfnjdjaaGreatDoor
namespace Go.Proofs.Tryz
open Go Ps
def ttK:TT:=[(2,⟨.int .i64,1,8,[.int .i64 0]⟩),(3,⟨.int .i64,1,8,[.int .i64 0]⟩),(4,⟨.bool,1,1,[.bool false]⟩),(5,⟨.int .u8,1,1,[.int .u8 0]⟩),(9,⟨.str,1,16,[.str []]⟩),(22,⟨.slice 9,1,24,[.slice 0 [] (some 9)]⟩),(23,⟨.ptr,1,8,[.ptr none]⟩),(25,⟨.slice 5,1,24,[.slice 0 [] (some 5)]⟩),(26,⟨.int .i64,1,8,[.int .i64 0]⟩),(28,⟨.ptr,1,8,[.ptr none]⟩),(29,⟨.ptr,1,8,[.ptr none]⟩),(31,⟨.arr 32 5,32,32,List.replicate 32 (.int .u8 0)⟩),(33,⟨.strct [(28,0),(29,1),(3,2),(31,3),(3,35)],36,64,[.ptr none,.ptr none,.int .i64 0]++List.replicate 32 (.int .u8 0)++[.int .i64 0]⟩),(36,⟨.strct [(9,0),(9,1)],2,32,[.str [],.str []]⟩),(43,⟨.strct [(3,0),(3,1),(9,2),(9,3),(3,4),(25,5),(3,6)],7,88,[.int .i64 0,.int .i64 0,.str [],.str [],.int .i64 0,.slice 0 [] (some 5),.int .i64 0]⟩),(51,⟨.strct [(36,0),(36,2),(3,4),(3,5)],6,80,[.str [],.str [],.str [],.str [],.int .i64 0,.int .i64 0]⟩),(53,⟨.strct [(36,0),(3,2),(25,3)],4,64,[.str [],.str [],.int .i64 0,.slice 0 [] (some 5)]⟩),(55,⟨.strct [(53,0),(25,4),(36,5),(3,7),(3,8)],9,136,[.str [],.str [],.int .i64 0,.slice 0 [] (some 5),.slice 0 [] (some 5),.str [],.str [],.int .i64 0,.int .i64 0]⟩),(57,⟨.strct [(36,0),(53,2),(25,6)],7,120,[.str [],.str [],.str [],.str [],.int .i64 0,.slice 0 [] (some 5),.slice 0 [] (some 5)]⟩),(59,⟨.strct [(53,0),(25,4)],5,88,[.str [],.str [],.int .i64 0,.slice 0 [] (some 5),.slice 0 [] (some 5)]⟩),(61,⟨.strct [(26,0),(3,1)],2,16,[.int .i64 0,.int .i64 0]⟩),(63,⟨.strct [(3,0),(51,1),(55,7),(57,16),(59,23),(61,28)],30,448,[.int .i64 0,.str [],.str [],.str [],.str [],.int .i64 0,.int .i64 0,.str [],.str [],.int .i64 0,.slice 0 [] (some 5),.slice 0 [] (some 5),.str [],.str [],.int .i64 0,.int .i64 0,.str [],.str [],.str [],.str [],.int .i64 0,.slice 0 [] (some 5),.slice 0 [] (some 5),.str [],.str [],.int .i64 0,.slice 0 [] (some 5),.slice 0 [] (some 5),.int .i64 0,.int .i64 0]⟩),(73,⟨.strct [(36,0),(3,2),(3,3)],4,48,[.str [],.str [],.int .i64 0,.int .i64 0]⟩),(83,⟨.strct [(53,0),(31,4),(3,36)],37,104,[.str [],.str [],.int .i64 0,.slice 0 [] (some 5)]++List.replicate 32 (.int .u8 0)++[.int .i64 0]⟩),(86,⟨.slice 156,1,24,[.slice 0 [] (some 156)]⟩),(88,⟨.strct [(86,0)],1,24,[.slice 0 [] (some 156)]⟩),(90,⟨.strct [(36,0),(31,2),(88,34),(3,35),(3,36),(3,37),(3,38),(3,39),(3,40),(36,41),(22,43),(31,44),(3,76),(4,77)],78,240,[.str [],.str []]++List.replicate 32 (.int .u8 0)++[.slice 0 [] (some 156)]++List.replicate 6 (.int .i64 0)++[.str [],.str [],.slice 0 [] (some 9)]++List.replicate 32 (.int .u8 0)++[.int .i64 0,.bool false]⟩),(100,⟨.ptr,1,8,[.ptr none]⟩),(105,⟨.strB [(102,0),(103,0),(2,0)],1,8,[.int .i64 0]⟩),(106,⟨.ptr,1,8,[.ptr none]⟩),(108,⟨.strct [(3,0),(106,1),(3,2),(4,3)],4,32,[.int .i64 0,.ptr none,.int .i64 0,.bool false]⟩),(110,⟨.strct [(36,0),(31,2),(100,34),(105,35),(105,36),(105,37),(3,38),(26,39),(3,40),(36,41),(22,43),(108,44)],48,208,[.str [],.str []]++List.replicate 32 (.int .u8 0)++[.ptr none]++List.replicate 6 (.int .i64 0)++[.str [],.str [],.slice 0 [] (some 9),.int .i64 0,.ptr none,.int .i64 0,.bool false]⟩),(123,⟨.strct [(31,0),(36,32),(3,34),(3,35),(3,36)],37,88,List.replicate 32 (.int .u8 0)++[.str [],.str [],.int .i64 0,.int .i64 0,.int .i64 0]⟩),(156,⟨.strct [(36,0),(83,2)],39,136,[.str [],.str [],.str [],.str [],.int .i64 0,.slice 0 [] (some 5)]++List.replicate 32 (.int .u8 0)++[.int .i64 0]⟩),(158,⟨.map 36 83,1,8,[.undef]⟩),(160,⟨.strct [(158,0)],1,8,[.undef]⟩),(164,⟨.fn,1,8,[.nilF]⟩),(171,⟨.fn,1,8,[.nilF]⟩)]
theorem ttK_ok:ttOk prog ttK=true:=by kernel_rfl
def imm13:List Nat:=[]
def imm14:List Nat:=[4]
def imm15:List Nat:=[]
def imm16:List Nat:=[]
def imm17:List Nat:=[]
def imm20:List Nat:=[]
def imm21:List Nat:=[]
def imm25:List Nat:=[]
def imm34:List Nat:=[2,3]
def imm37:List Nat:=[2,3]
def imm38:List Nat:=[1]
def imm39:List Nat:=[]
def imm40:List Nat:=[4]
def imm41:List Nat:=[]
def imm43:List Nat:=[2,3]
def imm45:List Nat:=[]
def imm77:List Nat:=[]
def imm81:List Nat:=[]
def imm82:List Nat:=[]
def imm84:List Nat:=[]
def imm85:List Nat:=[]
def krb (r:List UInt8):List UInt8:=krbB++r
def isUserB (r n:List UInt8):Bool:=isPrincB r n&&!(targetB n).2
theorem c39 (n:Int):Pure prog 39 [.int .i64 n] (.bool (inZ n 0 1073741824)):=by
 intro H
 (refine fnS (imm:=imm39) ttK_ok func39 ?_;(conv=>whnf))
 unfold inZ
 refine ⟨fun h=>?_,fun h=>?_⟩
 ·have h:(0:Int)≤n:=h
  conv=>whnf
  refine ⟨fun h2=>?_,fun h2=>?_⟩
  ·have h2:n≤1073741824:=h2
   conv=>whnf
   exact ⟨zqm PV.bool (by rw [zqe h,zqe h2];rfl),rfl⟩
  ·have h2:¬n≤1073741824:=h2
   conv=>whnf
   exact ⟨zqm PV.bool (by rw [zqd h2,zq3]),rfl⟩
 ·have h:¬(0:Int)≤n:=h
  conv=>whnf
  exact ⟨zqm PV.bool (by rw [zqd h,zq4]),rfl⟩
theorem c81 (r:List UInt8) (hr:r.length≤1099511627775):Pure prog 81 [.str r] (.str (krb r)):=by
 intro H
 (refine fnS (imm:=imm81) ttK_ok func81 ?_;(conv=>whnf))
 refine ⟨by show 7+r.length≤9223372036854775807;omega,?_⟩
 conv=>whnf
 exact ⟨rfl,rfl⟩
theorem c38 (r n:List UInt8) (h1:r.length≤1099511627775) (h2:n.length≤1099511627775):Pure prog 38 [.agg [.str r,.str n]] (.bool (isUserB r n)):=by
 intro H
 have k78:=c78 n h2
 have k79:=c79 r n h1 h2
 unfold isUserB
 generalize (targetB n).1=t1 at *
 generalize (targetB n).2=t2 at *
 generalize isPrincB r n=b at *
 cases b
 ·(refine fnS (imm:=imm38) ttK_ok func38 ?_;(conv=>whnf))
  (repeat (first | ((first | (apply exA;(focus exact oN)) | refine bT ?_ | refine bF ?_ | refine bW (bT ?_) | refine bW (bF ?_) | (apply cP;(focus assumption)) | (apply cE;(focus assumption)) | refine ⟨by first | decide | omega,?_⟩);((conv=>whnf))) | ((conv in (_[_]?)=>tactic=>first | exact oL | exact gS (by assumption));(conv=>whnf))))
  exact ⟨rfl,rfl⟩
 ·(refine fnS (imm:=imm38) ttK_ok func38 ?_;(conv=>whnf))
  (repeat (first | ((first | (apply exA;(focus exact oN)) | refine bT ?_ | refine bF ?_ | refine bW (bT ?_) | refine bW (bF ?_) | (apply cP;(focus assumption)) | (apply cE;(focus assumption)) | refine ⟨by first | decide | omega,?_⟩);((conv=>whnf))) | ((conv in (_[_]?)=>tactic=>first | exact oL | exact gS (by assumption));(conv=>whnf))))
  exact ⟨rfl,rfl⟩
def tillI (now:Int):Int:=min (now+1000) 1073741824
theorem c84 (now:Int) (h0:0≤now) (h1:now≤1073741824):Pure prog 84 [.int .i64 now] (.int .i64 (tillI now)):=by
 intro H
 have hw:IntKind.i64.wrap (now+1000)=now+1000:=w64 (by omega) (by omega)
 (refine fnS (imm:=imm84) ttK_ok func84 ?_;(conv=>whnf))
 exact ⟨zqm (PV.int .i64) (by rw [hw];rfl),rfl⟩
theorem gA2 (H:PH) (a b:PObj):(H++[a]++[b])[H.length]? = some a:=by rw [List.append_assoc,zqi (zqn _),Nat.sub_self];rfl
/-! The cache. -/
def cacheC:List Crd→List PV
 | []=>[]
 | c::L=>.agg [.str c.r,.str c.n]::.agg c.cells::cacheC L
def cacheO (mid:Nat) (v:Nat):PObj:=⟨160,[.mref mid],v⟩
def mapO (L:List Crd) (v:Nat):PObj:=⟨158,cacheC L,v⟩
def Crd.is (r n:List UInt8) (c:Crd):Bool:=decide (c.r=r)&&decide (c.n=n)
def findL (r n:List UInt8) (L:List Crd):Option Crd:=L.find? (Crd.is r n)
theorem Crd.is_iff {r n:List UInt8} {c:Crd}:c.is r n=true↔c.r=r∧c.n=n:=by
 unfold Crd.is;rw [zqb];exact ⟨fun h=>⟨of_decide_eq_true h.1,of_decide_eq_true h.2⟩,fun h=>⟨zqe h.1,zqe h.2⟩⟩
theorem keyEq {r n:List UInt8} {c:Crd}:(PV.agg [.str r,.str n]=PV.agg [.str c.r,.str c.n])↔c.is r n=true:=by
 rw [Crd.is_iff]
 constructor
 ·intro h
  injection h with h
  injection h with h1 h2
  injection h1 with h1
  injection h2 with h2 _
  injection h2 with h2
  exact ⟨h1.symm,h2.symm⟩
 ·rintro ⟨h1,h2⟩;rw [h1,h2]
theorem mapFind_none {r n:List UInt8} {K:Option (Nat×PV)→Prop} (k:K none):∀{L:List Crd} (i:Nat),findL r n L=none→mapFind (.agg [.str r,.str n]) i (cacheC L) K
 | [],_,_=>k
 | c::L,i,h=>by
  unfold findL at h
  rw [List.find?_cons] at h
  refine ⟨fun e=>?_,fun _=>mapFind_none k (i+1) ?_⟩
  ·rw [keyEq.1 e] at h;cases h
  ·cases hc:c.is r n
   ·rw [hc] at h;exact h
   ·rw [hc] at h;cases h
theorem mapFind_some {r n:List UInt8} {K:Option (Nat×PV)→Prop} {c:Crd}:∀{L:List Crd} (i:Nat),findL r n L=some c→(∀j,L[j]? = some c→K (some (i+j,.agg c.cells)))→mapFind (.agg [.str r,.str n]) i (cacheC L) K
 | [],_,h,_=>by cases h
 | x::L,i,h,k=>by
  unfold findL at h
  rw [List.find?_cons] at h
  refine ⟨fun e=>?_,fun e=>mapFind_some (i+1) (c:=c) ?_ (fun j hj=>?_)⟩
  ·rw [keyEq.1 e] at h
   cases h
   exact k 0 rfl
  ·cases hc:x.is r n
   ·rw [hc] at h;exact h
   ·exact absurd (keyEq.2 hc) e
  ·have:=k (j+1) hj
   rwa [show i+(j+1)=i+1+j by omega] at this
theorem kf36 (r n:List UInt8):keyFit ttK 36 (.agg [.str r,.str n]):=⟨rfl,⟨by show 1≤2;omega,r,rfl⟩,rfl,⟨by show 1≤1;omega,n,rfl⟩,rfl⟩
theorem ksL:∀L:List Crd,keysFit ttK 36 (cacheC L)
 | []=>trivial
 | c::L=>⟨kf36 c.r c.n,ksL L⟩
def Xt (H H':PH):Prop:=∃ext,H'=H++ext
theorem Xt.refl (H:PH):Xt H H:=⟨[],by simp⟩
theorem Xt.app {H H':PH} (h:Xt H H') (l:PH):Xt H (H'++l):=by obtain ⟨e,rfl⟩:=h;exact ⟨e++l,by simp⟩
theorem Xt.set {H H':PH} (h:Xt H H') {i:Nat} (hi:H.length≤i) (o:PObj):Xt H (H'.set i o):=by
 obtain ⟨e,rfl⟩:=h
 exact ⟨_,List.set_append_right _ _ hi⟩
theorem Xt.get {H H':PH} (h:Xt H H') {i:Nat} {o:PObj} (ho:H[i]? = some o):H'[i]? = some o:=by
 obtain ⟨e,rfl⟩:=h
 rw [zq2 (zq1.1 ho).1];exact ho
theorem Xt.len {H H':PH} (h:Xt H H'):H.length≤H'.length:=by obtain ⟨e,rfl⟩:=h;simp
theorem drawK_at {P:Program} {tt:TT} {imm:List Nat} {N:Nat} {ops:List Oper} {E:Env} {H Y:PH} {K:Env→PH→Prop} (e:H=Y) (h:drawK P tt imm N ops E Y K):drawK P tt imm N ops E H K:=e▸h
theorem callK_at {P:Program} {f:Nat} {args:List PV} {H Y:PH} {K:PV→PH→Prop} (e:H=Y) (h:callK P f args Y K):callK P f args H K:=e▸h
theorem oR {A:Prop} (h:A:=by (conv=>whnf);exact ⟨⟨rfl,rfl,zqv⟩,gL _ _⟩):A:=h
theorem drawK_of3 {P:Program} {tt:TT} {imm:List Nat} {N:Nat} {ops:List Oper} {E:Env} {H:PH} {K:Env→PH→Prop} (D:Draw) (Hs:List PH) (Hf:PH) (h0:drawOk N ops D=true) (h1:startOk D H Hs)
  (h2:pVers D Hs D.fs) (hf:hk Hs (cnt D.isImp ops.length)=Hf) (h:pDr2 P tt imm ops D Hs 0 ops E fun E'=>K E' Hf):drawK P tt imm N ops E H K :=
 dO2 D Hs h0 h1 h2 (by rw [hf];exact h)
def zCrd:Crd:=⟨[],[],0,[],fun _=>0,0⟩
def D40 (b:Nat):Draw:={ imp:=[10],win:=[(8,0,1),(11,1,1)],robs:=[z83c],res:=[(9,0)],base:=b }
theorem c40n {H:PH} {caid mid v v2:Nat} {L:List Crd} {r n:List UInt8} (now:Int) (hc:H[caid]? = some (cacheO mid v)) (hm:H[mid]? = some (mapO L v2)) (hf:findL r n L=none) :
  CK prog 40 [.ptr (some (caid,0)),.agg [.str r,.str n],.int .i64 now] H fun x H'=>x=.tup [.agg zCrd.cells,.bool false]∧H'=H:=by
 refine (CK.gc (Q:=fun x H'=>x=.tup [.agg zCrd.cells,.bool false]∧Xt H H') ?_ (fun r H' h=>⟨by rw [h.1];rfl,h.2⟩)).mono (fun x H' h=>⟨h.2.choose_spec.1,h.1⟩)
 have e1:=(Xt.refl H).app [z83c]
 have hlt:=e1.len
 have g1:(H++[z83c])[H.length]? = some z83c:=gL _ _
 generalize hX:H++[z83c]=X at *
 have e2:=e1.app [z83c]
 have hc2:=e2.get hc
 have hm2:=e2.get hm
 have hg2:=gL X z83c
 have hXl:H.length<X.length:=by rw [←hX];simp
 obtain ⟨Y,hY⟩:∃Y,(X++[z83c]).set X.length ⟨83,z83c.cs,1⟩=Y:=⟨_,rfl⟩
 have e3:Xt H Y:=hY▸e2.set hlt _
 have g3:Y[H.length]? = some z83c:=by rw [←hY,zqj (by omega),zq2 hXl];exact g1
 (refine fnS (imm:=imm40) ttK_ok func40 ?_;(conv=>whnf))
 refine drawK_at hX ?_
 refine drawK_of3 (D40 X.length) [X++[z83c],Y] Y (by kernel_rfl) ⟨rfl,rfl⟩ trivial rfl ?_
 conv=>whnf
 (repeat (first | ((first | (apply exA;(focus exact oN)) | refine bT ?_ | refine bF ?_ | refine bW (bT ?_) | refine bW (bF ?_) | (apply cP;(focus assumption)) | (apply cE;(focus assumption)) | refine ⟨by first | decide | omega,?_⟩);((conv=>whnf))) | ((conv in (_[_]?)=>tactic=>first | exact oL | exact gS (by assumption));(conv=>whnf))))
 apply exA
 ·conv=>whnf
  ((conv in (_[_]?)=>tactic=>exact hm2);(conv=>whnf))
  refine ⟨⟨kf36 _ _,ksL L⟩,?_⟩
  refine mapFind_none ?_ 0 hf
  exact ⟨rfl,rfl,zqv⟩
 conv=>whnf
 (repeat (first | ((first | (apply exA;(focus exact oN)) | refine bT ?_ | refine bF ?_ | refine bW (bT ?_) | refine bW (bF ?_) | (apply cP;(focus assumption)) | (apply cE;(focus assumption)) | refine ⟨by first | decide | omega,?_⟩);((conv=>whnf))) | ((conv in (_[_]?)=>tactic=>first | exact oL | exact gS (by assumption));(conv=>whnf))))
 apply exA
 ·exact oR
 conv=>whnf
 apply exA
 ·conv=>whnf
  ((conv in (_[_]?)=>tactic=>exact hg2);(conv=>whnf))
  exact ⟨rfl,hY,zqv⟩
 conv=>whnf
 (repeat (first | ((first | (apply exA;(focus exact oN)) | refine bT ?_ | refine bF ?_ | refine bW (bT ?_) | refine bW (bF ?_) | (apply cP;(focus assumption)) | (apply cE;(focus assumption)) | refine ⟨by first | decide | omega,?_⟩);((conv=>whnf))) | ((conv in (_[_]?)=>tactic=>first | exact oL | exact gS (by assumption));(conv=>whnf))))
 exact ⟨rfl,e3.set (zqn _) _⟩
theorem c40o {H:PH} {caid mid v v2:Nat} {L:List Crd} {r n:List UInt8} (now:Int) (hc:H[caid]? = some (cacheO mid v)) (hm:H[mid]? = some (mapO L v2)) {c:Crd} (hf:findL r n L=some c) (hen:c.en<now) :
  CK prog 40 [.ptr (some (caid,0)),.agg [.str r,.str n],.int .i64 now] H fun x H'=>x=.tup [.agg zCrd.cells,.bool false]∧H'=H:=by
 refine (CK.gc (Q:=fun x H'=>x=.tup [.agg zCrd.cells,.bool false]∧Xt H H') ?_ (fun r H' h=>⟨by rw [h.1];rfl,h.2⟩)).mono (fun x H' h=>⟨h.2.choose_spec.1,h.1⟩)
 have e1:=(Xt.refl H).app [z83c]
 have hlt:=e1.len
 have g1:(H++[z83c])[H.length]? = some z83c:=gL _ _
 generalize hX:H++[z83c]=X at *
 have e2:=e1.app [z83c]
 have hc2:=e2.get hc
 have hm2:=e2.get hm
 have hg2:=gL X z83c
 have hXl:H.length<X.length:=by rw [←hX];simp
 obtain ⟨Y,hY⟩:∃Y,(X++[z83c]).set X.length ⟨83,c.cells,1⟩=Y:=⟨_,rfl⟩
 have e3:Xt H Y:=hY▸e2.set hlt _
 have g3:Y[H.length]? = some z83c:=by rw [←hY,zqj (by omega),zq2 hXl];exact g1
 (refine fnS (imm:=imm40) ttK_ok func40 ?_;(conv=>whnf))
 refine drawK_at hX ?_
 refine drawK_of3 (D40 X.length) [X++[z83c],Y] Y (by kernel_rfl) ⟨rfl,rfl⟩ trivial rfl ?_
 conv=>whnf
 (repeat (first | ((first | (apply exA;(focus exact oN)) | refine bT ?_ | refine bF ?_ | refine bW (bT ?_) | refine bW (bF ?_) | (apply cP;(focus assumption)) | (apply cE;(focus assumption)) | refine ⟨by first | decide | omega,?_⟩);((conv=>whnf))) | ((conv in (_[_]?)=>tactic=>first | exact oL | exact gS (by assumption));(conv=>whnf))))
 apply exA
 ·conv=>whnf
  ((conv in (_[_]?)=>tactic=>exact hm2);(conv=>whnf))
  refine ⟨⟨kf36 _ _,ksL L⟩,?_⟩
  refine mapFind_some 0 hf (fun j _=>?_)
  exact ⟨rfl,rfl,zqv⟩
 conv=>whnf
 (repeat (first | ((first | (apply exA;(focus exact oN)) | refine bT ?_ | refine bF ?_ | refine bW (bT ?_) | refine bW (bF ?_) | (apply cP;(focus assumption)) | (apply cE;(focus assumption)) | refine ⟨by first | decide | omega,?_⟩);((conv=>whnf))) | ((conv in (_[_]?)=>tactic=>first | exact oL | exact gS (by assumption));(conv=>whnf))))
 apply exA
 ·exact oR
 conv=>whnf
 apply exA
 ·conv=>whnf
  ((conv in (_[_]?)=>tactic=>exact hg2);(conv=>whnf))
  exact ⟨rfl,hY,zqv⟩
 have g4:Y[X.length]? = some (⟨83,c.cells,1⟩:PObj):=by rw [←hY,List.getElem?_set_self (by simp)]
 conv=>whnf
 (repeat (first | ((first | (apply exA;(focus exact oN)) | refine bT ?_ | refine bF ?_ | refine bW (bT ?_) | refine bW (bF ?_) | (apply cP;(focus assumption)) | (apply cE;(focus assumption)) | refine ⟨by first | decide | omega,?_⟩);((conv=>whnf))) | ((conv in (_[_]?)=>tactic=>first | exact oL | exact gS (by assumption));(conv=>whnf))))
 exact ⟨rfl,e3.set (zqn _) _⟩
theorem Evo.xt {S:Nat→Prop} {H H':PH} (h:Xt H H'):Evo S H H':=by obtain ⟨e,rfl⟩:=h;exact Evo.app _ _
structure MapAt (H:PH) (mid:Nat) (L:List Crd):Prop where
 ex:∃v,H[mid]? = some (mapO L v)
structure Cs where
 r:List UInt8
 n:List UInt8
 k:Nat→UInt8
 ca:Nat
 nn:Int
 sn:Int
 qn:Int
 st:Int
 er:Int
 se:Int
 tr:List UInt8
 tn:List UInt8
 vis:PV
 on:Int
 ob:PV
 ou:Int
 fi:Bool
def cliO (c:Cs) (v:Nat):PObj:=⟨110,[.str c.r,.str c.n]++keyC c.k++[.ptr (some (c.ca,0)),.int .i64 c.nn,.int .i64 c.sn,.int .i64 c.qn,.int .i64 c.st,.int .i64 c.er,.int .i64 c.se,.str c.tr,.str c.tn,c.vis,.int .i64 c.on,c.ob,.int .i64 c.ou,.bool c.fi],v⟩
theorem cliT (c:Cs) (v:Nat):(cliO c v).T≠keyT∧(cliO c v).T≠boxT:=⟨fun h=>absurd (show 110=keyT from h) (by decide),fun h=>absurd (show 110=boxT from h) (by decide)⟩
theorem cacheOT (m:Nat) (v:Nat):(cacheO m v).T≠keyT∧(cacheO m v).T≠boxT:=⟨fun h=>absurd (show 160=keyT from h) (by decide),fun h=>absurd (show 160=boxT from h) (by decide)⟩
theorem mapOT (L:List Crd) (v:Nat):(mapO L v).T≠keyT∧(mapO L v).T≠boxT:=⟨fun h=>absurd (show 158=keyT from h) (by decide),fun h=>absurd (show 158=boxT from h) (by decide)⟩
structure Cl (H:PH) (cid mid:Nat) (c:Cs) (L:List Crd):Prop where
 o:∃v,H[cid]? = some (cliO c v)
 a:∃v,H[c.ca]? = some (cacheO mid v)
 m:MapAt H mid L
theorem ne_of_T {H:PH} {i j:Nat} {o p:PObj} (h:H[i]? = some o) (k:H[j]? = some p) (hn:o.T≠p.T):i≠j:=fun e=>by
 subst e
 rw [h] at k;cases k
 exact hn rfl
theorem Cl.ne {H:PH} {cid mid:Nat} {c:Cs} {L:List Crd} (h:Cl H cid mid c L):cid≠c.ca∧cid≠mid∧c.ca≠mid:=by
 obtain ⟨⟨v,h1⟩,⟨w,h2⟩,⟨u,h3⟩⟩:=h
 exact ⟨ne_of_T h1 h2 (show 110≠160 by decide),ne_of_T h1 h3 (show 110≠158 by decide),ne_of_T h2 h3 (show 160≠158 by decide)⟩
theorem Cl.evo {S:Nat→Prop} {H H':PH} {cid mid:Nat} {c:Cs} {L:List Crd} (h:Cl H cid mid c L) (k:Evo S H H') (h1:¬S cid) (h2:¬S c.ca) (h3:¬S mid):Cl H' cid mid c L:=by
 obtain ⟨⟨v,g1⟩,⟨w,g2⟩,⟨u,g3⟩⟩:=h
 exact ⟨⟨v,k.same _ _ g1 h1 (cliT ..).1 (cliT ..).2⟩,⟨w,k.same _ _ g2 h2 (cacheOT ..).1 (cacheOT ..).2⟩,⟨u,k.same _ _ g3 h3 (mapOT ..).1 (mapOT ..).2⟩⟩
theorem Cl.put {H:PH} {cid mid:Nat} {c:Cs} {L:List Crd} (h:Cl H cid mid c L) (c':Cs) (hca:c'.ca=c.ca) (v:Nat):Cl (H.set cid (cliO c' v)) cid mid c' L∧Evo (·=cid) H (H.set cid (cliO c' v)):=by
 have hn:=h.ne
 obtain ⟨⟨w,g1⟩,⟨x,g2⟩,⟨u,g3⟩⟩:=h
 have he:Evo (·=cid) H (H.set cid (cliO c' v)):=Evo.setOther g1 rfl (cliT ..).1 (cliT ..).2
 refine ⟨⟨⟨v,gS g1⟩,⟨x,?_⟩,⟨u,?_⟩⟩,he⟩
 ·rw [hca];exact he.same _ _ g2 (Ne.symm hn.1) (cacheOT ..).1 (cacheOT ..).2
 ·exact he.same _ _ g3 (Ne.symm hn.2.1) (mapOT ..).1 (mapOT ..).2
theorem Cl.xt {H H':PH} {cid mid:Nat} {c:Cs} {L:List Crd} (h:Cl H cid mid c L) (e:Xt H H'):Cl H' cid mid c L:=by
 obtain ⟨⟨v,g1⟩,⟨w,g2⟩,⟨u,g3⟩⟩:=h
 exact ⟨⟨v,e.get g1⟩,⟨w,e.get g2⟩,⟨u,e.get g3⟩⟩
def Wc (cid mid:Nat) (i:Nat):Prop:=i=cid∨i=mid
theorem Evo.no {S:Nat→Prop} {H H':PH} (h:Evo (fun _=>False) H H'):Evo S H H':=h.mono fun _ h=>h.elim
theorem Evo.c {cid mid:Nat} {H H':PH} (h:Evo (·=cid) H H'):Evo (Wc cid mid) H H':=h.mono fun _ h=>.inl h
def z36o:PObj:=⟨36,[.str [],.str []],0⟩
def D41:Draw:={ imp:=[12] }
theorem c41 {H:PH} {cid:Nat} {c:Cs} {v:Nat} (ho:H[cid]? = some (cliO c v)) (hr:c.r.length≤1000000) :
  CK prog 41 [.ptr (some (cid,0))] H fun x H'=>x=.agg [.str c.r,.str (krb c.r)]∧H'=H:=by
 refine (CK.gc (Q:=fun x H'=>x=.agg [.str c.r,.str (krb c.r)]∧Xt H H') ?_ (fun r H' h=>⟨by rw [h.1];rfl,h.2⟩)).mono (fun x H' h=>⟨h.2.choose_spec.1,h.1⟩)
 have e1:=(Xt.refl H).app [z36o]
 have ho1:=e1.get ho
 have hg:=gL H z36o
 have k81:=c81 c.r (by omega)
 have e2:=e1.set (zqn _) (⟨36,[.str c.r,.str (krb c.r)],1⟩:PObj)
 (refine fnS (imm:=imm41) ttK_ok func41 ?_;(conv=>whnf))
 refine drawK_of3 D41 [H++[z36o],(H++[z36o]).set H.length ⟨36,[.str c.r,.str (krb c.r)],1⟩] _ (by kernel_rfl) rfl trivial rfl ?_
 conv=>whnf
 (repeat (first | ((first | (apply exA;(focus exact oN)) | refine bT ?_ | refine bF ?_ | refine bW (bT ?_) | refine bW (bF ?_) | (apply cP;(focus assumption)) | (apply cE;(focus assumption)) | refine ⟨by first | decide | omega,?_⟩);((conv=>whnf))) | ((conv in (_[_]?)=>tactic=>first | exact oL | exact gS (by assumption));(conv=>whnf))))
 exact ⟨rfl,e2⟩
theorem inZ_of {n lo hi:Int} (h1:lo≤n) (h2:n≤hi):inZ n lo hi=true:=by unfold inZ;rw [zqe h1,zqe h2];rfl
def msgOk (m:Msg):Prop:=isB m=true∧(laidB m).length≤2000∧m.fits
def outO (on:Int) (ob:PV) (ou:Int) (fi:Bool) (v:Nat):PObj:=⟨108,[.int .i64 on,ob,.int .i64 ou,.bool fi],v⟩
theorem outT (on:Int) (ob:PV) (ou:Int) (fi:Bool) (v:Nat):(outO on ob ou fi v).T≠keyT∧(outO on ob ou fi v).T≠boxT:=⟨fun h=>absurd (show 108=keyT from h) (by decide),fun h=>absurd (show 108=boxT from h) (by decide)⟩
def Cs.out (c:Cs) (ob:PV) (ou:Int) (fi:Bool):Cs:={ c with nn:=c.nn+1,on:=c.nn+1,ob:=ob,ou:=ou,fi:=fi,se:=c.se+1 }
theorem Evo.drop {S:Nat→Prop} {H H':PH} {a:Nat} (h:Evo (fun i=>S i∨i=a) H H') (ha:H.length≤a):Evo S H H' :=
 ⟨h.len,h.box,fun id o ho hs=>h.same id o ho fun hh=>by
  rcases hh with hh | hh
  ·exact hs hh
  ·have:=(zq1.1 ho).1
   omega⟩
theorem Evo.own {S:Nat→Prop} {H X:PH} (e:Evo S H X) {a:Nat} {o:PObj} (ha:X[a]? = some o) (h1:o.T≠keyT) (h2:o.T≠boxT) (hle:H.length≤a) (o':PObj):Evo S H (X.set a o') :=
 Evo.drop ((e.mono fun _ h=>.inl h).trans ((Evo.setOther (S:=(·=a)) ha rfl h1 h2).mono fun _ h=>.inr h)) hle
theorem c82 {H:PH} {cid mid:Nat} {c:Cs} {L:List Crd} (hC:Cl H cid mid c L) (bid:Nat) (ou:Int) (fi:Bool) (f:Nat) (caps:List PV) (m:Msg) (hm:msgOk m) (h0:0≤c.nn) (h1:c.nn≤100000) (h2:0≤c.se) (h3:c.se≤100000) (hcaps:caps.map dem=caps)
  (hreq:∀H',(∃v,H'[cid]? = some (cliO (c.out (.ptr (some (bid,0))) ou fi) v))→Evo (·=cid) H H'→CK prog f ([]++[.int .i64 (c.nn+1)]++caps) H' fun r H''=>r=.agg m.cells∧H''=H') :
  ∃H1,Cl H1 cid mid (c.out (.ptr (some (bid,0))) ou fi) L∧Evo (·=cid) H H1∧CK prog 82 [.ptr (some (cid,0)),.agg [.int .i64 0,.ptr (some (bid,0)),.int .i64 ou,.bool fi],.func f [] caps] H fun r H'=>r=sl (laidB m)∧H'=H1:=by
 obtain ⟨v,ho⟩:=hC.o
 have hlt:cid<H.length:=(zq1.1 ho).1
 have e0:=(Xt.refl H).app [outO 0 (.ptr (some (bid,0))) ou fi 0]
 have hC0:=hC.xt e0
 have ho0:=e0.get ho
 have hg0:=gL H (outO 0 (.ptr (some (bid,0))) ou fi 0)
 have E0:Evo (·=cid) H (H++[outO 0 (.ptr (some (bid,0))) ou fi 0]):=Evo.xt e0
 generalize hX0:H++[outO 0 (.ptr (some (bid,0))) ou fi 0]=X0 at *
 have hw:IntKind.i64.wrap (c.nn+1)=c.nn+1:=w64 (by omega) (by omega)
 have hws:IntKind.i64.wrap (c.se+1)=c.se+1:=w64 (by omega) (by omega)
 have hne:cid≠H.length:=by omega
 have k71:=c71 (off:=0+35) (n:=c.nn) 1 ho0 rfl
 rw [hw] at k71
 obtain ⟨hC1,E1⟩:=hC0.put { c with nn:=c.nn+1 } rfl (v+1)
 obtain ⟨X1,hX1⟩:∃X1,X0.set cid (cliO { c with nn:=c.nn+1 } (v+1))=X1:=⟨_,rfl⟩
 have k71':CK prog 71 [.ptr (some (cid,0+35)),.int .i64 1] X0 fun r H'=>r=.int .i64 (c.nn+1)∧H'=X1:=by rw [←hX1];exact k71
 have hg1:X1[H.length]? = some (outO 0 (.ptr (some (bid,0))) ou fi 0):=by rw [←hX1,zqj hne];exact hg0
 have ho1:X1[cid]? = some (cliO { c with nn:=c.nn+1 } (v+1)):=by rw [←hX1];exact gS ho0
 rw [hX1] at hC1 E1
 clear k71 hX1
 have E2:=(E0.trans E1).own hg1 (outT ..).1 (outT ..).2 (zqn _) (outO (c.nn+1) (.ptr (some (bid,0))) ou fi 1)
 have hC2:Cl (X1.set H.length (outO (c.nn+1) (.ptr (some (bid,0))) ou fi 1)) cid mid { c with nn:=c.nn+1 } L:=hC1.evo (S:=(·=H.length)) (Evo.setOther hg1 rfl (outT ..).1 (outT ..).2) hne (fun e=>by have:=(zq1.1 hC.a.choose_spec).1;have e:c.ca=H.length:=e;omega) (fun e=>by have:=(zq1.1 hC.m.ex.choose_spec).1;have e:mid=H.length:=e;omega)
 have hg2:(X1.set H.length (outO (c.nn+1) (.ptr (some (bid,0))) ou fi 1))[H.length]? = some (outO (c.nn+1) (.ptr (some (bid,0))) ou fi 1):=gS hg1
 have ho2:(X1.set H.length (outO (c.nn+1) (.ptr (some (bid,0))) ou fi 1))[cid]? = some (cliO { c with nn:=c.nn+1 } (v+1)):=by rw [zqj (Ne.symm hne)];exact ho1
 obtain ⟨hC3,E3⟩:=hC2.put { c with nn:=c.nn+1,on:=c.nn+1,ob:=.ptr (some (bid,0)),ou:=ou,fi:=fi } rfl (v+2)
 have hg3:((X1.set H.length (outO (c.nn+1) (.ptr (some (bid,0))) ou fi 1)).set cid (cliO { c with nn:=c.nn+1,on:=c.nn+1,ob:=.ptr (some (bid,0)),ou:=ou,fi:=fi } (v+2)))[H.length]? = some (outO (c.nn+1) (.ptr (some (bid,0))) ou fi 1):=by rw [zqj hne];exact hg2
 have ho3:((X1.set H.length (outO (c.nn+1) (.ptr (some (bid,0))) ou fi 1)).set cid (cliO { c with nn:=c.nn+1,on:=c.nn+1,ob:=.ptr (some (bid,0)),ou:=ou,fi:=fi } (v+2)))[cid]? = some (cliO { c with nn:=c.nn+1,on:=c.nn+1,ob:=.ptr (some (bid,0)),ou:=ou,fi:=fi } (v+2)):=gS ho2
 obtain ⟨hC4,E4⟩:=hC3.put (c.out (.ptr (some (bid,0))) ou fi) rfl (v+3)
 have hg4:(((X1.set H.length (outO (c.nn+1) (.ptr (some (bid,0))) ou fi 1)).set cid (cliO { c with nn:=c.nn+1,on:=c.nn+1,ob:=.ptr (some (bid,0)),ou:=ou,fi:=fi } (v+2))).set cid (cliO (c.out (.ptr (some (bid,0))) ou fi) (v+3)))[H.length]? = some (outO (c.nn+1) (.ptr (some (bid,0))) ou fi 1):=by rw [zqj hne];exact hg3
 have hXw:(((X1.set H.length (outO (c.nn+1) (.ptr (some (bid,0))) ou fi 1)).set cid (cliO { c with nn:=c.nn+1,on:=c.nn+1,ob:=.ptr (some (bid,0)),ou:=ou,fi:=fi } (v+2))).set cid (cliO { c.out (.ptr (some (bid,0))) ou fi with se:=IntKind.i64.wrap (c.se+1) } (v+3)))=(((X1.set H.length (outO (c.nn+1) (.ptr (some (bid,0))) ou fi 1)).set cid (cliO { c with nn:=c.nn+1,on:=c.nn+1,ob:=.ptr (some (bid,0)),ou:=ou,fi:=fi } (v+2))).set cid (cliO (c.out (.ptr (some (bid,0))) ou fi) (v+3))):=by rw [hws];rfl
 have hg4w:(((X1.set H.length (outO (c.nn+1) (.ptr (some (bid,0))) ou fi 1)).set cid (cliO { c with nn:=c.nn+1,on:=c.nn+1,ob:=.ptr (some (bid,0)),ou:=ou,fi:=fi } (v+2))).set cid (cliO { c.out (.ptr (some (bid,0))) ou fi with se:=IntKind.i64.wrap (c.se+1) } (v+3)))[H.length]? = some (outO (c.nn+1) (.ptr (some (bid,0))) ou fi 1):=by rw [hXw];exact hg4
 have E14:=(E2.trans E3).trans E4
 have kr:=hreq (((X1.set H.length (outO (c.nn+1) (.ptr (some (bid,0))) ou fi 1)).set cid (cliO { c with nn:=c.nn+1,on:=c.nn+1,ob:=.ptr (some (bid,0)),ou:=ou,fi:=fi } (v+2))).set cid (cliO (c.out (.ptr (some (bid,0))) ou fi) (v+3))) hC4.o E14
 have k72:=c72 m hm.2.2
 rw [encV_yes ⟨hm.1,hm.2.1⟩] at k72
 refine ⟨(((X1.set H.length (outO (c.nn+1) (.ptr (some (bid,0))) ou fi 1)).set cid (cliO { c with nn:=c.nn+1,on:=c.nn+1,ob:=.ptr (some (bid,0)),ou:=ou,fi:=fi } (v+2))).set cid (cliO (c.out (.ptr (some (bid,0))) ou fi) (v+3))),hC4,E14,?_⟩
 clear hC0 hC1 hC2 hC3 E2 E3 E4 E1 E0 hreq hC4 E14 hC
 (refine fnS (imm:=imm82) ttK_ok func82 ?_;(conv=>whnf))
 refine callK_at hX0 ?_
 refine cE k71' ?_
 conv=>whnf
 ((conv in (_[_]?)=>tactic=>exact hg1);(conv=>whnf))
 ((conv in (_[_]?)=>tactic=>exact hg2);(conv=>whnf))
 ((conv in (_[_]?)=>tactic=>exact ho2);(conv=>whnf))
 repeat ((conv in (_[_]?)=>tactic=>exact ho3);(conv=>whnf))
 ((conv in (_[_]?)=>tactic=>exact hg4w);(conv=>whnf))
 refine callK_at hXw ?_
 refine cE kr ?_
 conv=>whnf
 refine cP k72 ?_
 conv=>whnf
 exact ⟨rfl,rfl⟩
def asM (r n:List UInt8) (till nonce:Int):Msg:={ mZ with kind:=1,a1:=r,a2:=n,a3:=r,a4:=krb r,aTill:=till,aNonce:=nonce }
def z63o:PObj:=⟨63,mZ.cells,0⟩
def D85:Draw:={ imp:=[11] }
theorem c85 {H:PH} {cid:Nat} {c:Cs} {v:Nat} (ho:H[cid]? = some (cliO c v)) (hr:c.r.length≤1000000) (now nonce:Int) (h0:0≤now) (h1:now≤1073741824) :
  CK prog 85 [.int .i64 nonce,.elem [.ptr (some (cid,0))],.elem [.int .i64 now]] H fun x H'=>x=.agg (asM c.r c.n (tillI now) nonce).d.cells∧H'=H:=by
 refine (CK.gc (Q:=fun x H'=>x=.agg (asM c.r c.n (tillI now) nonce).d.cells∧Xt H H') ?_ (fun r H' h=>⟨by rw [h.1];exact old_cells (asM c.r c.n (tillI now) nonce),h.2⟩)).mono (fun x H' h=>⟨h.2.choose_spec.1,h.1⟩)
 have e1:=(Xt.refl H).app [z63o]
 have ho1:=e1.get ho
 have hg:=gL H z63o
 have k84:=c84 now h0 h1
 have k41:=c41 ho1 hr
 have e2:=e1.set (zqn _) (⟨63,(asM c.r c.n (tillI now) nonce).cells,1⟩:PObj)
 (refine fnS (imm:=imm85) ttK_ok func85 ?_;(conv=>whnf))
 refine drawK_of3 D85 [H++[z63o],(H++[z63o]).set H.length ⟨63,(asM c.r c.n (tillI now) nonce).cells,1⟩] _ (by kernel_rfl) rfl trivial rfl ?_
 conv=>whnf
 (repeat (first | ((first | (apply exA;(focus exact oN)) | refine bT ?_ | refine bF ?_ | refine bW (bT ?_) | refine bW (bF ?_) | (apply cP;(focus assumption)) | (apply cE;(focus assumption)) | refine ⟨by first | decide | omega,?_⟩);((conv=>whnf))) | ((conv in (_[_]?)=>tactic=>first | exact oL | exact gS (by assumption));(conv=>whnf))))
 exact ⟨rfl,e2⟩
theorem o3 {A:Prop} (h:A:=by
 (conv=>whnf);apply And.intro
 ·exact oN
 ·(conv=>whnf);apply And.intro
  ·exact oN
  ·exact oN):A:=h
theorem o2x {A:Prop} (h:A:=by
 (conv=>whnf);apply And.intro
 ·exact oN
 ·exact oN):A:=h
theorem dX {O R:PV→Prop} {v:PV} (k:R v) (h:O v:=by first | exact oR | exact o2x | exact o3):∃v,O v∧R v:=⟨v,h,k⟩
theorem wX {A:Prop} (h:A:=by
 repeat (first | (first | ((first | (apply exA;(focus exact oN)) | refine bT ?_ | refine bF ?_ | refine bW (bT ?_) | refine bW (bF ?_) | (apply cP;(focus assumption)) | (apply cE;(focus assumption)) | refine ⟨by first | decide | omega,?_⟩);((conv=>whnf))) | ((conv in (_[_]?)=>tactic=>first | exact oL | exact gS (by assumption));(conv=>whnf))) | (refine dX ?_;(conv=>whnf)))
 exact ⟨rfl,rfl⟩):A:=h
theorem wR {A:Prop} (h:A:=by
 repeat (first | (first | ((first | (apply exA;(focus exact oN)) | refine bT ?_ | refine bF ?_ | refine bW (bT ?_) | refine bW (bF ?_) | (apply cP;(focus assumption)) | (apply cE;(focus assumption)) | refine ⟨by first | decide | omega,?_⟩);((conv=>whnf))) | ((conv in (_[_]?)=>tactic=>first | exact oL | exact gS (by assumption));(conv=>whnf))) | (refine dX ?_;(conv=>whnf)))
 rfl):A:=h
theorem newBox (H:PH) {k:List UInt8} (hk:k.length=32):BoxAt (H++[speckO (k.take 16),boxO k H.length]) (H.length+1) k:=by
 refine ⟨hk,H.length,0,0,0,0,speckO (k.take 16),?_,?_,speck_key _⟩
 ·rw [zqi (by omega),show H.length+1 - H.length=1 by omega];rfl
 ·rw [zqi (by omega),show H.length - H.length=0 by omega];rfl
def D43:Draw:={ imp:=[10,13],win:=[(0,0,2),(1,0,2),(2,0,2),(3,0,2),(4,0,2),(5,0,1),(11,1,1),(12,0,1),(13,1,1),(14,2,2),(15,2,2)] }
theorem c43 {H:PH} {cid mid:Nat} {c:Cs} {L:List Crd} (hC:Cl H cid mid c L) (now:Int) (hn0:0≤now) (hn1:now≤1073741824) (hr:c.r.length≤1000000) (hm:msgOk (asM c.r c.n (tillI now) (c.nn+1)).d)
  (h0:0≤c.nn) (h1:c.nn≤100000) (h2:0≤c.se) (h3:c.se≤100000) :
  ∃H1 bid,BoxAt H1 bid (keyB c.k)∧Cl H1 cid mid (c.out (.ptr (some (bid,0))) 3 true) L∧Evo (·=cid) H H1∧CK prog 43 [.ptr (some (cid,0)),.int .i64 now] H fun r H'=>r=.tup [.str c.r,sl (laidB (asM c.r c.n (tillI now) (c.nn+1)))]∧H'=H1:=by
 obtain ⟨v,ho⟩:=hC.o
 have e1:=(Xt.refl H).app [speckO ((keyB c.k).take 16),boxO (keyB c.k) H.length]
 have hb:=newBox H (keyB_len c.k)
 have k70:=c70 (keyB c.k) (keyB_len c.k) H
 have ho1:=e1.get ho
 obtain ⟨H1,g1,g2,g3⟩:=c82 (hC.xt e1) (H.length+1) 3 true 85 [.elem [.ptr (some (cid,0))],.elem [.int .i64 now]] (asM c.r c.n (tillI now) (c.nn+1)).d hm h0 h1 h2 h3 rfl
  (fun H' ⟨v,ho⟩ _=>c85 (c:=c.out (.ptr (some (H.length+1,0))) 3 true) ho hr now (c.nn+1) hn0 hn1)
 refine ⟨H1,H.length+1,g2.box _ _ hb,g1,(Evo.xt e1).trans g2,?_⟩
 obtain ⟨v2,ho2⟩:=g1.o
 clear g1 g2 hm hC e1 hb
 generalize hX:H++[speckO ((keyB c.k).take 16),boxO (keyB c.k) H.length]=X at *
 (refine fnS (imm:=imm43) ttK_ok func43 ?_;(conv=>whnf))
 refine drawK_of3 D43 [H,X,H1] _ (by kernel_rfl) rfl trivial rfl ?_
 conv=>whnf
 exact wX
def visP:List (List UInt8)→PV
 | []=>.nilS
 | x::l=>.slice (l.length+1) (.str x::l.map .str) (some 9)
theorem c45 {H:PH} {cid mid:Nat} {c:Cs} {L:List Crd} (hC:Cl H cid mid c L) (e:Int) :
  ∃H1,Cl H1 cid mid { c with st:=3,er:=e } L∧Evo (·=cid) H H1∧CK prog 45 [.ptr (some (cid,0)),.int .i64 e] H fun r H'=>r=.tup [.str [],.slice 0 [] (some 5)]∧H'=H1:=by
 obtain ⟨v,ho⟩:=hC.o
 obtain ⟨hC1,e1⟩:=hC.put { c with st:=3 } rfl (v+1)
 have ho1:(H.set cid (cliO { c with st:=3 } (v+1)))[cid]? = some (cliO { c with st:=3 } (v+1)):=gS ho
 obtain ⟨hC2,e2⟩:=hC1.put { c with st:=3,er:=e } rfl (v+2)
 refine ⟨_,hC2,e1.trans e2,?_⟩
 clear hC1 e1 hC2 e2 hC
 (refine fnS (imm:=imm45) ttK_ok func45 ?_;(conv=>whnf))
 exact wX
def noAns (m:Msg) (e:Int) (c:Cs):Prop:=e≠0∨(m.kind≠5∧m.kind≠3)∨(m.kind=5∧m.fNonce≠c.on)
theorem c17n {H:PH} {cid mid:Nat} {c:Cs} {L:List Crd} (hC:Cl H cid mid c L) (hst:c.st=1) (b:List UInt8) (m:Msg) (e:Int) (hd:Pure prog 44 [sl b] (.tup [.agg m.d.cells,.int .i64 e])) (now:Int) (h0:0≤now) (h1:now≤1073741824) (hno:noAns m e c) :
  CK prog 17 [.ptr (some (cid,0)),sl b,.int .i64 now] H fun r H'=>r=.tup [.str [],.slice 0 [] (some 5)]∧Evo (fun _=>False) H H':=by
 obtain ⟨v,ho⟩:=hC.o
 have hss:¬c.st≠1:=fun h=>h hst
 have k39:Pure prog 39 [.int .i64 now] (.bool true):=(c39 now).of_eq (by rw [inZ_of h0 h1])
 have e1:=((Xt.refl H).app [z63o]).set (zqn _) (⟨63,m.d.cells,1⟩:PObj)
 have g0:=gL H z63o
 have g1:((H++[z63o]).set H.length (⟨63,m.d.cells,1⟩:PObj))[H.length]? = some ⟨63,m.d.cells,1⟩:=gS g0
 have ho1:=e1.get ho
 rcases hno with he | ⟨hk5,hk3⟩ | ⟨hk,hn⟩
 ·(refine fnS (imm:=imm17) ttK_ok func17 ?_;(conv=>whnf))
  repeat (first | (first | ((first | (apply exA;(focus exact oN)) | refine bT ?_ | refine bF ?_ | refine bW (bT ?_) | refine bW (bF ?_) | (apply cP;(focus assumption)) | (apply cE;(focus assumption)) | refine ⟨by first | decide | omega,?_⟩);((conv=>whnf))) | ((conv in (_[_]?)=>tactic=>first | exact oL | exact gS (by assumption));(conv=>whnf))) | (refine dX ?_;(conv=>whnf)))
  exact ⟨rfl,Evo.xt e1⟩
 ·by_cases he:e=0
  ·(refine fnS (imm:=imm17) ttK_ok func17 ?_;(conv=>whnf))
   repeat (first | (first | ((first | (apply exA;(focus exact oN)) | refine bT ?_ | refine bF ?_ | refine bW (bT ?_) | refine bW (bF ?_) | (apply cP;(focus assumption)) | (apply cE;(focus assumption)) | refine ⟨by first | decide | omega,?_⟩);((conv=>whnf))) | ((conv in (_[_]?)=>tactic=>first | exact oL | exact gS (by assumption));(conv=>whnf))) | (refine dX ?_;(conv=>whnf)))
   exact ⟨rfl,Evo.xt e1⟩
  ·(refine fnS (imm:=imm17) ttK_ok func17 ?_;(conv=>whnf))
   repeat (first | (first | ((first | (apply exA;(focus exact oN)) | refine bT ?_ | refine bF ?_ | refine bW (bT ?_) | refine bW (bF ?_) | (apply cP;(focus assumption)) | (apply cE;(focus assumption)) | refine ⟨by first | decide | omega,?_⟩);((conv=>whnf))) | ((conv in (_[_]?)=>tactic=>first | exact oL | exact gS (by assumption));(conv=>whnf))) | (refine dX ?_;(conv=>whnf)))
   exact ⟨rfl,Evo.xt e1⟩
 ·by_cases he:e=0
  ·(refine fnS (imm:=imm17) ttK_ok func17 ?_;(conv=>whnf))
   repeat (first | (first | ((first | (apply exA;(focus exact oN)) | refine bT ?_ | refine bF ?_ | refine bW (bT ?_) | refine bW (bF ?_) | (apply cP;(focus assumption)) | (apply cE;(focus assumption)) | refine ⟨by first | decide | omega,?_⟩);((conv=>whnf))) | ((conv in (_[_]?)=>tactic=>first | exact oL | exact gS (by assumption));(conv=>whnf))) | (refine dX ?_;(conv=>whnf)) | (refine dP2 (by kernel_rfl) ?_;(conv=>whnf)))
   exact ⟨rfl,Evo.xt e1⟩
  ·(refine fnS (imm:=imm17) ttK_ok func17 ?_;(conv=>whnf))
   repeat (first | (first | ((first | (apply exA;(focus exact oN)) | refine bT ?_ | refine bF ?_ | refine bW (bT ?_) | refine bW (bF ?_) | (apply cP;(focus assumption)) | (apply cE;(focus assumption)) | refine ⟨by first | decide | omega,?_⟩);((conv=>whnf))) | ((conv in (_[_]?)=>tactic=>first | exact oL | exact gS (by assumption));(conv=>whnf))) | (refine dX ?_;(conv=>whnf)))
   exact ⟨rfl,Evo.xt e1⟩
theorem c17f {H:PH} {cid mid:Nat} {c:Cs} {L:List Crd} (hC:Cl H cid mid c L) (hst:c.st=1) (b:List UInt8) (m:Msg) (hd:Pure prog 44 [sl b] (.tup [.agg m.d.cells,.int .i64 0])) (now:Int) (h0:0≤now) (h1:now≤1073741824) (hk:m.kind=5) (hn:m.fNonce=c.on) :
  CK prog 17 [.ptr (some (cid,0)),sl b,.int .i64 now] H fun r H'=>r=.tup [.str [],.slice 0 [] (some 5)]∧Cl H' cid mid { c with st:=3,er:=m.fErr } L∧Evo (Wc cid mid) H H':=by
 obtain ⟨v,ho⟩:=hC.o
 have k39:Pure prog 39 [.int .i64 now] (.bool true):=(c39 now).of_eq (by rw [inZ_of h0 h1])
 have e1:=((Xt.refl H).app [z63o]).set (zqn _) (⟨63,m.d.cells,1⟩:PObj)
 have g0:=gL H z63o
 have g1:((H++[z63o]).set H.length (⟨63,m.d.cells,1⟩:PObj))[H.length]? = some ⟨63,m.d.cells,1⟩:=gS g0
 have ho1:=e1.get ho
 obtain ⟨H1,hC1,e2,k45⟩:=c45 (hC.xt e1) m.fErr
 have fin:Cl H1 cid mid { c with st:=3,er:=m.fErr } L∧Evo (Wc cid mid) H H1:=⟨hC1,(Evo.xt e1).trans e2.c⟩
 clear hC1 e2
 (refine fnS (imm:=imm17) ttK_ok func17 ?_;(conv=>whnf))
 repeat (first | (first | ((first | (apply exA;(focus exact oN)) | refine bT ?_ | refine bF ?_ | refine bW (bT ?_) | refine bW (bF ?_) | (apply cP;(focus assumption)) | (apply cE;(focus assumption)) | refine ⟨by first | decide | omega,?_⟩);((conv=>whnf))) | ((conv in (_[_]?)=>tactic=>first | exact oL | exact gS (by assumption));(conv=>whnf))) | (refine dX ?_;(conv=>whnf)) | (refine dP2 (by kernel_rfl) ?_;(conv=>whnf)))
 exact ⟨rfl,fin⟩
theorem o4 {A:Prop} (h:A:=by
 (conv=>whnf);apply And.intro
 ·exact oN
 ·exact o3):A:=h
theorem o5 {A:Prop} (h:A:=by
 (conv=>whnf);apply And.intro
 ·exact oN
 ·exact o4):A:=h
theorem dY {O R:PV→Prop} {v:PV} (k:R v) (h:O v:=by first | exact o4 | exact o5):∃v,O v∧R v:=⟨v,h,k⟩
def D14a:Draw:={ imp:=[8,11,14,17,20],win:=[(1,0,1),(2,0,2),(3,0,3),(4,0,4),(5,0,3),(9,1,1),(10,1,1),(11,1,1),(12,2,2),(13,2,2),(14,2,2),(15,3,3),(16,3,3),(17,3,3),(18,4,4),(19,4,4),(20,4,4)] }
def D14b (b:Nat):Draw:={ imp:=[12],win:=[(10,0,1),(13,1,1)],robs:=[z83c],res:=[(11,0)],base:=b }
def Cs.beg (c:Cs) (tr tn:List UInt8):Cs:={ c with st:=1,er:=0,se:=0,tr:=tr,tn:=tn,vis:=.nilS }
theorem c14f {H:PH} {cid mid:Nat} {c:Cs} {L:List Crd} (hC:Cl H cid mid c L) (hst:c.st≠1) (hr:c.r.length≤1000000) (tr tn:List UInt8) (h1:tr.length≤1000000) (h2:tn.length≤1000000) (hu:isUserB tr tn=true) (now:Int) (hn0:0≤now) (hn1:now≤1073741824)
  (hf:findL c.r (krb c.r) L=none∨∃y,findL c.r (krb c.r) L=some y∧y.en<now)
  (hm:msgOk (asM c.r c.n (tillI now) (c.nn+1)).d) (h0:0≤c.nn) (h3:c.nn≤100000) :
  ∃H1 bid,BoxAt H1 bid (keyB c.k)∧Cl H1 cid mid ((c.beg tr tn).out (.ptr (some (bid,0))) 3 true) L∧Evo (Wc cid mid) H H1∧CK prog 14 [.ptr (some (cid,0)),.agg [.str tr,.str tn],.int .i64 now] H fun r H'=>r=.tup [.str c.r,sl (laidB (asM c.r c.n (tillI now) (c.nn+1))),.int .i64 0]∧H'=H1:=by
 obtain ⟨v,ho⟩:=hC.o
 have k38:Pure prog 38 [.agg [.str tr,.str tn]] (.bool true):=(c38 tr tn (by omega) (by omega)).of_eq (by rw [hu])
 have k39:Pure prog 39 [.int .i64 now] (.bool true):=(c39 now).of_eq (by rw [inZ_of hn0 hn1])
 obtain ⟨hC1,e1⟩:=hC.put { c with st:=1 } rfl (v+1)
 have ho1:=gS (o':=cliO { c with st:=1 } (v+1)) ho
 obtain ⟨hC2,e2⟩:=hC1.put { c with st:=1,er:=0 } rfl (v+2)
 have ho2:=gS (o':=cliO { c with st:=1,er:=0 } (v+2)) ho1
 obtain ⟨hC3,e3⟩:=hC2.put { c with st:=1,er:=0,se:=0 } rfl (v+3)
 have ho3:=gS (o':=cliO { c with st:=1,er:=0,se:=0 } (v+3)) ho2
 obtain ⟨hC4,e4⟩:=hC3.put { c with st:=1,er:=0,se:=0,tr:=tr,tn:=tn } rfl (v+4)
 have ho4:=gS (o':=cliO { c with st:=1,er:=0,se:=0,tr:=tr,tn:=tn } (v+4)) ho3
 obtain ⟨hC5,e5⟩:=hC4.put (c.beg tr tn) rfl (v+5)
 have ho5:=gS (o':=cliO (c.beg tr tn) (v+5)) ho4
 have E5:=(((e1.trans e2).trans e3).trans e4).trans e5
 generalize hY5:(((((H.set cid (cliO { c with st:=1 } (v+1))).set cid (cliO { c with st:=1,er:=0 } (v+2))).set cid (cliO { c with st:=1,er:=0,se:=0 } (v+3))).set cid (cliO { c with st:=1,er:=0,se:=0,tr:=tr,tn:=tn } (v+4))).set cid (cliO (c.beg tr tn) (v+5)))=Y5 at hC5 E5 ho5
 clear hC1 hC2 hC3 hC4 e1 e2 e3 e4 e5
 have x6:=(Xt.refl Y5).app [z83c]
 have hC6:=hC5.xt x6
 have g6:=gL Y5 z83c
 obtain ⟨v6,ho6⟩:=hC6.o
 obtain ⟨w6,ha6⟩:=hC6.a
 obtain ⟨u6,hm6⟩:=hC6.m.ex
 have k41:=c41 ho6 hr
 have k40:CK prog 40 [.ptr (some (c.ca,0)),.agg [.str c.r,.str (krb c.r)],.int .i64 now] (Y5++[z83c]) fun x H'=>x=.tup [.agg zCrd.cells,.bool false]∧H'=Y5++[z83c]:=by
  rcases hf with hf | ⟨y,hf,hy⟩
  ·exact c40n now ha6 hm6 hf
  ·exact c40o now ha6 hm6 hf hy
 have x7:=x6.set (zqn _) (⟨83,zCrd.cells,1⟩:PObj)
 generalize hY7:(Y5++[z83c]).set Y5.length (⟨83,zCrd.cells,1⟩:PObj)=Y7 at *
 have hC7:=hC5.xt x7
 obtain ⟨H1,bid,hb,hC8,e8,k43⟩:=c43 hC7 now hn0 hn1 hr hm h0 h3 (Int.le_refl _) (by show (0:Int)≤100000;omega)
 refine ⟨H1,bid,hb,hC8,(E5.trans ((Evo.xt x7).trans e8)).c,?_⟩
 clear hb hC8 e8 hC7 x7 hm6 ha6 hC6 x6 E5 hC5 hf hm hC
 (refine fnS (imm:=imm14) ttK_ok func14 ?_;(conv=>whnf))
 repeat (first | (first | ((first | (apply exA;(focus exact oN)) | refine bT ?_ | refine bF ?_ | refine bW (bT ?_) | refine bW (bF ?_) | (apply cP;(focus assumption)) | (apply cE;(focus assumption)) | refine ⟨by first | decide | omega,?_⟩);((conv=>whnf))) | ((conv in (_[_]?)=>tactic=>first | exact oL | exact gS (by assumption));(conv=>whnf))) | (refine dX ?_;(conv=>whnf)))
 refine drawK_of3 D14a [H,(H.set cid (cliO { c with st:=1 } (v+1))),((H.set cid (cliO { c with st:=1 } (v+1))).set cid (cliO { c with st:=1,er:=0 } (v+2))),(((H.set cid (cliO { c with st:=1 } (v+1))).set cid (cliO { c with st:=1,er:=0 } (v+2))).set cid (cliO { c with st:=1,er:=0,se:=0 } (v+3))),((((H.set cid (cliO { c with st:=1 } (v+1))).set cid (cliO { c with st:=1,er:=0 } (v+2))).set cid (cliO { c with st:=1,er:=0,se:=0 } (v+3))).set cid (cliO { c with st:=1,er:=0,se:=0,tr:=tr,tn:=tn } (v+4))),(((((H.set cid (cliO { c with st:=1 } (v+1))).set cid (cliO { c with st:=1,er:=0 } (v+2))).set cid (cliO { c with st:=1,er:=0,se:=0 } (v+3))).set cid (cliO { c with st:=1,er:=0,se:=0,tr:=tr,tn:=tn } (v+4))).set cid (cliO (c.beg tr tn) (v+5)))] _ (by kernel_rfl) rfl trivial hY5 ?_
 conv=>whnf
 repeat (first | (first | ((first | (apply exA;(focus exact oN)) | refine bT ?_ | refine bF ?_ | refine bW (bT ?_) | refine bW (bF ?_) | (apply cP;(focus assumption)) | (apply cE;(focus assumption)) | refine ⟨by first | decide | omega,?_⟩);((conv=>whnf))) | ((conv in (_[_]?)=>tactic=>first | exact oL | exact gS (by assumption));(conv=>whnf))) | (refine dX ?_;(conv=>whnf)) | (refine dY ?_;(conv=>whnf)))
 refine drawK_of3 (D14b Y5.length) [Y5++[z83c],(Y5++[z83c]).set Y5.length (⟨83,zCrd.cells,1⟩:PObj)] _ (by kernel_rfl) ⟨rfl,rfl⟩ trivial hY7 ?_
 conv=>whnf
 exact wX
theorem c14s {H:PH} {cid:Nat} {c:Cs} {v:Nat} (ho:H[cid]? = some (cliO c v)) (hst:c.st=1) (tr tn:List UInt8) (now:Int) :
  CK prog 14 [.ptr (some (cid,0)),.agg [.str tr,.str tn],.int .i64 now] H fun r H'=>r=.tup [.str [],.slice 0 [] (some 5),.int .i64 16]∧H'=H:=by
 (refine fnS (imm:=imm14) ttK_ok func14 ?_;(conv=>whnf))
 exact wX
theorem c20 {H:PH} {cid:Nat} {c:Cs} {v:Nat} (ho:H[cid]? = some (cliO c v)) :
  CK prog 20 [.ptr (some (cid,0))] H fun r H'=>r=.tup [.int .i64 c.st,.int .i64 c.er,.int .i64 c.se]∧H'=H:=by
 (refine fnS (imm:=imm20) ttK_ok func20 ?_;(conv=>whnf))
 repeat (first | (first | ((first | (apply exA;(focus exact oN)) | refine bT ?_ | refine bF ?_ | refine bW (bT ?_) | refine bW (bF ?_) | (apply cP;(focus assumption)) | (apply cE;(focus assumption)) | refine ⟨by first | decide | omega,?_⟩);((conv=>whnf))) | ((conv in (_[_]?)=>tactic=>first | exact oL | exact gS (by assumption));(conv=>whnf))) | (refine dX ?_;(conv=>whnf)) | (refine dP2 (by kernel_rfl) ?_;(conv=>whnf)))
 exact ⟨rfl,rfl⟩
theorem c77 (H:PH):CK prog 77 [] H fun r H'=>r=.ptr (some (H.length+1,0))∧H'=H++[mapO [] 0]++[cacheO H.length 0]:=by
 have hl:(H++[mapO [] 0]).length=H.length+1:=by simp
 (refine fnS (imm:=imm77) ttK_ok func77 ?_;(conv=>whnf))
 exact ⟨zqm (fun i=>PV.ptr (some (i,0))) hl,rfl⟩
def cli0 (r n:List UInt8) (k:Nat→UInt8) (ca:Nat):Cs:=⟨r,n,k,ca,0,0,0,0,0,0,[],[],.slice 0 [] (some 9),0,.ptr none,0,false⟩
def D34:Draw:={ imp:=[2,4],win:=[(0,0,1),(1,0,1),(3,1,1),(4,1,1),(5,2,2),(6,2,2)] }
theorem c34 (H:PH) (r n:List UInt8) (k:Nat→UInt8) (h1:r.length≤1000000) (h2:n.length≤1000000) (hu:isUserB r n=true) :
  ∃H1 cid mid,Cl H1 cid mid (cli0 r n k (mid+1)) []∧Evo (fun _=>False) H H1∧H.length≤mid∧H.length≤cid∧CK prog 34 [.agg [.str r,.str n],.agg (keyC k)] H fun x H'=>x=.tup [.ptr (some (cid,0)),.int .i64 0]∧H'=H1:=by
 have k38:Pure prog 38 [.agg [.str r,.str n]] (.bool true):=(c38 r n (by omega) (by omega)).of_eq (by rw [hu])
 have k77:=c77 H
 have e1:=((Xt.refl H).app [mapO [] 0]).app [cacheO H.length 0]
 have ga:=gA2 H (mapO [] 0) (cacheO H.length 0)
 have gb:=gL (H++[mapO [] 0]) (cacheO H.length 0)
 have hl:(H++[mapO [] 0]).length=H.length+1:=by simp
 rw [hl] at gb
 have hl2:(H++[mapO [] 0]++[cacheO H.length 0]).length=H.length+2:=by simp
 generalize hX:H++[mapO [] 0]++[cacheO H.length 0]=X at *
 have e2:=(Xt.refl X).app [cliO (cli0 r n k (H.length+1)) 0]
 refine ⟨X++[cliO (cli0 r n k (H.length+1)) 0],X.length,H.length,⟨⟨0,gL _ _⟩,⟨0,e2.get gb⟩,⟨0,e2.get ga⟩⟩,(Evo.xt e1).trans (Evo.xt e2),zqn _,by omega,?_⟩
 (refine fnS (imm:=imm34) ttK_ok func34 ?_;(conv=>whnf))
 repeat (first | (first | ((first | (apply exA;(focus exact oN)) | refine bT ?_ | refine bF ?_ | refine bW (bT ?_) | refine bW (bF ?_) | (apply cP;(focus assumption)) | (apply cE;(focus assumption)) | refine ⟨by first | decide | omega,?_⟩);((conv=>whnf))) | ((conv in (_[_]?)=>tactic=>first | exact oL | exact gS (by assumption));(conv=>whnf))) | (refine dX ?_;(conv=>whnf)))
 refine drawK_of3 D34 [H,X,X++[cliO (cli0 r n k (H.length+1)) 0]] _ (by kernel_rfl) rfl trivial rfl ?_
 conv=>whnf
 exact wX
/-! The laws' own: ann, mail, what is out. -/
def aR:List UInt8:=[65]
def aN:List UInt8:=[97,110,110]
def sR:List UInt8:=[83]
def mN:List UInt8:=[109,97,105,108]
def k9:Nat→UInt8:=fun i=>if i=0 then 9 else 0
theorem c25:Pure prog 25 [] (.agg [.str aR,.str aN]):=by
 refine Pure.of_gc rfl fun H=>?_
 have e1:=((Xt.refl H).app [z36o]).set (zqn _) (⟨36,[.str aR,.str aN],1⟩:PObj)
 have g1:=gL H z36o
 (refine fnS (imm:=imm25) ttK_ok func25 ?_;(conv=>whnf))
 repeat (first | (first | ((first | (apply exA;(focus exact oN)) | refine bT ?_ | refine bF ?_ | refine bW (bT ?_) | refine bW (bF ?_) | (apply cP;(focus assumption)) | (apply cE;(focus assumption)) | refine ⟨by first | decide | omega,?_⟩);((conv=>whnf))) | ((conv in (_[_]?)=>tactic=>first | exact oL | exact gS (by assumption));(conv=>whnf))) | (refine dX ?_;(conv=>whnf)))
 exact ⟨rfl,e1⟩
theorem c15:Pure prog 15 [] (.agg [.str sR,.str mN]):=by
 refine Pure.of_gc rfl fun H=>?_
 have e1:=((Xt.refl H).app [z36o]).set (zqn _) (⟨36,[.str sR,.str mN],1⟩:PObj)
 have g1:=gL H z36o
 (refine fnS (imm:=imm15) ttK_ok func15 ?_;(conv=>whnf))
 repeat (first | (first | ((first | (apply exA;(focus exact oN)) | refine bT ?_ | refine bF ?_ | refine bW (bT ?_) | refine bW (bF ?_) | (apply cP;(focus assumption)) | (apply cE;(focus assumption)) | refine ⟨by first | decide | omega,?_⟩);((conv=>whnf))) | ((conv in (_[_]?)=>tactic=>first | exact oL | exact gS (by assumption));(conv=>whnf))) | (refine dX ?_;(conv=>whnf)))
 exact ⟨rfl,e1⟩
theorem c37 (H:PH) (r n:List UInt8) (k:Nat→UInt8) (h1:r.length≤1000000) (h2:n.length≤1000000) (hu:isUserB r n=true) :
  ∃o:PObj,o.T=90∧CK prog 37 [.agg [.str r,.str n],.agg (keyC k)] H fun x H'=>x=.tup [.ptr (some (H.length,0)),.int .i64 0]∧H'=H++[o]:=by
 have k35:=c35 n (by omega)
 have k36:=c36 r n (by omega) (by omega)
 unfold isUserB at hu
 rw [zqb,Bool.not_eq_true'] at hu
 rw [hu.1] at k36
 rw [hu.2] at k35
 refine ⟨⟨90,[.str r,.str n]++keyC k++([.slice 0 [] (some 156)]++List.replicate 6 (.int .i64 0)++[.str [],.str [],.slice 0 [] (some 9)]++List.replicate 32 (.int .u8 0)++[.int .i64 0,.bool false]),0⟩,rfl,?_⟩
 (refine fnS (imm:=imm37) ttK_ok func37 ?_;(conv=>whnf))
 exact wX
def pairO (cid xid:Nat) (n:Int) (k:Nat→UInt8) (u:Int) (v:Nat):PObj:=⟨33,[.ptr (some (cid,0)),.ptr (some (xid,0)),.int .i64 n]++keyC k++[.int .i64 u],v⟩
theorem pairT (cid xid:Nat) (n:Int) (k:Nat→UInt8) (u:Int) (v:Nat):(pairO cid xid n k u v).T≠keyT∧(pairO cid xid n k u v).T≠boxT:=⟨fun h=>absurd (show 33=keyT from h) (by decide),fun h=>absurd (show 33=boxT from h) (by decide)⟩
structure Pr (H:PH) (pid xid cid mid:Nat) (n:Int) (k:Nat→UInt8) (u:Int) (c:Cs) (L:List Crd):Prop where
 p:∃v,H[pid]? = some (pairO cid xid n k u v)
 cl:Cl H cid mid c L
theorem Pr.ne {H:PH} {pid xid cid mid:Nat} {n:Int} {k:Nat→UInt8} {u:Int} {c:Cs} {L:List Crd} (h:Pr H pid xid cid mid n k u c L):pid≠cid∧pid≠c.ca∧pid≠mid:=by
 obtain ⟨⟨v,h0⟩,⟨⟨w,h1⟩,⟨x,h2⟩,⟨y,h3⟩⟩⟩:=h
 exact ⟨ne_of_T h0 h1 (show 33≠110 by decide),ne_of_T h0 h2 (show 33≠160 by decide),ne_of_T h0 h3 (show 33≠158 by decide)⟩
theorem Pr.go {H H':PH} {pid xid cid mid:Nat} {n:Int} {k:Nat→UInt8} {u:Int} {c c':Cs} {L L':List Crd} (h:Pr H pid xid cid mid n k u c L) (e:Evo (Wc cid mid) H H') (hc:Cl H' cid mid c' L'):Pr H' pid xid cid mid n k u c' L':=by
 obtain ⟨h1,h2,h3⟩:=h.ne
 obtain ⟨v,h0⟩:=h.p
 exact ⟨⟨v,e.same _ _ h0 (fun h=>h.elim h1 h3) (pairT ..).1 (pairT ..).2⟩,hc⟩
theorem Pr.stay {H H':PH} {pid xid cid mid:Nat} {n:Int} {k:Nat→UInt8} {u:Int} {c:Cs} {L:List Crd} (h:Pr H pid xid cid mid n k u c L) (e:Evo (fun _=>False) H H'):Pr H' pid xid cid mid n k u c L :=
 h.go e.no (h.cl.evo e id id id)
theorem Pr.put {H:PH} {pid xid cid mid:Nat} {n:Int} {k:Nat→UInt8} {u:Int} {c:Cs} {L:List Crd} (h:Pr H pid xid cid mid n k u c L) (n':Int) (k':Nat→UInt8) (u':Int) (v:Nat) :
  Pr (H.set pid (pairO cid xid n' k' u' v)) pid xid cid mid n' k' u' c L∧Evo (·=pid) H (H.set pid (pairO cid xid n' k' u' v)):=by
 obtain ⟨h1,h2,h3⟩:=h.ne
 obtain ⟨w,h0⟩:=h.p
 have e:Evo (·=pid) H (H.set pid (pairO cid xid n' k' u' v)):=Evo.setOther h0 rfl (pairT ..).1 (pairT ..).2
 exact ⟨⟨⟨v,gS h0⟩,h.cl.evo e (Ne.symm h1) (Ne.symm h2) (Ne.symm h3)⟩,e⟩
theorem uAnn:isUserB aR aN=true:=by kernel_rfl
theorem uMail:isUserB sR mN=true:=by kernel_rfl
theorem c13 (H:PH):∃H1 pid xid cid mid,Pr H1 pid xid cid mid 0 k9 3 (cli0 aR aN k9 (mid+1)) []∧H.length≤H1.length∧CK prog 13 [] H fun r H'=>r=.ptr (some (pid,0))∧H'=H1:=by
 have k25:=c25
 obtain ⟨H1,cid,mid,hC,e1,_,_,k34⟩:=c34 H aR aN k9 (by decide) (by decide) uAnn
 obtain ⟨o,ho,k37⟩:=c37 H1 aR aN k9 (by decide) (by decide) uAnn
 have e2:=((Xt.refl H1).app [o]).app [pairO cid H1.length 0 k9 3 0]
 refine ⟨H1++[o]++[pairO cid H1.length 0 k9 3 0],(H1++[o]).length,H1.length,cid,mid,⟨⟨0,gL _ _⟩,hC.xt e2⟩,Nat.le_trans e1.len e2.len,?_⟩
 clear hC e1 e2
 have k34':CK prog 34 [.agg [.str aR,.str aN],.agg ([.int .u8 9]++List.replicate 31 (.int .u8 0))] H fun x H'=>x=.tup [.ptr (some (cid,0)),.int .i64 0]∧H'=H1:=k34
 have k37':CK prog 37 [.agg [.str aR,.str aN],.agg ([.int .u8 9]++List.replicate 31 (.int .u8 0))] H1 fun x H'=>x=.tup [.ptr (some (H1.length,0)),.int .i64 0]∧H'=H1++[o]:=k37
 clear k34 k37
 (refine fnS (imm:=imm13) ttK_ok func13 ?_;(conv=>whnf))
 exact wX
theorem isB_d (m:Msg):isB m.d=isB m:=rfl
theorem laidB_d (m:Msg):laidB m.d=laidB m:=rfl
theorem msgOk_d {m:Msg} (h:msgOk m):msgOk m.d:=h
theorem dec_ok {m:Msg} (h:msgOk m):decV (laidB m)=.tup [.agg m.d.cells,.int .i64 0]:=by
 have hd:=taken_laid m h.1
 have hok:okM (takenB (laidB m)) (laidB m)=true:=by
  rw [okM_iff,←isB_d,←laidB_d (takenB _),hd,isB_d,laidB_d]
  exact ⟨h.1,h.2.1,rfl⟩
 unfold decV
 rw [agM_yes hok,hd]
theorem c44m {m:Msg} (h:msgOk m):Pure prog 44 [sl (laidB m)] (.tup [.agg m.d.cells,.int .i64 0]):=(c44 _ (by have:=h.2.1;omega)).of_eq (dec_ok h)
theorem c22m {m:Msg} (h:msgOk m):Pure prog 22 [sl (laidB m)] (.tup [.agg m.d.cells,.int .i64 0]):=(c22 _ (by have:=h.2.1;omega)).of_eq ((refDec_eq _).trans (dec_ok h))
theorem asOk {r n:List UInt8} {till nonce:Int} (h1:isPrincB r n=true) (h2:isPrincB r (krb r)=true) (h3:inZ till 0 1073741824=true) (h4:inZ nonce 0 1073741824=true):msgOk (asM r n till nonce):=by
 have g1:=princ_len h1
 have g2:=princ_len h2
 refine ⟨?_,?_,?_⟩
 ·show (isPrincB r n&&isPrincB r (krb r)&&inZ till 0 1073741824&&inZ nonce 0 1073741824&&othersB (asM r n till nonce))=true
  rw [h1,h2,h3,h4,show othersB (asM r n till nonce)=true from rfl];rfl
 ·have a0:=wrapB_len 106 [princE r n,princE r (krb r),intE till,intE nonce].flatten
  have a1:=princE_len r n
  have a2:=princE_len r (krb r)
  have a3:=intE_len till
  have a4:=intE_len nonce
  show (wrapB 106 [princE r n,princE r (krb r),intE till,intE nonce].flatten).length≤2000
  simp only [zqk,zql,zqf,List.length_nil] at a0 ⊢
  omega
 ·refine ⟨?_,?_,?_,?_,Nat.zero_le _,Nat.zero_le _,Nat.zero_le _,Nat.zero_le _,Nat.zero_le _,Nat.zero_le _,Nat.zero_le _,Nat.zero_le _,Nat.zero_le _,Nat.zero_le _⟩
  ·show r.length≤_;omega
  ·show n.length≤_;omega
  ·show r.length≤_;omega
  ·show (krb r).length≤_;omega
def flM (e n:Int):Msg:={ mZ with kind:=5,fErr:=e,fNonce:=n }
theorem flOk {e n:Int} (h1:inZ e 1 255=true) (h2:inZ n 0 1073741824=true):msgOk (flM e n):=by
 refine ⟨?_,?_,?_⟩
 ·show (inZ e 1 255&&inZ n 0 1073741824&&othersB (flM e n))=true
  rw [h1,h2,show othersB (flM e n)=true from rfl];rfl
 ·have a0:=wrapB_len 126 [intE e,intE n].flatten
  have a1:=intE_len e
  have a2:=intE_len n
  show (wrapB 126 [intE e,intE n].flatten).length≤2000
  simp only [zqk,zql,zqf,List.length_nil] at a0 ⊢
  omega
 ·exact ⟨Nat.zero_le _,Nat.zero_le _,Nat.zero_le _,Nat.zero_le _,Nat.zero_le _,Nat.zero_le _,Nat.zero_le _,Nat.zero_le _,Nat.zero_le _,Nat.zero_le _,Nat.zero_le _,Nat.zero_le _,Nat.zero_le _,Nat.zero_le _⟩
theorem tgt_krb {r:List UInt8} (h:isRealmB r=true):targetB (krb r)=(r,true):=by
 unfold targetB krb
 rw [show (krbB.isPrefixOf (krbB++r))=true from by simp [krbB],show (krbB++r).drop 7=r from rfl,h];rfl
theorem prKrb {r x:List UInt8} (h1:isRealmB r=true) (h2:isRealmB x=true):isPrincB r (krb x)=true:=by
 unfold isPrincB;rw [h1,tgt_krb h2];rfl
theorem user_princ {r n:List UInt8} (h:isUserB r n=true):isPrincB r n=true:=by
 unfold isUserB at h;rw [zqb] at h;exact h.1
theorem rA:isRealmB aR=true:=by kernel_rfl
theorem tillZ {now:Int} (h0:0≤now):inZ (tillI now) 0 1073741824=true:=inZ_of (by unfold tillI;omega) (by unfold tillI;omega)
theorem c16a {H:PH} {pid xid cid mid:Nat} {n:Int} {k:Nat→UInt8} {u:Int} {c:Cs} {L:List Crd} (hP:Pr H pid xid cid mid n k u c L) (m:Msg) (hm:msgOk m) (hk:m.kind=1) :
  ∃H1,Pr H1 pid xid cid mid m.aNonce k9 3 c L∧Evo (·=pid) H H1∧CK prog 16 [.ptr (some (pid,0)),sl (laidB m)] H fun r H'=>r=.tup []∧H'=H1:=by
 obtain ⟨v,hp⟩:=hP.p
 have hlt:=(zq1.1 hp).1
 have k22:=c22m hm
 have e1:=((Xt.refl H).app [z63o]).set (zqn _) (⟨63,m.d.cells,1⟩:PObj)
 have g0:=gL H z63o
 have g1:((H++[z63o]).set H.length (⟨63,m.d.cells,1⟩:PObj))[H.length]? = some ⟨63,m.d.cells,1⟩:=gS g0
 have hp1:=e1.get hp
 have hP1:=hP.stay (Evo.xt e1)
 obtain ⟨hP2,e2⟩:=hP1.put m.aNonce k u (v+1)
 have hp2:(((H++[z63o]).set H.length (⟨63,m.d.cells,1⟩:PObj)).set pid (pairO cid xid m.aNonce k u (v+1)))[pid]? = some (pairO cid xid m.aNonce k u (v+1)):=gS hp1
 have g2:(((H++[z63o]).set H.length (⟨63,m.d.cells,1⟩:PObj)).set pid (pairO cid xid m.aNonce k u (v+1)))[H.length]? = some ⟨63,m.d.cells,1⟩:=by rw [zqj (by omega)];exact g1
 obtain ⟨hP3,e3⟩:=hP2.put m.aNonce k9 u (v+2)
 have hp3:((((H++[z63o]).set H.length (⟨63,m.d.cells,1⟩:PObj)).set pid (pairO cid xid m.aNonce k u (v+1))).set pid (pairO cid xid m.aNonce k9 u (v+2)))[pid]? = some (pairO cid xid m.aNonce k9 u (v+2)):=gS hp2
 obtain ⟨hP4,e4⟩:=hP3.put m.aNonce k9 3 (v+3)
 have g4:(((((H++[z63o]).set H.length (⟨63,m.d.cells,1⟩:PObj)).set pid (pairO cid xid m.aNonce k u (v+1))).set pid (pairO cid xid m.aNonce k9 u (v+2))).set pid (pairO cid xid m.aNonce k9 3 (v+3)))[H.length]? = some ⟨63,m.d.cells,1⟩:=by rw [zqj (by omega),zqj (by omega)];exact g2
 refine ⟨_,hP4,(((Evo.xt e1).trans e2).trans e3).trans e4,?_⟩
 clear e4 e3 e2 hP4 hP3 hP2 hP1 e1 hP
 have hk2:m.kind≠2:=by omega
 generalize laidB m=b at *
 (refine fnS (imm:=imm16) ttK_ok func16 ?_;(conv=>whnf))
 exact wX
/-! What is answered. -/
def okey (u:Int):Prop:=u=3∨u=8
structure Out (H:PH) (pid xid cid mid:Nat) (n:Int) (k:Nat→UInt8) (u:Int) (c:Cs) (l:List (List UInt8)) (L:List Crd):Prop where
 pr:Pr H pid xid cid mid n k u c L
 box:∃bid,c.ob=.ptr (some (bid,0))∧BoxAt H bid (keyB k)
 st:c.st=1
 hr:c.r=aR
 hn:c.n=aN
 tr:c.tr=sR
 tn:c.tn=mN
 on:c.on=n
 nn:c.nn=n
 ou:c.ou=u
 hu:okey u
 vis:c.vis=visP l
 n0:0≤n
 n1:n≤1000
 se0:0≤c.se
 se1:c.se≤1000
 sn0:0≤c.sn
 sn1:c.sn≤1000
 L:∀y∈L,y.en=500∧y.b=[1,2]
theorem Out.stay {H H':PH} {pid xid cid mid:Nat} {n:Int} {k:Nat→UInt8} {u:Int} {c:Cs} {l:List (List UInt8)} {L:List Crd} (o:Out H pid xid cid mid n k u c l L) (e:Evo (fun _=>False) H H'):Out H' pid xid cid mid n k u c l L :=
 { o with pr:=o.pr.stay e,box:=by obtain ⟨b,h1,h2⟩:=o.box;exact ⟨b,h1,e.box _ _ h2⟩ }
def C1 (ca bid:Nat) (q:Int):Cs:=⟨aR,aN,k9,ca,q,0,0,1,0,1,sR,mN,.nilS,q,.ptr (some (bid,0)),3,true⟩
theorem prAnn:isPrincB aR aN=true:=user_princ uAnn
theorem prTgt:isPrincB aR (krb aR)=true:=prKrb rA rA
def m1 (now q:Int):Msg:=asM aR aN (tillI now) q
theorem m1Ok {now q:Int} (h0:0≤now) (h1:0≤q) (h2:q≤1000):msgOk (m1 now q):=asOk prAnn prTgt (tillZ h0) (inZ_of h1 (by omega))
theorem chase1 {H:PH} {pid xid cid mid ca:Nat} (hP:Pr H pid xid cid mid 0 k9 3 (cli0 aR aN k9 ca) []) (now:Int) (h0:0≤now) (h1:now≤1073741824) :
  ∃H1 bid,BoxAt H1 bid (keyB k9)∧Pr H1 pid xid cid mid 0 k9 3 (C1 ca bid 1) []∧CK prog 14 [.ptr (some (cid,0)),.agg [.str sR,.str mN],.int .i64 now] H fun r H'=>r=.tup [.str aR,sl (laidB (m1 now 1)),.int .i64 0]∧H'=H1:=by
 obtain ⟨H1,bid,hb,hC,e,k⟩:=c14f hP.cl (show (0:Int)≠1 by decide) (show aR.length≤1000000 by decide) sR mN (by decide) (by decide) uMail now h0 h1 (.inl rfl) (msgOk_d (m1Ok (q:=1) h0 (by decide) (by decide))) (Int.le_refl _) (show (0:Int)≤100000 by decide)
 exact ⟨H1,bid,hb,hP.go e hC,k⟩
theorem sent1 {H:PH} {pid xid cid mid ca bid:Nat} (hb:BoxAt H bid (keyB k9)) (hP:Pr H pid xid cid mid 0 k9 3 (C1 ca bid 1) []) (now:Int) (h0:0≤now) :
  ∃H1,Out H1 pid xid cid mid 1 k9 3 (C1 ca bid 1) [] []∧Evo (·=pid) H H1∧CK prog 16 [.ptr (some (pid,0)),sl (laidB (m1 now 1))] H fun r H'=>r=.tup []∧H'=H1:=by
 obtain ⟨H1,hP1,e1,k⟩:=c16a hP (m1 now 1) (m1Ok h0 (by decide) (by decide)) rfl
 exact ⟨H1,⟨hP1,⟨bid,rfl,e1.box _ _ hb⟩,rfl,rfl,rfl,rfl,rfl,rfl,rfl,rfl,(.inl rfl:okey 3),rfl,by decide,by decide,show (0:Int)≤1 by decide,show (1:Int)≤1000 by decide,show (0:Int)≤0 by decide,show (0:Int)≤1000 by decide,fun y h=>by cases h⟩,e1,k⟩
def D21:Draw:={ imp:=[5],win:=[(6,1,1),(7,1,1),(8,1,1),(9,1,1),(10,1,1),(11,1,1),(12,1,1)] }
theorem c21 (H:PH):∃H1,CK prog 21 [] H fun r H'=>r=.bool true∧H'=H1:=by
 obtain ⟨H1,pid,xid,cid,mid,hP,_,k13⟩:=c13 H
 obtain ⟨H2,bid,hb,hP2,k14⟩:=chase1 hP 1 (by decide) (by decide)
 obtain ⟨v,ho⟩:=hP2.cl.o
 obtain ⟨w,hp⟩:=hP.p
 obtain ⟨w2,hp2⟩:=hP2.p
 have k14b:=c14s ho rfl sR mN 1
 have k20:=c20 ho
 have k15:=c15
 have hl:0<(laidB (m1 1 1)).length:=by
  show 0<(wrapB 106 _).length
  simp [wrapB]
 have hl':((0:Int)<((laidB (m1 1 1)).length:Nat)):=by omega
 refine ⟨H2,?_⟩
 clear hP2 hb hP ho
 generalize laidB (m1 1 1)=b at *
 (refine fnS (imm:=imm21) ttK_ok func21 ?_;(conv=>whnf))
 repeat (first | (first | ((first | (apply exA;(focus exact oN)) | refine bT ?_ | refine bF ?_ | refine bW (bT ?_) | refine bW (bF ?_) | (apply cP;(focus assumption)) | (apply cE;(focus assumption)) | refine ⟨by first | decide | omega,?_⟩);((conv=>whnf))) | ((conv in (_[_]?)=>tactic=>first | exact oL | exact gS (by assumption));(conv=>whnf))) | (refine dX ?_;(conv=>whnf)))
 refine drawK_of3 D21 [H1,H2] _ (by kernel_rfl) rfl trivial rfl ?_
 conv=>whnf
 repeat (first | (first | ((first | (apply exA;(focus exact oN)) | refine bT ?_ | refine bF ?_ | refine bW (bT ?_) | refine bW (bF ?_) | (apply cP;(focus assumption)) | (apply cE;(focus assumption)) | refine ⟨by first | decide | omega,?_⟩);((conv=>whnf))) | ((conv in (_[_]?)=>tactic=>first | exact oL | exact gS (by assumption));(conv=>whnf))) | (refine dX ?_;(conv=>whnf)) | (refine dP2 (by kernel_rfl) ?_;(conv=>whnf)))
 exact ⟨rfl,rfl⟩
section
variable {H : PH} {pid xid cid mid : Nat} {n : Int} {k : Nat → UInt8} {u : Int} {c : Cs} {l : List (List UInt8)} {L : List Crd}
theorem takeE (o:Out H pid xid cid mid n k u c l L) (e:Int) (he:inZ e 1 255=true) (now:Int) (hn0:0≤now) (hn1:now≤500) :
  CK prog 17 [.ptr (some (cid,0)),sl (laidB (flM e n)),.int .i64 now] H fun r H'=>r=.tup [.str [],.slice 0 [] (some 5)]∧Pr H' pid xid cid mid n k u { c with st:=3,er:=e } L :=
 (c17f o.pr.cl o.st _ (flM e n) (c44m (flOk he (inZ_of o.n0 (by have:=o.n1;omega)))) now hn0 (by omega) rfl o.on.symm).mono (fun r H' ⟨q1,q2,q3⟩=>⟨q1,o.pr.go q3 q2⟩)
theorem takeN (o:Out H pid xid cid mid n k u c l L) (b:List UInt8) (m:Msg) (e:Int) (hd:Pure prog 44 [sl b] (.tup [.agg m.d.cells,.int .i64 e])) (hno:noAns m e c) (now:Int) (hn0:0≤now) (hn1:now≤500) :
  CK prog 17 [.ptr (some (cid,0)),sl b,.int .i64 now] H fun r H'=>r=.tup [.str [],.slice 0 [] (some 5)]∧Evo (fun _=>False) H H' :=
 c17n o.pr.cl o.st b m e hd now hn0 (by omega) hno
end
open Go.Proofs.YtldfjimgfnjdjaaGreatDoor (rows_ints bytes_of)
open Go Ps
def ttF:TT:=[(3,⟨.int .i64,1,8,[.int .i64 0]⟩),(4,⟨.bool,1,1,[.bool false]⟩),(5,⟨.int .u8,1,1,[.int .u8 0]⟩),(9,⟨.str,1,16,[.str []]⟩),(22,⟨.slice 9,1,24,[.slice 0 [] (some 9)]⟩),(23,⟨.ptr,1,8,[.ptr none]⟩),(25,⟨.slice 5,1,24,[.slice 0 [] (some 5)]⟩),(26,⟨.int .i64,1,8,[.int .i64 0]⟩),(28,⟨.ptr,1,8,[.ptr none]⟩),(29,⟨.ptr,1,8,[.ptr none]⟩),(31,⟨.arr 32 5,32,32,List.replicate 32 (.int .u8 0)⟩),(33,⟨.strct [(28,0),(29,1),(3,2),(31,3),(3,35)],36,64,[.ptr none,.ptr none,.int .i64 0]++List.replicate 32 (.int .u8 0)++[.int .i64 0]⟩),(36,⟨.strct [(9,0),(9,1)],2,32,[.str [],.str []]⟩),(43,⟨.strct [(3,0),(3,1),(9,2),(9,3),(3,4),(25,5),(3,6)],7,88,[.int .i64 0,.int .i64 0,.str [],.str [],.int .i64 0,.slice 0 [] (some 5),.int .i64 0]⟩),(51,⟨.strct [(36,0),(36,2),(3,4),(3,5)],6,80,[.str [],.str [],.str [],.str [],.int .i64 0,.int .i64 0]⟩),(53,⟨.strct [(36,0),(3,2),(25,3)],4,64,[.str [],.str [],.int .i64 0,.slice 0 [] (some 5)]⟩),(55,⟨.strct [(53,0),(25,4),(36,5),(3,7),(3,8)],9,136,[.str [],.str [],.int .i64 0,.slice 0 [] (some 5),.slice 0 [] (some 5),.str [],.str [],.int .i64 0,.int .i64 0]⟩),(57,⟨.strct [(36,0),(53,2),(25,6)],7,120,[.str [],.str [],.str [],.str [],.int .i64 0,.slice 0 [] (some 5),.slice 0 [] (some 5)]⟩),(59,⟨.strct [(53,0),(25,4)],5,88,[.str [],.str [],.int .i64 0,.slice 0 [] (some 5),.slice 0 [] (some 5)]⟩),(61,⟨.strct [(26,0),(3,1)],2,16,[.int .i64 0,.int .i64 0]⟩),(63,⟨.strct [(3,0),(51,1),(55,7),(57,16),(59,23),(61,28)],30,448,[.int .i64 0,.str [],.str [],.str [],.str [],.int .i64 0,.int .i64 0,.str [],.str [],.int .i64 0,.slice 0 [] (some 5),.slice 0 [] (some 5),.str [],.str [],.int .i64 0,.int .i64 0,.str [],.str [],.str [],.str [],.int .i64 0,.slice 0 [] (some 5),.slice 0 [] (some 5),.str [],.str [],.int .i64 0,.slice 0 [] (some 5),.slice 0 [] (some 5),.int .i64 0,.int .i64 0]⟩),(73,⟨.strct [(36,0),(3,2),(3,3)],4,48,[.str [],.str [],.int .i64 0,.int .i64 0]⟩),(83,⟨.strct [(53,0),(31,4),(3,36)],37,104,[.str [],.str [],.int .i64 0,.slice 0 [] (some 5)]++List.replicate 32 (.int .u8 0)++[.int .i64 0]⟩)]
theorem ttF_ok:ttOk prog ttF=true:=by kernel_rfl
def imm8:List Nat:=[]
def Dbeg:Draw:={ imp:=[5],win:=[(6,1,1),(7,1,1),(8,1,1),(9,1,1),(10,1,1),(11,1,1),(12,1,1)] }
theorem start (H:PH) (now:Int) (h0:0≤now) (h1:now≤1073741824):∃H1 H2 H3 pid xid cid mid ca bid w w2,CK prog 13 [] H (fun r H'=>r=.ptr (some (pid,0))∧H'=H1)∧H1[pid]? = some (pairO cid xid 0 k9 3 w) ∧
  CK prog 14 [.ptr (some (cid,0)),.agg [.str sR,.str mN],.int .i64 now] H1 (fun r H'=>r=.tup [.str aR,sl (laidB (m1 now 1)),.int .i64 0]∧H'=H2)∧H2[pid]? = some (pairO cid xid 0 k9 3 w2) ∧
  CK prog 16 [.ptr (some (pid,0)),sl (laidB (m1 now 1))] H2 (fun r H'=>r=.tup []∧H'=H3)∧Out H3 pid xid cid mid 1 k9 3 (C1 ca bid 1) [] []:=by
 obtain ⟨H1,pid,xid,cid,mid,hP,_,k13⟩:=c13 H
 obtain ⟨w,hp⟩:=hP.p
 obtain ⟨H2,bid,hb,hP2,k14⟩:=chase1 hP now h0 h1
 obtain ⟨w2,hp2⟩:=hP2.p
 obtain ⟨H3,o,_,k16⟩:=sent1 hb hP2 now h0
 exact ⟨H1,H2,H3,pid,xid,cid,mid,mid+1,bid,w,w2,k13,hp,k14,hp2,k16,o⟩
def D8e:Draw:={ imp:=[18],win:=[(19,1,1),(20,1,1)] }
theorem c8 (e n:Int) (H:PH):CK prog 8 [.int .i64 e,.int .i64 n] H fun x _=>x=.bool true:=by
 by_cases g1:e<1
 ·(refine fnS (imm:=imm8) ttF_ok func8 ?_;(conv=>whnf))
  exact wR
 by_cases g2:255<e
 ·(refine fnS (imm:=imm8) ttF_ok func8 ?_;(conv=>whnf))
  exact wR
 by_cases g3:n<0
 ·(refine fnS (imm:=imm8) ttF_ok func8 ?_;(conv=>whnf))
  exact wR
 by_cases g4:100<n
 ·(refine fnS (imm:=imm8) ttF_ok func8 ?_;(conv=>whnf))
  exact wR
 obtain ⟨H1,H2,H3,pid,xid,cid,mid,ca,bid,w,w2,k13,hp1,k14,hp2,k16,o⟩:=start H 1 (by decide) (by decide)
 have k15:=c15
 obtain ⟨w3,hp3⟩:=o.pr.p
 have he:inZ e 1 255=true:=inZ_of (by omega) (by omega)
 have hm:msgOk (flM e n):=flOk he (inZ_of (by omega) (by omega))
 have k24:=c24 (flM e n) hm.2.2
 rw [encV_yes ⟨hm.1,hm.2.1⟩] at k24
 by_cases hn:n=1
 ·subst hn
  have k17:=takeE o e he 1 (by decide) (by decide)
  clear o hm
  generalize laidB (m1 1 1)=b1 at *
  generalize laidB (flM e 1)=b2 at *
  (refine fnS (imm:=imm8) ttF_ok func8 ?_;(conv=>whnf))
  repeat (first | (first | ((first | (apply exA;(focus exact oN)) | refine bT ?_ | refine bF ?_ | refine bW (bT ?_) | refine bW (bF ?_) | (apply cP;(focus assumption)) | (apply cE;(focus assumption)) | refine ⟨by first | decide | omega,?_⟩);((conv=>whnf))) | ((conv in (_[_]?)=>tactic=>first | exact oL | exact gS (by assumption));(conv=>whnf))) | (refine dX ?_;(conv=>whnf)))
  refine drawK_of3 Dbeg [H1,H2] _ (by kernel_rfl) rfl trivial rfl ?_
  conv=>whnf
  repeat (first | (first | ((first | (apply exA;(focus exact oN)) | refine bT ?_ | refine bF ?_ | refine bW (bT ?_) | refine bW (bF ?_) | (apply cP;(focus assumption)) | (apply cE;(focus assumption)) | refine ⟨by first | decide | omega,?_⟩);((conv=>whnf))) | ((conv in (_[_]?)=>tactic=>first | exact oL | exact gS (by assumption));(conv=>whnf))) | (refine dX ?_;(conv=>whnf)))
  refine cO k17 ?_
  rintro _ H4 ⟨rfl,hP4⟩
  obtain ⟨v4,ho4⟩:=hP4.cl.o
  obtain ⟨w4,hp4⟩:=hP4.p
  have k20:=c20 ho4
  have hm2:msgOk (m1 1 2):=m1Ok (by decide) (by decide) (by decide)
  obtain ⟨H5,bid5,hb5,hC5,e5,k14b⟩:=c14f hP4.cl (show (3:Int)≠1 by decide) (show aR.length≤1000000 by decide) sR mN (by decide) (by decide) uMail 1 (by decide) (by decide) (.inl rfl) (msgOk_d hm2) (show (0:Int)≤1 by decide) (show (1:Int)≤100000 by decide)
  obtain ⟨w5,hp5⟩:=(hP4.go e5 hC5).p
  have k14c:CK prog 14 [.ptr (some (cid,0)),.agg [.str sR,.str mN],.int .i64 1] H4 fun r H'=>r=.tup [.str aR,sl (laidB (m1 1 2)),.int .i64 0]∧H'=H5:=k14b
  have k22:=c22m hm2
  have x6:=((Xt.refl H5).app [z63o]).set (zqn _) (⟨63,(m1 1 2).d.cells,1⟩:PObj)
  have g5:=gL H5 z63o
  have g6:((H5++[z63o]).set H5.length (⟨63,(m1 1 2).d.cells,1⟩:PObj))[H5.length]? = some ⟨63,(m1 1 2).d.cells,1⟩:=gS g5
  have hp6:=x6.get hp5
  obtain ⟨H7,k21⟩:=c21 ((H5++[z63o]).set H5.length (⟨63,(m1 1 2).d.cells,1⟩:PObj))
  clear k14b e5 hC5 hb5 hP4
  generalize laidB (m1 1 2)=b3 at *
  conv=>whnf
  repeat (first | (first | ((first | (apply exA;(focus exact oN)) | refine bT ?_ | refine bF ?_ | refine bW (bT ?_) | refine bW (bF ?_) | (apply cP;(focus assumption)) | (apply cE;(focus assumption)) | refine ⟨by first | decide | omega,?_⟩);((conv=>whnf))) | ((conv in (_[_]?)=>tactic=>first | exact oL | exact gS (by assumption));(conv=>whnf))) | (refine dX ?_;(conv=>whnf)))
  refine drawK_of3 Dbeg [H4,H5] _ (by kernel_rfl) rfl trivial rfl ?_
  conv=>whnf
  repeat (first | (first | ((first | (apply exA;(focus exact oN)) | refine bT ?_ | refine bF ?_ | refine bW (bT ?_) | refine bW (bF ?_) | (apply cP;(focus assumption)) | (apply cE;(focus assumption)) | refine ⟨by first | decide | omega,?_⟩);((conv=>whnf))) | ((conv in (_[_]?)=>tactic=>first | exact oL | exact gS (by assumption));(conv=>whnf))) | (refine dX ?_;(conv=>whnf)))
  refine drawK_of3 D8e [(H5++[z63o]).set H5.length (⟨63,(m1 1 2).d.cells,1⟩:PObj),H7] _ (by kernel_rfl) rfl trivial rfl ?_
  conv=>whnf
  exact wR
 ·have k17:=takeN o _ (flM e n) 0 (c44m hm) (.inr (.inr ⟨rfl,hn⟩)) 1 (by decide) (by decide)
  generalize laidB (m1 1 1)=b1 at *
  generalize laidB (flM e n)=b2 at *
  (refine fnS (imm:=imm8) ttF_ok func8 ?_;(conv=>whnf))
  repeat (first | (first | ((first | (apply exA;(focus exact oN)) | refine bT ?_ | refine bF ?_ | refine bW (bT ?_) | refine bW (bF ?_) | (apply cP;(focus assumption)) | (apply cE;(focus assumption)) | refine ⟨by first | decide | omega,?_⟩);((conv=>whnf))) | ((conv in (_[_]?)=>tactic=>first | exact oL | exact gS (by assumption));(conv=>whnf))) | (refine dX ?_;(conv=>whnf)))
  refine drawK_of3 Dbeg [H1,H2] _ (by kernel_rfl) rfl trivial rfl ?_
  conv=>whnf
  repeat (first | (first | ((first | (apply exA;(focus exact oN)) | refine bT ?_ | refine bF ?_ | refine bW (bT ?_) | refine bW (bF ?_) | (apply cP;(focus assumption)) | (apply cE;(focus assumption)) | refine ⟨by first | decide | omega,?_⟩);((conv=>whnf))) | ((conv in (_[_]?)=>tactic=>first | exact oL | exact gS (by assumption));(conv=>whnf))) | (refine dX ?_;(conv=>whnf)))
  refine cO k17 ?_
  rintro _ H4 ⟨rfl,e4⟩
  have o4:=o.stay e4
  obtain ⟨v4,ho4⟩:=o4.pr.cl.o
  obtain ⟨w4,hp4⟩:=o4.pr.p
  have k20:=c20 ho4
  obtain ⟨H5,k21⟩:=c21 H4
  conv=>whnf
  repeat (first | (first | ((first | (apply exA;(focus exact oN)) | refine bT ?_ | refine bF ?_ | refine bW (bT ?_) | refine bW (bF ?_) | (apply cP;(focus assumption)) | (apply cE;(focus assumption)) | refine ⟨by first | decide | omega,?_⟩);((conv=>whnf))) | ((conv in (_[_]?)=>tactic=>first | exact oL | exact gS (by assumption));(conv=>whnf))) | (refine dX ?_;(conv=>whnf)) | (refine dP2 (by kernel_rfl) ?_;(conv=>whnf)))
  rfl
theorem rdInt {B n:Nat} {ps:List PV} (h:RdP prog B (n+1) 3 ps):∃i,ps=[.int .i64 i]∧(Lit.int .i64 i).wf=true:=h
end Go.Proofs.Tryz
