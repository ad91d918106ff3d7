import Derived.Test.YtldfjimgfnjdjaaGreatDoorA5
set_option linter.all false
set_option maxRecDepth 100000
set_option maxHeartbeats 4000000
namespace Go.Proofs.Tryz
open Go Ps
theorem and16 (n:Int):0≤ibits .and .i64 n 65535∧ibits .and .i64 n 65535≤65535:=by
 have h0:ibits .and .i64 n 65535=IntKind.i64.wrap ((BitVec.ofInt 64 n &&& BitVec.ofInt 64 65535).toNat:Int):=rfl
 have h1:(BitVec.ofInt 64 n &&& BitVec.ofInt 64 65535).toNat≤65535:=by
  rw [BitVec.toNat_and]
  exact Nat.le_trans Nat.and_le_right (by decide)
 rw [h0,w64 (by omega) (by omega)]
 omega
def D18c:Draw:={ imp:=[9],win:=[(10,1,1),(11,1,1),(12,1,1),(13,1,1),(14,1,1)] }
theorem turn_get (sb:List UInt8) (I:Nat) (c:UInt8) (hI:I<sb.length) (r:List PV):∀(j:Nat) (p:PV),((sb.set I c).map bC)[j]? = some p→(setCells I [bC c] (sb.map bC++r))[j]? = some p:=by
 intro j p h
 rw [setCells_get I [bC c] (sb.map bC++r) (by simp;omega)]
 rw [List.getElem?_map] at h
 by_cases hj:I≤j∧j<I+1
 ·have hj':j=I:=by omega
  subst hj'
  rw [List.getElem?_set_self hI] at h
  rw [zqp (by simp),show j - j=0 by omega]
  exact h
 ·have hne:I≠j:=by omega
  rw [zqj hne] at h
  rw [zqo (by simpa using hj)]
  cases hx:sb[j]? with
  | none=>rw [hx] at h;cases h
  | some y =>
   rw [hx] at h
   have hlt:=(zq1.1 hx).1
   rw [zq2 (by simpa using hlt),List.getElem?_map,hx]
   exact h
theorem c18_3 {H:PH} {pid xid cid:Nat} {n:Int} {k:Nat→UInt8} {u:Int} {v:Nat} (hp:H[pid]? = some (pairO cid xid n k u v)) (hu:isUseB u=true) (nn:Int) (br:List UInt8) :
  ∃b:List UInt8,b.length≤2000∧CK prog 18 [.ptr (some (pid,0)),.agg [.int .i64 0,.int .i64 3,.str aR,.str aR,.int .i64 nn,sl br,.int .i64 0]] H fun x H'=>x=sl b∧H'=H:=by
 have k51:Pure prog 51 [.agg (keyC k),.int .i64 u,.int .i64 55,sl (eBRpt ⟨sesF n,aR,(krb aR),0,500,n⟩)] (.tup [ow (sealK (keyB k) u 55 (eBRpt ⟨sesF n,aR,(krb aR),0,500,n⟩)),.int .i64 0]):=c51 (keyB k) (keyB_len k) u 55 hu (by decide) (by decide) _ (eBRpt_784 _)
 have k50:=c50s ⟨sesF n,aR,(krb aR),0,500,n⟩ (by show aR.length≤_;decide) (by show (krb aR).length≤_;decide)
 have hsl:0<(sealK (keyB k) u 55 (eBRpt ⟨sesF n,aR,(krb aR),0,500,n⟩)).length∧(sealK (keyB k) u 55 (eBRpt ⟨sesF n,aR,(krb aR),0,500,n⟩)).length≤800:=by
  rw [sealK_len];have:=eBRpt_784 ⟨sesF n,aR,(krb aR),0,500,n⟩;omega
 generalize eERpt ⟨sesF n,aR,(krb aR),0,500,n⟩=er at *
 generalize eBRpt ⟨sesF n,aR,(krb aR),0,500,n⟩=rb at *
 generalize sealK (keyB k) u 55 rb=sb at *
 obtain ⟨hs0,hs1⟩:=hsl
 have ha:=and16 nn
 obtain ⟨I,hI,hIl⟩:∃I:Nat,(ibits .and .i64 nn 65535).tmod (sb.length:Int)=(I:Int)∧I<sb.length:=by
  have h1:=Int.tmod_nonneg (sb.length:Int) ha.1
  have h2:=Int.tmod_lt_of_pos (ibits .and .i64 nn 65535) (show (0:Int)<(sb.length:Int) by omega)
  exact ⟨((ibits .and .i64 nn 65535).tmod (sb.length:Int)).toNat,by omega,by omega⟩
 obtain ⟨c0,hc0⟩:∃c0,sb[I]? = some c0:=⟨_,zqc hIl⟩
 have htl:(sb.set I (c0 ^^^ 1)).length=sb.length:=by simp
 have hm:msgOk (rpM aR aN aR (krb aR) 1 [1,2] (sb.set I (c0 ^^^ 1))):=rpOk prAnn (tick12 prTgt) (inZ_of (by omega) (by omega))
 refine ⟨laidB (rpM aR aN aR (krb aR) 1 [1,2] (sb.set I (c0 ^^^ 1))),hm.2.1,?_⟩
 refine (CK.gc (Q:=fun x H'=>x=sl (laidB (rpM aR aN aR (krb aR) 1 [1,2] (sb.set I (c0 ^^^ 1))))∧Xt H H') ?_ (fun r H' h=>⟨(by rw [h.1];exact oldPs_bytes _),h.2⟩)).mono (fun x H' h=>⟨h.2.choose_spec.1,h.1⟩)
 have k49:=c49 aR (by decide)
 have k15:=c15
 have k25:=c25
 have k26:=c26 n
 have eX:Xt H ((H++[z36o]).set H.length (⟨36,[.str aR,.str (krb aR)],1⟩:PObj)):=((Xt.refl H).app [z36o]).set (zqn _) (⟨36,[.str aR,.str (krb aR)],1⟩:PObj)
 have g0:=gL H z36o
 have g1:((H++[z36o]).set H.length (⟨36,[.str aR,.str (krb aR)],1⟩:PObj))[H.length]? = some (⟨36,[.str aR,.str (krb aR)],1⟩:PObj):=gS g0
 have hlx:H.length<((H++[z36o]).set H.length (⟨36,[.str aR,.str (krb aR)],1⟩:PObj)).length:=by simp
 obtain ⟨X,hX⟩:∃X,((H++[z36o]).set H.length (⟨36,[.str aR,.str (krb aR)],1⟩:PObj))=X:=⟨_,rfl⟩
 rw [hX] at g1 hlx eX
 have f0:=gL X z36o
 have f1:((X++[z36o]).set X.length (⟨36,[.str aR,.str aN],1⟩:PObj))[X.length]? = some (⟨36,[.str aR,.str aN],1⟩:PObj):=gS f0
 have h1:((X++[z36o]).set X.length (⟨36,[.str aR,.str aN],1⟩:PObj))[H.length]? = some (⟨36,[.str aR,.str (krb aR)],1⟩:PObj):=by rw [zqj (by omega),zq2 hlx];exact g1
 have eY:Xt H ((X++[z36o]).set X.length (⟨36,[.str aR,.str aN],1⟩:PObj)):=(eX.app [z36o]).set (by omega) (⟨36,[.str aR,.str aN],1⟩:PObj)
 have pX:=eX.get hp
 have pX0:=(eX.app [z36o]).get hp
 have pY:=eY.get hp
 (refine fnS (imm:=imm18) ttK_ok func18 ?_;(conv=>whnf))
 refine drawK_of3 (D18a H.length) [(H++[z36o]),((H++[z36o]).set H.length (⟨36,[.str aR,.str (krb aR)],1⟩:PObj))] _ (by kernel_rfl) ⟨rfl,rfl⟩ trivial rfl ?_
 conv=>whnf
 repeat (first | (first | ((first | (apply exA;(focus exact oN)) | refine bT ?_ | refine bF ?_ | refine bW (bT ?_) | refine bW (bF ?_) | (apply cP;(focus assumption)) | (apply cE;(focus assumption)) | refine ⟨by first | decide | omega,?_⟩);((conv=>whnf))) | ((conv in (_[_]?)=>tactic=>first | exact oL | exact gS (by assumption));(conv=>whnf))) | (refine dX ?_;(conv=>whnf)))
 refine drawK_at hX ?_
 refine drawK_of3 (D18b X.length) [X++[z36o],((X++[z36o]).set X.length (⟨36,[.str aR,.str aN],1⟩:PObj))] _ (by kernel_rfl) ⟨rfl,rfl⟩ trivial rfl ?_
 conv=>whnf
 repeat (first | (first | ((first | (apply exA;(focus exact oN)) | refine bT ?_ | refine bF ?_ | refine bW (bT ?_) | refine bW (bF ?_) | (apply cP;(focus assumption)) | (apply cE;(focus assumption)) | refine ⟨by first | decide | omega,?_⟩);((conv=>whnf))) | ((conv in (_[_]?)=>tactic=>first | exact oL | exact gS (by assumption));(conv=>whnf))) | (refine dX ?_;(conv=>whnf)))
 refine dP2 (by kernel_rfl) ?_
 conv=>whnf
 repeat (first | (first | ((first | (apply exA;(focus exact oN)) | refine bT ?_ | refine bF ?_ | refine bW (bT ?_) | refine bW (bF ?_) | (apply cP;(focus assumption)) | (apply cE;(focus assumption)) | refine ⟨by first | decide | omega,?_⟩);((conv=>whnf))) | ((conv in (_[_]?)=>tactic=>first | exact oL | exact gS (by assumption));(conv=>whnf))) | (refine dX ?_;(conv=>whnf)))
 obtain ⟨Y,hY⟩:∃Y,(X++[z36o]).set X.length (⟨36,[.str aR,.str aN],1⟩:PObj)=Y:=⟨_,rfl⟩
 refine drawK_at hY ?_
 rw [hY] at f1 h1 eY pY
 have k51o:=CallOk_objT (y:=.int .i64 0) rfl (k51 Y) hs0 psize5 (allFlat sb)
 clear k51
 refine drawK_call 9 D18c _ Y (by kernel_rfl) rfl rfl trivial ?_
 conv=>whnf
 repeat (first | (first | ((first | (apply exA;(focus exact oN)) | refine bT ?_ | refine bF ?_ | refine bW (bT ?_) | refine bW (bF ?_) | (apply cP;(focus assumption)) | (apply cE;(focus assumption)) | refine ⟨by first | decide | omega,?_⟩);((conv=>whnf))) | ((conv in (_[_]?)=>tactic=>first | exact oL | exact gS (by assumption));(conv=>whnf))) | (refine dX ?_;(conv=>whnf)))
 refine cO k51o ?_
 rintro _ H4 ⟨cap,kk,hcap,hck,rfl,rfl⟩
 have k2:=eY.app [⟨5,sb.map bC++List.replicate kk PV.undef,0⟩]
 have pZ:=k2.get hp
 refine ⟨[Y,Y++[⟨5,sb.map bC++List.replicate kk PV.undef,0⟩]],rfl,?_⟩
 conv=>whnf
 repeat (first | (first | ((first | (apply exA;(focus exact oN)) | refine bT ?_ | refine bF ?_ | refine bW (bT ?_) | refine bW (bF ?_) | (apply cP;(focus assumption)) | (apply cE;(focus assumption)) | refine ⟨by first | decide | omega,?_⟩);((conv=>whnf))) | ((conv in (_[_]?)=>tactic=>first | exact oL | exact gS (by assumption));(conv=>whnf))) | (refine dX ?_;(conv=>whnf)))
 have hgc:(sb.map bC++List.replicate kk PV.undef)[I]? = some (bC c0):=by
  rw [zq2 (by simpa using hIl),List.getElem?_map,hc0];rfl
 have hlt:=(zq1.1 hgc).1
 have hdr:dropN (0+((ibits .and .i64 nn 65535).tmod (sb.length:Int)).toNat*1) (sb.map bC++List.replicate kk PV.undef)=bC c0::(sb.map bC++List.replicate kk PV.undef).drop (I+1):=by
  rw [dropN_eq,hI,Int.toNat_natCast,Nat.mul_one,Nat.zero_add,List.drop_eq_getElem_cons hlt]
  rw [zqc hlt] at hgc
  rw [Option.some.inj hgc]
 have hbl:Nat.ble (0+((ibits .and .i64 nn 65535).tmod (sb.length:Int)).toNat*1+1) (sb.map bC++List.replicate kk PV.undef).length=true:=by
  rw [Nat.ble_eq,hI,Int.toNat_natCast];omega
 have hYl:H.length≤Y.length:=by rw [←hY];simp;omega
 have x5:=((Xt.refl Y).app [(⟨5,sb.map bC++List.replicate kk PV.undef,0⟩:PObj)]).set (zqn _) (⟨5,setCells (0+((ibits .and .i64 nn 65535).tmod (sb.length:Int)).toNat*1) [PV.int .u8 (ibits .xor .u8 (c0.toNat:Int) 1)] (sb.map bC++List.replicate kk PV.undef),1⟩:PObj)
 have q0:=gL Y (⟨5,sb.map bC++List.replicate kk PV.undef,0⟩:PObj)
 have q1:((Y++[(⟨5,sb.map bC++List.replicate kk PV.undef,0⟩:PObj)]).set Y.length (⟨5,setCells (0+((ibits .and .i64 nn 65535).tmod (sb.length:Int)).toNat*1) [PV.int .u8 (ibits .xor .u8 (c0.toNat:Int) 1)] (sb.map bC++List.replicate kk PV.undef),1⟩:PObj))[Y.length]? = some (⟨5,setCells (0+((ibits .and .i64 nn 65535).tmod (sb.length:Int)).toNat*1) [PV.int .u8 (ibits .xor .u8 (c0.toNat:Int) 1)] (sb.map bC++List.replicate kk PV.undef),1⟩:PObj):=gS q0
 have eZ:=(eY.app [(⟨5,sb.map bC++List.replicate kk PV.undef,0⟩:PObj)]).set hYl (⟨5,setCells (0+((ibits .and .i64 nn 65535).tmod (sb.length:Int)).toNat*1) [PV.int .u8 (ibits .xor .u8 (c0.toNat:Int) 1)] (sb.map bC++List.replicate kk PV.undef),1⟩:PObj)
 have k24:=c24s (cap:=cap) aR aN aR (krb aR) 1 (sb.set I (c0 ^^^ 1)) q1 (fun j p h=>by
  show (setCells (0+((ibits .and .i64 nn 65535).tmod (sb.length:Int)).toNat*1) [PV.int .u8 (ibits .xor .u8 (c0.toNat:Int) 1)] (sb.map bC++List.replicate kk PV.undef))[j]? = some p
  rw [hI,Int.toNat_natCast,Nat.mul_one,Nat.zero_add,show PV.int .u8 (ibits .xor .u8 (c0.toNat:Int) 1)=bC (c0 ^^^ 1) from xor8 c0 1]
  exact turn_get sb I (c0 ^^^ 1) hIl _ j p h) hm
 rw [htl] at k24
 have f2:=x5.get f1
 have h2:=x5.get h1
 ((conv in (dropN _ _)=>tactic=>exact hdr);(conv=>whnf))
 repeat (first | (first | ((first | (apply exA;(focus exact oN)) | refine bT ?_ | refine bF ?_ | refine bW (bT ?_) | refine bW (bF ?_) | (apply cP;(focus assumption)) | (apply cE;(focus assumption)) | refine ⟨by first | decide | omega,?_⟩);((conv=>whnf))) | ((conv in (_[_]?)=>tactic=>first | exact oL | exact gS (by assumption));(conv=>whnf))) | (refine dX ?_;(conv=>whnf)))
 ((conv in (Nat.ble _ _)=>tactic=>exact hbl);(conv=>whnf))
 repeat (first | (first | ((first | (apply exA;(focus exact oN)) | refine bT ?_ | refine bF ?_ | refine bW (bT ?_) | refine bW (bF ?_) | (apply cP;(focus assumption)) | (apply cE;(focus assumption)) | refine ⟨by first | decide | omega,?_⟩);((conv=>whnf))) | ((conv in (_[_]?)=>tactic=>first | exact oL | exact gS (by assumption));(conv=>whnf))) | (refine dX ?_;(conv=>whnf)))
 exact ⟨rfl,eZ⟩
theorem c5_3 (n:Int) (hn:¬n<0) (b:List UInt8) (hb:b.length≤500) (H:PH):CK prog 5 [.int .i64 3,.int .i64 n,sl b] H fun x _=>x=.bool true:=by
 have hb':¬(500:Int)<(b.length:Nat):=by omega
 obtain ⟨H1,H2,H3,pid,xid,cid,mid,ca,bid,w,w2,k13,hp1,k14,hp2,k16,o⟩:=start H 1 (by decide) (by decide)
 have k15:=c15
 obtain ⟨w3,hp3⟩:=o.pr.p
 generalize laidB (m1 1 1)=b1 at *
 obtain ⟨bt,hbt,k18⟩:=c18_3 hp3 rfl n b
 have hnb:bt.length≤140737488355328:=by omega
 have k22:=(c22 bt hnb).of_eq (refDec_eq bt)
 have k44:=c44 bt hnb
 cases hok:okM (takenB bt) bt
 ·have hdv:decV bt=.tup [.agg mZ.d.cells,.int .i64 2]:=agM_no hok
  rw [hdv] at k22 k44
  have x4:Xt H3 ((H3++[z63o]).set H3.length (⟨63,mZ.d.cells,1⟩:PObj)):=((Xt.refl H3).app [z63o]).set (zqn _) _
  have g0:=gL H3 z63o
  have g1:((H3++[z63o]).set H3.length (⟨63,mZ.d.cells,1⟩:PObj))[H3.length]? = some (⟨63,mZ.d.cells,1⟩:PObj):=gS g0
  have hp4:=x4.get hp3
  have o4:=o.stay (Evo.xt x4)
  have k17:=takeN o4 bt mZ 2 k44 (.inl (by decide)) 1 (by decide) (by decide)
  have k23:=c23N k9 mZ.rBl (by kernel_rfl)
  clear k44
  (refine fnS (imm:=imm5) ttF_ok func5 ?_;(conv=>whnf))
  repeat (first | (first | ((first | (apply exA;(focus exact oN)) | refine bT ?_ | refine bF ?_ | refine bW (bT ?_) | refine bW (bF ?_) | (apply cP;(focus assumption)) | (apply cE;(focus assumption)) | refine ⟨by first | decide | omega,?_⟩);((conv=>whnf))) | ((conv in (_[_]?)=>tactic=>first | exact oL | exact gS (by assumption));(conv=>whnf))) | (refine dX ?_;(conv=>whnf)))
  refine drawK_of3 Dbeg [H1,H2] _ (by kernel_rfl) rfl trivial rfl ?_
  conv=>whnf
  repeat (first | (first | ((first | (apply exA;(focus exact oN)) | refine bT ?_ | refine bF ?_ | refine bW (bT ?_) | refine bW (bF ?_) | (apply cP;(focus assumption)) | (apply cE;(focus assumption)) | refine ⟨by first | decide | omega,?_⟩);((conv=>whnf))) | ((conv in (_[_]?)=>tactic=>first | exact oL | exact gS (by assumption));(conv=>whnf))) | (refine dX ?_;(conv=>whnf)))
  refine dP2 (by kernel_rfl) ?_
  conv=>whnf
  repeat (first | (first | ((first | (apply exA;(focus exact oN)) | refine bT ?_ | refine bF ?_ | refine bW (bT ?_) | refine bW (bF ?_) | (apply cP;(focus assumption)) | (apply cE;(focus assumption)) | refine ⟨by first | decide | omega,?_⟩);((conv=>whnf))) | ((conv in (_[_]?)=>tactic=>first | exact oL | exact gS (by assumption));(conv=>whnf))) | (refine dX ?_;(conv=>whnf)))
  refine cO k17 ?_
  rintro _ H5 ⟨rfl,e5⟩
  obtain ⟨v5,ho5⟩:=(o4.stay e5).pr.cl.o
  obtain ⟨w5,hp5⟩:=(o4.stay e5).pr.p
  have k20:=c20 ho5
  obtain ⟨H9,k21⟩:=c21 H5
  conv=>whnf
  exact wR
 ·have hdv:decV bt=.tup [.agg (takenB bt).d.cells,.int .i64 0]:=agM_yes hok
  rw [hdv] at k22 k44
  clear hdv hok hnb
  generalize takenB bt=m at *
  have x4:Xt H3 ((H3++[z63o]).set H3.length (⟨63,m.d.cells,1⟩:PObj)):=((Xt.refl H3).app [z63o]).set (zqn _) _
  have g0:=gL H3 z63o
  have g1:((H3++[z63o]).set H3.length (⟨63,m.d.cells,1⟩:PObj))[H3.length]? = some (⟨63,m.d.cells,1⟩:PObj):=gS g0
  have hp4:=x4.get hp3
  have o4:=o.stay (Evo.xt x4)
  by_cases h5:m.kind=5
  ·have h5':m.d.kind=5:=h5
   clear k44
   (refine fnS (imm:=imm5) ttF_ok func5 ?_;(conv=>whnf))
   repeat (first | (first | ((first | (apply exA;(focus exact oN)) | refine bT ?_ | refine bF ?_ | refine bW (bT ?_) | refine bW (bF ?_) | (apply cP;(focus assumption)) | (apply cE;(focus assumption)) | refine ⟨by first | decide | omega,?_⟩);((conv=>whnf))) | ((conv in (_[_]?)=>tactic=>first | exact oL | exact gS (by assumption));(conv=>whnf))) | (refine dX ?_;(conv=>whnf)))
   refine drawK_of3 Dbeg [H1,H2] _ (by kernel_rfl) rfl trivial rfl ?_
   conv=>whnf
   exact wR
  have h5':¬m.d.kind=5:=h5
  cases hop:openK (keyB k9) 3 m.rBl with
  | none =>
   have k23:=c23N k9 m.rBl hop
   by_cases h3:m.kind=3
   ·have h3':m.d.kind=3:=h3
    have k17:=takeO o4 bt m k44 h3 (fun _=>hop)
    clear k44
    (refine fnS (imm:=imm5) ttF_ok func5 ?_;(conv=>whnf))
    repeat (first | (first | ((first | (apply exA;(focus exact oN)) | refine bT ?_ | refine bF ?_ | refine bW (bT ?_) | refine bW (bF ?_) | (apply cP;(focus assumption)) | (apply cE;(focus assumption)) | refine ⟨by first | decide | omega,?_⟩);((conv=>whnf))) | ((conv in (_[_]?)=>tactic=>first | exact oL | exact gS (by assumption));(conv=>whnf))) | (refine dX ?_;(conv=>whnf)))
    refine drawK_of3 Dbeg [H1,H2] _ (by kernel_rfl) rfl trivial rfl ?_
    conv=>whnf
    repeat (first | (first | ((first | (apply exA;(focus exact oN)) | refine bT ?_ | refine bF ?_ | refine bW (bT ?_) | refine bW (bF ?_) | (apply cP;(focus assumption)) | (apply cE;(focus assumption)) | refine ⟨by first | decide | omega,?_⟩);((conv=>whnf))) | ((conv in (_[_]?)=>tactic=>first | exact oL | exact gS (by assumption));(conv=>whnf))) | (refine dX ?_;(conv=>whnf)))
    refine dP2 (by kernel_rfl) ?_
    conv=>whnf
    repeat (first | (first | ((first | (apply exA;(focus exact oN)) | refine bT ?_ | refine bF ?_ | refine bW (bT ?_) | refine bW (bF ?_) | (apply cP;(focus assumption)) | (apply cE;(focus assumption)) | refine ⟨by first | decide | omega,?_⟩);((conv=>whnf))) | ((conv in (_[_]?)=>tactic=>first | exact oL | exact gS (by assumption));(conv=>whnf))) | (refine dX ?_;(conv=>whnf)))
    refine cO k17 ?_
    rintro _ H5 ⟨rfl,e5⟩
    obtain ⟨v5,ho5⟩:=(o4.stay e5).pr.cl.o
    obtain ⟨w5,hp5⟩:=(o4.stay e5).pr.p
    have k20:=c20 ho5
    obtain ⟨H9,k21⟩:=c21 H5
    conv=>whnf
    exact wR
   ·have h3':¬m.d.kind=3:=h3
    have k17:=takeN o4 bt m 0 k44 (.inr (.inl ⟨h5,h3⟩)) 1 (by decide) (by decide)
    clear k44
    (refine fnS (imm:=imm5) ttF_ok func5 ?_;(conv=>whnf))
    repeat (first | (first | ((first | (apply exA;(focus exact oN)) | refine bT ?_ | refine bF ?_ | refine bW (bT ?_) | refine bW (bF ?_) | (apply cP;(focus assumption)) | (apply cE;(focus assumption)) | refine ⟨by first | decide | omega,?_⟩);((conv=>whnf))) | ((conv in (_[_]?)=>tactic=>first | exact oL | exact gS (by assumption));(conv=>whnf))) | (refine dX ?_;(conv=>whnf)))
    refine drawK_of3 Dbeg [H1,H2] _ (by kernel_rfl) rfl trivial rfl ?_
    conv=>whnf
    repeat (first | (first | ((first | (apply exA;(focus exact oN)) | refine bT ?_ | refine bF ?_ | refine bW (bT ?_) | refine bW (bF ?_) | (apply cP;(focus assumption)) | (apply cE;(focus assumption)) | refine ⟨by first | decide | omega,?_⟩);((conv=>whnf))) | ((conv in (_[_]?)=>tactic=>first | exact oL | exact gS (by assumption));(conv=>whnf))) | (refine dX ?_;(conv=>whnf)))
    refine dP2 (by kernel_rfl) ?_
    conv=>whnf
    repeat (first | (first | ((first | (apply exA;(focus exact oN)) | refine bT ?_ | refine bF ?_ | refine bW (bT ?_) | refine bW (bF ?_) | (apply cP;(focus assumption)) | (apply cE;(focus assumption)) | refine ⟨by first | decide | omega,?_⟩);((conv=>whnf))) | ((conv in (_[_]?)=>tactic=>first | exact oL | exact gS (by assumption));(conv=>whnf))) | (refine dX ?_;(conv=>whnf)))
    refine cO k17 ?_
    rintro _ H5 ⟨rfl,e5⟩
    obtain ⟨v5,ho5⟩:=(o4.stay e5).pr.cl.o
    obtain ⟨w5,hp5⟩:=(o4.stay e5).pr.p
    have k20:=c20 ho5
    obtain ⟨H9,k21⟩:=c21 H5
    conv=>whnf
    exact wR
  | some p =>
   have k23:=c23P k9 m.rBl hop
   by_cases h3:m.kind=3
   ·have h3':m.d.kind=3:=h3
    clear k44
    (refine fnS (imm:=imm5) ttF_ok func5 ?_;(conv=>whnf))
    repeat (first | (first | ((first | (apply exA;(focus exact oN)) | refine bT ?_ | refine bF ?_ | refine bW (bT ?_) | refine bW (bF ?_) | (apply cP;(focus assumption)) | (apply cE;(focus assumption)) | refine ⟨by first | decide | omega,?_⟩);((conv=>whnf))) | ((conv in (_[_]?)=>tactic=>first | exact oL | exact gS (by assumption));(conv=>whnf))) | (refine dX ?_;(conv=>whnf)))
    refine drawK_of3 Dbeg [H1,H2] _ (by kernel_rfl) rfl trivial rfl ?_
    conv=>whnf
    repeat (first | (first | ((first | (apply exA;(focus exact oN)) | refine bT ?_ | refine bF ?_ | refine bW (bT ?_) | refine bW (bF ?_) | (apply cP;(focus assumption)) | (apply cE;(focus assumption)) | refine ⟨by first | decide | omega,?_⟩);((conv=>whnf))) | ((conv in (_[_]?)=>tactic=>first | exact oL | exact gS (by assumption));(conv=>whnf))) | (refine dX ?_;(conv=>whnf)))
    refine dP2 (by kernel_rfl) ?_
    conv=>whnf
    exact wR
   ·have h3':¬m.d.kind=3:=h3
    have k17:=takeN o4 bt m 0 k44 (.inr (.inl ⟨h5,h3⟩)) 1 (by decide) (by decide)
    clear k44
    (refine fnS (imm:=imm5) ttF_ok func5 ?_;(conv=>whnf))
    repeat (first | (first | ((first | (apply exA;(focus exact oN)) | refine bT ?_ | refine bF ?_ | refine bW (bT ?_) | refine bW (bF ?_) | (apply cP;(focus assumption)) | (apply cE;(focus assumption)) | refine ⟨by first | decide | omega,?_⟩);((conv=>whnf))) | ((conv in (_[_]?)=>tactic=>first | exact oL | exact gS (by assumption));(conv=>whnf))) | (refine dX ?_;(conv=>whnf)))
    refine drawK_of3 Dbeg [H1,H2] _ (by kernel_rfl) rfl trivial rfl ?_
    conv=>whnf
    repeat (first | (first | ((first | (apply exA;(focus exact oN)) | refine bT ?_ | refine bF ?_ | refine bW (bT ?_) | refine bW (bF ?_) | (apply cP;(focus assumption)) | (apply cE;(focus assumption)) | refine ⟨by first | decide | omega,?_⟩);((conv=>whnf))) | ((conv in (_[_]?)=>tactic=>first | exact oL | exact gS (by assumption));(conv=>whnf))) | (refine dX ?_;(conv=>whnf)))
    refine dP2 (by kernel_rfl) ?_
    conv=>whnf
    repeat (first | (first | ((first | (apply exA;(focus exact oN)) | refine bT ?_ | refine bF ?_ | refine bW (bT ?_) | refine bW (bF ?_) | (apply cP;(focus assumption)) | (apply cE;(focus assumption)) | refine ⟨by first | decide | omega,?_⟩);((conv=>whnf))) | ((conv in (_[_]?)=>tactic=>first | exact oL | exact gS (by assumption));(conv=>whnf))) | (refine dX ?_;(conv=>whnf)))
    refine cO k17 ?_
    rintro _ H5 ⟨rfl,e5⟩
    obtain ⟨v5,ho5⟩:=(o4.stay e5).pr.cl.o
    obtain ⟨w5,hp5⟩:=(o4.stay e5).pr.p
    have k20:=c20 ho5
    obtain ⟨H9,k21⟩:=c21 H5
    conv=>whnf
    exact wR
theorem c5 (way n:Int) (b:List UInt8) (H:PH):CK prog 5 [.int .i64 way,.int .i64 n,sl b] H fun x _=>x=.bool true:=by
 by_cases g1:way<3
 ·(refine fnS (imm:=imm5) ttF_ok func5 ?_;(conv=>whnf))
  exact wR
 by_cases g2:6<way
 ·(refine fnS (imm:=imm5) ttF_ok func5 ?_;(conv=>whnf))
  exact wR
 by_cases g3:500<b.length
 ·have g3':(500:Int)<(b.length:Nat):=by omega
  (refine fnS (imm:=imm5) ttF_ok func5 ?_;(conv=>whnf))
  exact wR
 have g3':¬(500:Int)<(b.length:Nat):=by omega
 have hb:b.length≤500:=by omega
 by_cases w3:way=3
 ·subst w3
  by_cases hn:n<0
  ·(refine fnS (imm:=imm5) ttF_ok func5 ?_;(conv=>whnf))
   exact wR
  ·exact c5_3 n hn b hb H
 by_cases w4:way=4
 ·subst w4;exact c5_4 n b hb H
 by_cases w5:way=5
 ·subst w5;exact c5_5 n b hb H
 ·have w6:way=6:=by omega
  subst w6;exact c5_6 n b hb H
theorem rdInt {B n:Nat} {ps:List PV} (h:RdP prog B (n+1) 3 ps):∃i,ps=[.int .i64 i]∧(Lit.int .i64 i).wf=true:=h
end Go.Proofs.Tryz
