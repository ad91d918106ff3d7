import Derived.Test.YtdnggpdgijobfaaGreatDoorA5
import Derived.Test.YtdnggpdgijobfaaGreatDoorA4
import Derived.Test.YtdnggpdgijobfaaGreatDoorA1
import Derived.Test.YtdnggpdgijobfaaGreatDoorCards
import Derived.Test.YtdnggpdgijobfaaGreatDoorTie
import Derived.WalkKit
import Derived.ProofKit
import Derived.OpenShut
import Derived.Deep.DeepHandedRow
import Derived.Lib.LaidTab
import Derived.Test.YtdnggpdgijobfaaGreatDoorA3
set_option linter.all false
set_option maxRecDepth 100000
set_option maxHeartbeats 4000000
namespace Go.Proofs.Tryz
open Go Ps
theorem lastE_congr {f g:Ent→Bool} {l:List Ent} (h:∀e∈l,f e=g e):lastE f l=lastE g l:=by
 have:∀m:List Ent,(∀e∈m,f e=g e)→m.find? f=m.find? g:=by
  intro m
  induction m with
  | nil=>intro _;rfl
  | cons x m ih =>
   intro hm
   rw [List.find?_cons,List.find?_cons,hm x (by simp),ih fun e he=>hm e (by simp [he])]
 exact this _ fun e he=>h e (List.mem_reverse.1 he)
theorem Small.isK {l:List Ent} (h:Small l 5) (r n:List UInt8):lastE (isK r n 1) l=lastE (isP r n) l:=by
 refine lastE_congr fun e he=>?_
 obtain ⟨_,_,_,_,hkv,_⟩:=h.mem he
 show (isP r n e&&decide ((e.kv:Int)=1))=isP r n e
 rw [decide_eq_true (by rw [hkv];rfl),Bool.and_true]
theorem autL_784 {a:Aut} (h:isAutB a=true):(autL a).length≤784:=by
 have h0:=aut_len a
 unfold isAutB at h
 simp only [Bool.and_eq_true] at h
 have gp:=princ_len h.1.1
 omega
theorem shown_sealed {realm:List UInt8} {l:List Ent} {tr tn:List UInt8} {kv:Int} {e:Ent} (hL:lastE (isK tr tn kv) l=some e) (htn:tn=krb realm) (m:Int) (hm0:0≤m) (hm1:m≤1099511627776) {p:Prt} (hP:isPartB p=true) (now:Int) :
  ∃p':Prt,p'.same p∧shownV realm l tr tn kv (sealK e.key 2 m (partL p)) now=if p.en<now then (zPrt,7) else if now+5<p.st then (zPrt,8) else (p',0):=by
 have hop:=open_seal e.key 2 m (partL p) hm0 hm1 (partL_784 hP)
 have hsm:=partC_laid p hP
 have hok:okPrt (partC (partL p)) (partL p)=true:=by rw [okPrt_same hsm];exact okPrt_iff.2 ⟨hP,partL_le hP,rfl⟩
 have hg:gPPrt (partC (partL p)) (partL p)=partC (partL p):=if_pos hok
 have hg0:gEPrt (partC (partL p)) (partL p)=0:=if_pos hok
 refine ⟨partC (partL p),hsm,?_⟩
 unfold shownV
 rw [decide_eq_true htn,hL]
 dsimp only
 rw [hop]
 dsimp only
 rw [hg0,hg,decide_eq_true rfl]
 dsimp only
 obtain ⟨_,_,_,_,hst,hen⟩:=hsm
 rw [hst,hen]
 by_cases h1:p.en<now
 ·rw [if_pos h1,decide_eq_true h1]
 ·rw [if_neg h1,decide_eq_false h1]
  dsimp only
  by_cases h2:now+5<p.st
  ·rw [if_pos h2,decide_eq_true h2]
  ·rw [if_neg h2,decide_eq_false h2]
theorem proves_sealed (key:List UInt8) (p:Prt) (m:Int) (hm0:0≤m) (hm1:m≤1099511627776) {a:Aut} (hA:isAutB a=true) (now:Int) :
  provesV key p (sealK key 7 m (autL a)) now=if a.r=p.r∧a.n=p.n then (if now+5<a.tm∨a.tm<now - 5 then 8 else 0) else 9:=by
 have hop:=open_seal key 7 m (autL a) hm0 hm1 (autL_784 hA)
 have hsm:=autC_laid a hA
 have hok:okAut (autC (autL a)) (autL a)=true:=by rw [okAut_same hsm];exact okAut_iff.2 ⟨hA,autL_le hA,rfl⟩
 have hg:gPAut (autC (autL a)) (autL a)=autC (autL a):=if_pos hok
 have hg0:gEAut (autC (autL a)) (autL a)=0:=if_pos hok
 unfold provesV
 rw [hop]
 dsimp only
 rw [hg0,hg,decide_eq_true rfl]
 dsimp only
 obtain ⟨h1,h2,h3,_⟩:=hsm
 rw [h1,h2,h3]
 by_cases k1:a.r=p.r∧a.n=p.n
 ·rw [if_pos k1,decide_eq_true k1]
  dsimp only
  by_cases k2:now+5<a.tm∨a.tm<now - 5
  ·rw [if_pos k2,decide_eq_true k2]
  ·rw [if_neg k2,decide_eq_false k2]
 ·rw [if_neg k1,decide_eq_false k1]
def qT (p:Prt) (a:Aut) (till:Int):TgQ:=⟨aedu,krb aedu,1,sealK (keyN 10) 2 77 (partL p),sealK (keyB p.k) 7 78 (autL a),aedu,mail,till,4⟩
theorem prMail:isPrincB aedu mail=true:=by kernel_rfl
theorem qT_ok {p:Prt} {a:Aut} {till:Int} (hP:isPartB p=true) (hA:isAutB a=true) (h1:0≤till) (h2:till≤1073741824):(qT p a till).ok=true:=by
 have g1:=partL_784 hP
 have g2:=autL_784 hA
 have g3:=lePrt p
 have g4:=leAut a
 have e1:tickB aedu (krb aedu) 1 (sealK (keyN 10) 2 77 (partL p)).length=true:=by
  unfold tickB
  rw [prTgt,show inZ 1 1 255=true by decide,sealK_len,inZ_of (by omega) (by omega)];rfl
 have e2:inZ ((sealK (keyB p.k) 7 78 (autL a)).length:Int) 1 800=true:=by rw [sealK_len];exact inZ_of (by omega) (by omega)
 show (tickB aedu (krb aedu) 1 (sealK (keyN 10) 2 77 (partL p)).length&&inZ ((sealK (keyB p.k) 7 78 (autL a)).length:Int) 1 800&&isPrincB aedu mail&&inZ till 0 1073741824&&inZ 4 0 1073741824)=true
 rw [e1,e2,prMail,inZ_of h1 h2];rfl
theorem qT_fit {p:Prt} {a:Aut} (till:Int) (hP:isPartB p=true) (hA:isAutB a=true):(qT p a till).fit:=by
 have g1:=partL_784 hP
 have g2:=autL_784 hA
 refine ⟨?_,?_,?_,?_,?_,?_⟩
 ·show aedu.length≤_;decide
 ·show (krb aedu).length≤_;decide
 ·show aedu.length≤_;decide
 ·show mail.length≤_;decide
 ·show (sealK (keyN 10) 2 77 (partL p)).length≤_;rw [sealK_len];omega
 ·show (sealK (keyB p.k) 7 78 (autL a)).length≤_;rw [sealK_len];omega
theorem target_mail {l:List Ent} (h:Small l 5):targetV aedu l mail=((aedu,mail),0):=by
 obtain ⟨s,hS,_⟩:=h.some (x:=((aedu,mail),14)) (by decide)
 unfold targetV
 rw [show lastE (isP aedu mail) l=Option.some s from hS]
theorem tgsT {l:List Ent} (h:Small l 5) (n:Int) {p:Prt} {a:Aut} {till now:Int} (draw:Nat→UInt8) (hP:isPartB p=true) (hA:isAutB a=true) (h1:0≤till) (h2:till≤1073741824) (h3:0≤now) (h4:now≤1073741824) :
  ∃p':Prt,p'.same p∧tgsV aedu l n (qT p a till) now draw (targetV aedu l mail) (fun p=>(p.tr,0)) =
   if p.en<now then (repZ,7) else if now+5<p.st then (repZ,8) else if ¬(a.r=p.r∧a.n=p.n) then (repZ,9) else if now+5<a.tm∨a.tm<now - 5 then (repZ,8) else if till<now then (repZ,7) else
    (⟨p.r,p.n,aedu,mail,1,sealK (keyN 14) 2 (n+1) (partL ⟨p.r,p.n,draw,p.tr,now,min till p.en⟩),sealK (keyB p.k) 8 (n+2) (rptL ⟨draw,aedu,mail,now,min till p.en,4⟩)⟩,0):=by
 obtain ⟨e,hE,hkv,hk,_⟩:=h.some (x:=((aedu,krb aedu),10)) (by decide)
 obtain ⟨s,hS,hskv,hsk,_⟩:=h.some (x:=((aedu,mail),14)) (by decide)
 have hL:lastE (isK aedu (krb aedu) 1) l=Option.some e:=by rw [h.isK];exact hE
 obtain ⟨p',hsm,hsh⟩:=shown_sealed hL rfl 77 (by decide) (by decide) hP now
 rw [hk] at hsh
 have hl:=late_no h3 h4
 have hq:=qT_ok (till:=till) hP hA h1 h2
 have hpv:=proves_sealed (keyB p.k) p' 78 (by decide) (by decide) hA now
 obtain ⟨e1,e2,e3,e4,e5,e6⟩:=hsm
 rw [e1,e2] at hpv
 refine ⟨p',⟨e1,e2,e3,e4,e5,e6⟩,?_⟩
 have hsh':shownV aedu l (qT p a till).tr (qT p a till).tn (qT p a till).kv (qT p a till).tb now=if p.en<now then (zPrt,7) else if now+5<p.st then (zPrt,8) else (p',0):=hsh
 have hpv':provesV (keyB p'.k) p' (qT p a till).ab now=if a.r=p.r∧a.n=p.n then (if now+5<a.tm∨a.tm<now - 5 then 8 else 0) else 9:=by rw [e3];exact hpv
 by_cases c1:p.en<now
 ·rw [if_pos c1] at hsh' ⊢
  exact tgs_2 hl hq hsh' (by decide)
 rw [if_neg c1] at hsh' ⊢
 by_cases c2:now+5<p.st
 ·rw [if_pos c2] at hsh' ⊢
  exact tgs_2 hl hq hsh' (by decide)
 rw [if_neg c2] at hsh' ⊢
 by_cases c3:a.r=p.r∧a.n=p.n
 ·rw [if_neg (not_not_intro c3)]
  rw [if_pos c3] at hpv'
  by_cases c4:now+5<a.tm∨a.tm<now - 5
  ·rw [if_pos c4] at hpv' ⊢
   rw [tgs_3 hl hq hsh' (by rw [hpv'];decide),hpv']
  ·rw [if_neg c4] at hpv' ⊢
   have hT:(targetV aedu l mail).2=0:=by rw [target_mail h]
   by_cases c5:till<now
   ·rw [if_pos c5]
    exact tgs_6 hl hq hsh' hpv' hT rfl c5
   ·rw [if_neg c5,tgs_7 hl hq hsh' hpv' hT rfl c5,target_mail h]
    dsimp only
    rw [e1,e2,e4,e6,e3]
    have hB:isPrincB p.r p.n=true∧isTextB p.tr=true∧0≤p.en∧p.en≤1073741824:=by
     unfold isPartB at hP
     simp only [Bool.and_eq_true] at hP
     exact ⟨hP.1.1,hP.1.2,(inZ_le hP.2.2).1,(inZ_le hP.2.2).2⟩
    have hx1:isPartB ⟨p.r,p.n,draw,p.tr,now,min till p.en⟩=true:=by
     show (isPrincB p.r p.n&&isTextB p.tr&&(inZ now 0 1073741824&&inZ (min till p.en) 0 1073741824))=true
     rw [hB.1,hB.2.1,inZ_of h3 h4,inZ_of (by omega) (by omega)];rfl
    have hx2:isRptB ⟨draw,aedu,mail,now,min till p.en,4⟩=true:=by
     show (isPrincB aedu mail&&(inZ now 0 1073741824&&inZ (min till p.en) 0 1073741824)&&inZ 4 0 1073741824)=true
     rw [prMail,inZ_of h3 h4,inZ_of (by omega) (by omega)];rfl
    unfold makeV
    rw [show lastE (isP aedu mail) l=Option.some s from hS]
    have hx:(isPartB ⟨p.r,p.n,draw,p.tr,now,min (qT p a till).till p.en⟩&&isRptB (rptOf ⟨p.r,p.n,draw,p.tr,now,min (qT p a till).till p.en⟩ aedu mail (qT p a till).nonce))=true:=by rw [show (isPartB ⟨p.r,p.n,draw,p.tr,now,min (qT p a till).till p.en⟩)=true from hx1];exact hx2
    simp only [hx]
    rw [hsk,hskv]
    rfl
 ·rw [if_pos c3]
  rw [if_neg c3] at hpv'
  rw [tgs_3 hl hq hsh' (by rw [hpv'];decide),hpv']
def ttT4:TT:=[(3,⟨.int .i64,1,8,[.int .i64 0]⟩),(4,⟨.bool,1,1,[.bool false]⟩),(5,⟨.int .u8,1,1,[.int .u8 0]⟩),(9,⟨.str,1,16,[.str []]⟩),(22,⟨.ptr,1,8,[.ptr none]⟩),(25,⟨.strct [(9,0),(9,1)],2,32,[.str [],.str []]⟩),(26,⟨.slice 5,1,24,[.slice 0 [] (some 5)]⟩),(28,⟨.strct [(25,0),(3,2),(26,3)],4,64,[.str [],.str [],.int .i64 0,.slice 0 [] (some 5)]⟩),(30,⟨.strct [(25,0),(28,2),(26,6)],7,120,[.str [],.str [],.str [],.str [],.int .i64 0,.slice 0 [] (some 5),.slice 0 [] (some 5)]⟩),(31,⟨.int .i64,1,8,[.int .i64 0]⟩),(33,⟨.ptr,1,8,[.ptr none]⟩),(34,⟨.ptr,1,8,[.ptr none]⟩),(36,⟨.strct [(33,0),(34,1)],2,16,[.ptr none,.ptr none]⟩),(43,⟨.arr 32 5,32,32,List.replicate 32 (.int .u8 0)⟩),(50,⟨.strct [(25,0),(43,2),(9,34),(3,35),(3,36)],37,96,[.str [],.str []]++List.replicate 32 (.int .u8 0)++[.str [],.int .i64 0,.int .i64 0]⟩),(64,⟨.strct [(28,0),(26,4),(25,5),(3,7),(3,8)],9,136,[.str [],.str [],.int .i64 0,.slice 0 [] (some 5),.slice 0 [] (some 5),.str [],.str [],.int .i64 0,.int .i64 0]⟩),(68,⟨.strct [(25,0),(3,2),(3,3)],4,48,[.str [],.str [],.int .i64 0,.int .i64 0]⟩)]
theorem ttT4_ok:ttOk prog ttT4=true:=by kernel_rfl
def imm28t:List Nat:=[6,7,8,9,10]
def z64:PObj:=⟨64,[.str [],.str [],.int .i64 0,.slice 0 [] (some 5),.slice 0 [] (some 5),.str [],.str [],.int .i64 0,.int .i64 0],0⟩
theorem z64T:z64.T≠keyT∧z64.T≠boxT:=⟨fun h=>absurd (show 64=keyT from h) (by decide),fun h=>absurd (show 64=boxT from h) (by decide)⟩
theorem c28x (r0 n0:List UInt8) (kn:UInt8) {p:Prt} {a:Aut} (hP:isPartB p=true) (hA:isAutB a=true) (sr sn:List UInt8) (till:Int) (H:PH) :
  CK prog 28 [.agg [.str r0,.str n0],.agg ((keyN kn).map bC),.agg p.cells,.agg a.cells,.agg [.str sr,.str sn],.int .i64 till] H fun x H' =>
   x=.tup [.agg (⟨r0,n0,1,sealK (keyN kn) 2 77 (partL p),sealK (keyB p.k) 7 78 (autL a),sr,sn,till,4⟩:TgQ).cells,.bool true]∧Evo (fun _=>False) H H':=by
 obtain ⟨g1,g2,g3⟩:=prPrt hP
 obtain ⟨g4,g5⟩:=prAut hA
 have k62:=c62s p g1 g2 g3
 rw [(ebPrt hP).1,(ebPrt hP).2] at k62
 have k33:=c33s a g4 g5
 rw [(ebAut hA).1,(ebAut hA).2] at k33
 have k34a:Pure prog 34 [.agg ((keyN kn).map bC),.int .i64 2,.int .i64 77,sl (partL p)] (.tup [ow (sealK (keyN kn) 2 77 (partL p)),.int .i64 0]):=c34 (keyN kn) (keyN_len kn) 2 77 rfl (by decide) (by decide) (partL p) (partL_784 hP)
 have k34b:Pure prog 34 [.agg ((keyB p.k).map bC),.int .i64 7,.int .i64 78,sl (autL a)] (.tup [ow (sealK (keyB p.k) 7 78 (autL a)),.int .i64 0]):=c34 (keyB p.k) rfl 7 78 rfl (by decide) (by decide) (autL a) (autL_784 hA)
 generalize sealK (keyN kn) 2 77 (partL p)=b1 at *
 generalize sealK (keyB p.k) 7 78 (autL a)=b2 at *
 (refine fnS (imm:=imm28t) ttT4_ok func28 ?_;(conv=>whnf))
 (repeat (first | ((first | (apply exA;(focus exact oN)) | refine ⟨fun _=>?_,fun h=>absurd (by first | assumption | rfl | decide | omega) h⟩ | refine ⟨fun h=>absurd h (by first | assumption | rfl | decide | omega),fun _=>?_⟩ | refine And.intro ⟨by exact fitS,by exact fitS⟩ ⟨fun _=>?_,fun h=>absurd (by first | assumption | rfl | decide | omega) h⟩ | refine And.intro ⟨by exact fitS,by exact fitS⟩ ⟨fun h=>absurd h (by first | assumption | rfl | decide | omega),fun _=>?_⟩ | (apply cP;(focus assumption)) | (apply cE;(focus assumption)) | refine ⟨by first | decide | omega,?_⟩);((conv=>whnf))) | ((conv in (_[_]?)=>tactic=>first | exact oL | exact gS (by assumption));(conv=>whnf))))
 exact ⟨rfl,(Evo.app H _).put (gL H _) z64T.1 z64T.2 (Nat.le_refl _) _⟩
theorem c29r {H:PH} {kid rid:Nat} {realm:List UInt8} {rs ls ps:PV} {l:List Ent} {n i:Nat} (hK:Kd H kid rid realm rs ls ps l n i) (hn:n≤100000) (hi:i≤100000) (hrl:realm.length≤1000000) (q:TgQ) (hf:q.fit) (hs:q.sr=realm) (ht:q.tr=realm) (now:Int) (draw:Nat→UInt8) :
  CK prog 29 [.ptr (some (kid,0)),.agg q.cells,.int .i64 now,.agg (keyC draw)] H fun x H' =>
   x=.tup [.agg (tgsV realm l n q now draw (targetV realm l q.sn) (fun p=>(p.tr,0))).1.cells,.int .i64 (tgsV realm l n q now draw (targetV realm l q.sn) (fun p=>(p.tr,0))).2] ∧
   Kd H' kid rid realm rs ls ps l (bump (tgsV realm l n q now draw (targetV realm l q.sn) (fun p=>(p.tr,0))) n 2) (bump (tgsV realm l n q now draw (targetV realm l q.sn) (fun p=>(p.tr,0))) i 1)∧Evo (·=kid) H H':=by
 have hl:(targetV realm l q.sn).1.1.length≤1000000∧(targetV realm l q.sn).1.2.length≤1000000:=by
  have:=hf.sn
  unfold targetV
  split
  ·exact ⟨Nat.zero_le _,Nat.zero_le _⟩
  ·exact ⟨hrl,this⟩
 refine c29g hK hn hi hrl q hf now draw (targetV realm l q.sn) hl.1 hl.2 (fun p=>(p.tr,0)) (fun X hX=>?_) (fun p hp=>(prPrt hp).2.2) (fun X p hp hX=>?_)
 ·rw [hs];exact c68r hX q.sn
 ·exact c69r hX p q.tr q.sr (.inl ht)
theorem tgsT2 {l:List Ent} (h:Small l 5) (n:Int) {p:Prt} {a:Aut} {till now:Int} (draw:Nat→UInt8) (hP:isPartB p=true) (hA:isAutB a=true) (h1:0≤till) (h2:till≤1073741824) (h3:0≤now) (h4:now≤1073741824) :
  ∃b1 b2:List UInt8,b1=sealK (keyN 14) 2 (n+1) (partL ⟨p.r,p.n,draw,p.tr,now,min till p.en⟩)∧tgsV aedu l n (qT p a till) now draw (targetV aedu l mail) (fun p=>(p.tr,0)) =
   if p.en<now then (repZ,7) else if now+5<p.st then (repZ,8) else if ¬(a.r=p.r∧a.n=p.n) then (repZ,9) else if now+5<a.tm∨a.tm<now - 5 then (repZ,8) else if till<now then (repZ,7) else (⟨p.r,p.n,aedu,mail,1,b1,b2⟩,0):=by
 obtain ⟨_,_,hR⟩:=tgsT h n draw hP hA h1 h2 h3 h4
 exact ⟨_,_,rfl,hR⟩
set_option maxHeartbeats 8000000
def pS:Prt:=⟨aedu,ann,drawN 5,[],0,100⟩
def imm11t:List Nat:=[]
def D11b (n:Nat):Draw:={ imp:=[7,12],robs:=[z30],res:=[(11,0)],base:=n,win:=[(8,1,1),(9,1,1),(10,1,2),(11,0,1),(12,1,1),(13,2,2)] }
theorem c11t (st en till now:Int) (H:PH):CK prog 11 [.int .i64 st,.int .i64 en,.int .i64 till,.int .i64 now] H fun r _=>r=.bool true:=by
 (refine fnS (imm:=imm11t) ttT4_ok func11 ?_;(conv=>whnf))
 by_cases h1:st<0
 ·(repeat (first | ((first | (apply exA;(focus exact oN)) | refine ⟨fun _=>?_,fun h=>absurd (by first | assumption | rfl | decide | omega) h⟩ | refine ⟨fun h=>absurd h (by first | assumption | rfl | decide | omega),fun _=>?_⟩ | refine And.intro ⟨by exact fitS,by exact fitS⟩ ⟨fun _=>?_,fun h=>absurd (by first | assumption | rfl | decide | omega) h⟩ | refine And.intro ⟨by exact fitS,by exact fitS⟩ ⟨fun h=>absurd h (by first | assumption | rfl | decide | omega),fun _=>?_⟩ | (apply cP;(focus assumption)) | (apply cE;(focus assumption)) | refine ⟨by first | decide | omega,?_⟩);((conv=>whnf))) | ((conv in (_[_]?)=>tactic=>first | exact oL | exact gS (by assumption));(conv=>whnf))));rfl
 by_cases h2:200<st
 ·(repeat (first | ((first | (apply exA;(focus exact oN)) | refine ⟨fun _=>?_,fun h=>absurd (by first | assumption | rfl | decide | omega) h⟩ | refine ⟨fun h=>absurd h (by first | assumption | rfl | decide | omega),fun _=>?_⟩ | refine And.intro ⟨by exact fitS,by exact fitS⟩ ⟨fun _=>?_,fun h=>absurd (by first | assumption | rfl | decide | omega) h⟩ | refine And.intro ⟨by exact fitS,by exact fitS⟩ ⟨fun h=>absurd h (by first | assumption | rfl | decide | omega),fun _=>?_⟩ | (apply cP;(focus assumption)) | (apply cE;(focus assumption)) | refine ⟨by first | decide | omega,?_⟩);((conv=>whnf))) | ((conv in (_[_]?)=>tactic=>first | exact oL | exact gS (by assumption));(conv=>whnf))));rfl
 by_cases h3:en<0
 ·(repeat (first | ((first | (apply exA;(focus exact oN)) | refine ⟨fun _=>?_,fun h=>absurd (by first | assumption | rfl | decide | omega) h⟩ | refine ⟨fun h=>absurd h (by first | assumption | rfl | decide | omega),fun _=>?_⟩ | refine And.intro ⟨by exact fitS,by exact fitS⟩ ⟨fun _=>?_,fun h=>absurd (by first | assumption | rfl | decide | omega) h⟩ | refine And.intro ⟨by exact fitS,by exact fitS⟩ ⟨fun h=>absurd h (by first | assumption | rfl | decide | omega),fun _=>?_⟩ | (apply cP;(focus assumption)) | (apply cE;(focus assumption)) | refine ⟨by first | decide | omega,?_⟩);((conv=>whnf))) | ((conv in (_[_]?)=>tactic=>first | exact oL | exact gS (by assumption));(conv=>whnf))));rfl
 by_cases h4:200<en
 ·(repeat (first | ((first | (apply exA;(focus exact oN)) | refine ⟨fun _=>?_,fun h=>absurd (by first | assumption | rfl | decide | omega) h⟩ | refine ⟨fun h=>absurd h (by first | assumption | rfl | decide | omega),fun _=>?_⟩ | refine And.intro ⟨by exact fitS,by exact fitS⟩ ⟨fun _=>?_,fun h=>absurd (by first | assumption | rfl | decide | omega) h⟩ | refine And.intro ⟨by exact fitS,by exact fitS⟩ ⟨fun h=>absurd h (by first | assumption | rfl | decide | omega),fun _=>?_⟩ | (apply cP;(focus assumption)) | (apply cE;(focus assumption)) | refine ⟨by first | decide | omega,?_⟩);((conv=>whnf))) | ((conv in (_[_]?)=>tactic=>first | exact oL | exact gS (by assumption));(conv=>whnf))));rfl
 by_cases h5:till<0
 ·(repeat (first | ((first | (apply exA;(focus exact oN)) | refine ⟨fun _=>?_,fun h=>absurd (by first | assumption | rfl | decide | omega) h⟩ | refine ⟨fun h=>absurd h (by first | assumption | rfl | decide | omega),fun _=>?_⟩ | refine And.intro ⟨by exact fitS,by exact fitS⟩ ⟨fun _=>?_,fun h=>absurd (by first | assumption | rfl | decide | omega) h⟩ | refine And.intro ⟨by exact fitS,by exact fitS⟩ ⟨fun h=>absurd h (by first | assumption | rfl | decide | omega),fun _=>?_⟩ | (apply cP;(focus assumption)) | (apply cE;(focus assumption)) | refine ⟨by first | decide | omega,?_⟩);((conv=>whnf))) | ((conv in (_[_]?)=>tactic=>first | exact oL | exact gS (by assumption));(conv=>whnf))));rfl
 by_cases h6:200<till
 ·(repeat (first | ((first | (apply exA;(focus exact oN)) | refine ⟨fun _=>?_,fun h=>absurd (by first | assumption | rfl | decide | omega) h⟩ | refine ⟨fun h=>absurd h (by first | assumption | rfl | decide | omega),fun _=>?_⟩ | refine And.intro ⟨by exact fitS,by exact fitS⟩ ⟨fun _=>?_,fun h=>absurd (by first | assumption | rfl | decide | omega) h⟩ | refine And.intro ⟨by exact fitS,by exact fitS⟩ ⟨fun h=>absurd h (by first | assumption | rfl | decide | omega),fun _=>?_⟩ | (apply cP;(focus assumption)) | (apply cE;(focus assumption)) | refine ⟨by first | decide | omega,?_⟩);((conv=>whnf))) | ((conv in (_[_]?)=>tactic=>first | exact oL | exact gS (by assumption));(conv=>whnf))));rfl
 by_cases h7:now<0
 ·(repeat (first | ((first | (apply exA;(focus exact oN)) | refine ⟨fun _=>?_,fun h=>absurd (by first | assumption | rfl | decide | omega) h⟩ | refine ⟨fun h=>absurd h (by first | assumption | rfl | decide | omega),fun _=>?_⟩ | refine And.intro ⟨by exact fitS,by exact fitS⟩ ⟨fun _=>?_,fun h=>absurd (by first | assumption | rfl | decide | omega) h⟩ | refine And.intro ⟨by exact fitS,by exact fitS⟩ ⟨fun h=>absurd h (by first | assumption | rfl | decide | omega),fun _=>?_⟩ | (apply cP;(focus assumption)) | (apply cE;(focus assumption)) | refine ⟨by first | decide | omega,?_⟩);((conv=>whnf))) | ((conv in (_[_]?)=>tactic=>first | exact oL | exact gS (by assumption));(conv=>whnf))));rfl
 by_cases h8:200<now
 ·(repeat (first | ((first | (apply exA;(focus exact oN)) | refine ⟨fun _=>?_,fun h=>absurd (by first | assumption | rfl | decide | omega) h⟩ | refine ⟨fun h=>absurd h (by first | assumption | rfl | decide | omega),fun _=>?_⟩ | refine And.intro ⟨by exact fitS,by exact fitS⟩ ⟨fun _=>?_,fun h=>absurd (by first | assumption | rfl | decide | omega) h⟩ | refine And.intro ⟨by exact fitS,by exact fitS⟩ ⟨fun h=>absurd h (by first | assumption | rfl | decide | omega),fun _=>?_⟩ | (apply cP;(focus assumption)) | (apply cE;(focus assumption)) | refine ⟨by first | decide | omega,?_⟩);((conv=>whnf))) | ((conv in (_[_]?)=>tactic=>first | exact oL | exact gS (by assumption));(conv=>whnf))));rfl
 (repeat (first | ((first | (apply exA;(focus exact oN)) | refine ⟨fun _=>?_,fun h=>absurd (by first | assumption | rfl | decide | omega) h⟩ | refine ⟨fun h=>absurd h (by first | assumption | rfl | decide | omega),fun _=>?_⟩ | refine And.intro ⟨by exact fitS,by exact fitS⟩ ⟨fun _=>?_,fun h=>absurd (by first | assumption | rfl | decide | omega) h⟩ | refine And.intro ⟨by exact fitS,by exact fitS⟩ ⟨fun h=>absurd h (by first | assumption | rfl | decide | omega),fun _=>?_⟩ | (apply cP;(focus assumption)) | (apply cE;(focus assumption)) | refine ⟨by first | decide | omega,?_⟩);((conv=>whnf))) | ((conv in (_[_]?)=>tactic=>first | exact oL | exact gS (by assumption));(conv=>whnf))))
 refine cO (c15x H) ?_
 rintro _ X ⟨kid,xid,pid,l,v,rfl,hsm,hinc,hK,hxk,hxr,hp,hev⟩
 conv=>whnf
 have k1:Pure prog 18 [.str aedu,.str aedu] (.agg [.str aedu,.str (krb aedu)]):=c18 _ _ (by decide)
 have k3:=c17
 have k4:=c27
 have k10:=c19 10
 have k5:=c19 5
 have k6:=c19 6
 have hlp:pid<X.length:=(List.getElem?_eq_some_iff.1 hp).1
 have hlk:kid<X.length:=by obtain ⟨v,hv⟩:=hK.k;exact (List.getElem?_eq_some_iff.1 hv).1
 have hpk:pid≠kid:=by
  rintro rfl
  obtain ⟨w,hw⟩:=hK.k
  rw [hp] at hw
  exact absurd (congrArg (fun o=>o.map PObj.T) hw) (by intro h;exact absurd (Option.some.inj h) (show ¬36=134 by decide))
 have last:∀(H:PH) (K:PV→PH→Prop),(∀H',K (.bool true) H')→callK prog 21 [] H K:=fun H K h=>cO (c21 H) fun r H' hr=>by rw [hr];exact h H'
 have w5:IntKind.i64.wrap (now+5)=now+5:=w64 (by omega) (by omega)
 obtain ⟨pS,hpS⟩:∃p:Prt,p=⟨aedu,ann,drawN 5,[],st,en⟩:=⟨_,rfl⟩
 obtain ⟨aT,haT⟩:∃a:Aut,a=⟨aedu,ann,now,0⟩:=⟨_,rfl⟩
 have hP:isPartB pS=true:=by
  rw [hpS]
  show (isPrincB aedu ann&&isTextB []&&(inZ st 0 1073741824&&inZ en 0 1073741824))=true
  rw [prAnn,inZ_of (by omega) (by omega),inZ_of (by omega) (by omega)];rfl
 have hA:isAutB aT=true:=by
  rw [haT]
  show (isPrincB aedu ann&&inZ now 0 1073741824&&inZ 0 0 1073741824)=true
  rw [prAnn,inZ_of (by omega) (by omega)];rfl
 (repeat (first | ((first | (apply exA;(focus exact oN)) | refine ⟨fun _=>?_,fun h=>absurd (by first | assumption | rfl | decide | omega) h⟩ | refine ⟨fun h=>absurd h (by first | assumption | rfl | decide | omega),fun _=>?_⟩ | refine And.intro ⟨by exact fitS,by exact fitS⟩ ⟨fun _=>?_,fun h=>absurd (by first | assumption | rfl | decide | omega) h⟩ | refine And.intro ⟨by exact fitS,by exact fitS⟩ ⟨fun h=>absurd h (by first | assumption | rfl | decide | omega),fun _=>?_⟩ | (apply cP;(focus assumption)) | (apply cE;(focus assumption)) | refine ⟨by first | decide | omega,?_⟩);((conv=>whnf))) | ((conv in (_[_]?)=>tactic=>first | exact oL | exact gS (by assumption));(conv=>whnf))))
 refine cA (args':=[.agg [.str aedu,.str (krb aedu)],.agg ((keyN 10).map bC),.agg pS.cells,.agg aT.cells,.agg [.str aedu,.str mail],.int .i64 till]) (by rw [hpS,haT];rfl) (cO (c28x aedu (krb aedu) 10 hP hA aedu mail till _) ?_)
 rintro _ Y1 ⟨rfl,e1⟩
 conv=>whnf
 (repeat (first | ((first | (apply exA;(focus exact oN)) | refine ⟨fun _=>?_,fun h=>absurd (by first | assumption | rfl | decide | omega) h⟩ | refine ⟨fun h=>absurd h (by first | assumption | rfl | decide | omega),fun _=>?_⟩ | refine And.intro ⟨by exact fitS,by exact fitS⟩ ⟨fun _=>?_,fun h=>absurd (by first | assumption | rfl | decide | omega) h⟩ | refine And.intro ⟨by exact fitS,by exact fitS⟩ ⟨fun h=>absurd h (by first | assumption | rfl | decide | omega),fun _=>?_⟩ | (apply cP;(focus assumption)) | (apply cE;(focus assumption)) | refine ⟨by first | decide | omega,?_⟩);((conv=>whnf))) | ((conv in (_[_]?)=>tactic=>first | exact oL | exact gS (by assumption));(conv=>whnf))))
 obtain ⟨Z,hZ⟩:∃Z,Z=(Y1++[z64]).set Y1.length (⟨64,(qT pS aT till).cells,1⟩:PObj):=⟨_,rfl⟩
 have eZ:Evo (fun _=>False) X Z:=by rw [hZ];exact (e1.trans (Evo.app _ _)).put (gL Y1 _) z64T.1 z64T.2 e1.len _
 have hqZ:Z[Y1.length]? = some (⟨64,(qT pS aT till).cells,1⟩:PObj):=by rw [hZ];exact gS (gL Y1 _)
 have hpZ:=eZ.look hp id (o36T _ _).1 (o36T _ _).2
 have eZ1:Evo (fun _=>False) Z (Z++[z30]):=Evo.app Z _
 have hqZ1:=eZ1.look hqZ id z64T.1 z64T.2
 have hpZ1:=eZ1.look hpZ id (o36T _ _).1 (o36T _ _).2
 refine drawK_at hZ.symm ?_
 obtain ⟨b1,b2,hb1,hR⟩:=tgsT2 hsm ((0:Nat):Int) (p:=pS) (a:=aT) (till:=till) (now:=now) (drawN 6) hP hA (by omega) (by omega) (by omega) (by omega)
 by_cases c1:en<now
 ·rw [if_pos (show pS.en<now by rw [hpS];exact c1)] at hR
  obtain ⟨R,hRd⟩:∃R:RepO×Int,R=(repZ,7):=⟨_,rfl⟩
  rw [←hRd] at hR
  refine drawK_call 7 (D11b Z.length) _ (Z++[z30]) (by kernel_rfl) rfl ⟨rfl,rfl⟩ ⟨⟨rfl,rfl⟩,trivial⟩ ?_
  conv=>whnf
  (repeat (first | ((first | (apply exA;(focus exact oN)) | refine ⟨fun _=>?_,fun h=>absurd (by first | assumption | rfl | decide | omega) h⟩ | refine ⟨fun h=>absurd h (by first | assumption | rfl | decide | omega),fun _=>?_⟩ | refine And.intro ⟨by exact fitS,by exact fitS⟩ ⟨fun _=>?_,fun h=>absurd (by first | assumption | rfl | decide | omega) h⟩ | refine And.intro ⟨by exact fitS,by exact fitS⟩ ⟨fun h=>absurd h (by first | assumption | rfl | decide | omega),fun _=>?_⟩ | (apply cP;(focus assumption)) | (apply cE;(focus assumption)) | refine ⟨by first | decide | omega,?_⟩);((conv=>whnf))) | ((conv in (_[_]?)=>tactic=>first | exact oL | exact gS (by assumption));(conv=>whnf))))
  refine cA (args':=[.ptr (some (kid,0)),.agg (qT pS aT till).cells,.int .i64 now,.agg (keyC (drawN 6))]) rfl (cO (c29r (hK.evo (eZ.trans eZ1) id id) (by decide) (by decide) (by decide) (qT pS aT till) (qT_fit till hP hA) rfl rfl now (drawN 6)) ?_)
  rintro _ Z1 ⟨rfl,hK1,e2⟩
  have hRR:tgsV aedu l ((0:Nat):Int) (qT pS aT till) now (drawN 6) (targetV aedu l (qT pS aT till).sn) (fun p=>(p.tr,0))=R:=hR
  rw [hRR] at hK1 ⊢
  have hz2:Z1[Z.length]? = some z30:=e2.look (gL Z _) (by have:=eZ.len;show ¬Z.length=kid;omega) z30T.1 z30T.2
  refine ⟨[Z++[z30],Z1,Z1.set Z.length (⟨30,R.1.cells,1⟩:PObj)],rfl,?_⟩
  have hlZ:=eZ.len
  have hrl:H.length<X.length:=by have:=hK.ring.ex.choose_spec;exact (List.getElem?_eq_some_iff.1 this).1
  have e3:∀o,Evo (·=Z.length) Z1 (Z1.set Z.length o):=fun o=>Evo.setOther hz2 rfl z30T.1 z30T.2
  have hK2:=hK1.evo (e3 ⟨30,R.1.cells,1⟩) (by show ¬kid=Z.length;omega) (by show ¬H.length=Z.length;omega)
  have hpZ2:=(e3 ⟨30,R.1.cells,1⟩).look (e2.look hpZ1 hpk (o36T _ _).1 (o36T _ _).2) (by show ¬pid=Z.length;omega) (o36T _ _).1 (o36T _ _).2
  have ho2:(Z1.set Z.length (⟨30,R.1.cells,1⟩:PObj))[Z.length]? = some ⟨30,R.1.cells,1⟩:=gS hz2
  have hR2:R.2=7:=by rw [hRd]
  conv=>whnf
  (repeat (first | ((first | (apply exA;(focus exact oN)) | refine ⟨fun _=>?_,fun h=>absurd (by first | assumption | rfl | decide | omega) h⟩ | refine ⟨fun h=>absurd h (by first | assumption | rfl | decide | omega),fun _=>?_⟩ | refine And.intro ⟨by exact fitS,by exact fitS⟩ ⟨fun _=>?_,fun h=>absurd (by first | assumption | rfl | decide | omega) h⟩ | refine And.intro ⟨by exact fitS,by exact fitS⟩ ⟨fun h=>absurd h (by first | assumption | rfl | decide | omega),fun _=>?_⟩ | (apply cP;(focus assumption)) | (apply cE;(focus assumption)) | refine ⟨by first | decide | omega,?_⟩);((conv=>whnf))) | ((conv in (_[_]?)=>tactic=>first | exact oL | exact gS (by assumption));(conv=>whnf))))
  refine last _ _ fun H'=>?_
  conv=>whnf
  first | rfl | ((repeat (first | ((first | (apply exA;(focus exact oN)) | refine ⟨fun _=>?_,fun h=>absurd (by first | assumption | rfl | decide | omega) h⟩ | refine ⟨fun h=>absurd h (by first | assumption | rfl | decide | omega),fun _=>?_⟩ | refine And.intro ⟨by exact fitS,by exact fitS⟩ ⟨fun _=>?_,fun h=>absurd (by first | assumption | rfl | decide | omega) h⟩ | refine And.intro ⟨by exact fitS,by exact fitS⟩ ⟨fun h=>absurd h (by first | assumption | rfl | decide | omega),fun _=>?_⟩ | (apply cP;(focus assumption)) | (apply cE;(focus assumption)) | refine ⟨by first | decide | omega,?_⟩);((conv=>whnf))) | ((conv in (_[_]?)=>tactic=>first | exact oL | exact gS (by assumption));(conv=>whnf))));rfl)
 rw [if_neg (show ¬pS.en<now by rw [hpS];exact c1)] at hR
 by_cases c2:now+5<st
 ·rw [if_pos (show now+5<pS.st by rw [hpS];exact c2)] at hR
  have c2':IntKind.i64.wrap (now+5)<st:=by rw [w5];exact c2
  obtain ⟨R,hRd⟩:∃R:RepO×Int,R=(repZ,8):=⟨_,rfl⟩
  rw [←hRd] at hR
  refine drawK_call 7 (D11b Z.length) _ (Z++[z30]) (by kernel_rfl) rfl ⟨rfl,rfl⟩ ⟨⟨rfl,rfl⟩,trivial⟩ ?_
  conv=>whnf
  (repeat (first | ((first | (apply exA;(focus exact oN)) | refine ⟨fun _=>?_,fun h=>absurd (by first | assumption | rfl | decide | omega) h⟩ | refine ⟨fun h=>absurd h (by first | assumption | rfl | decide | omega),fun _=>?_⟩ | refine And.intro ⟨by exact fitS,by exact fitS⟩ ⟨fun _=>?_,fun h=>absurd (by first | assumption | rfl | decide | omega) h⟩ | refine And.intro ⟨by exact fitS,by exact fitS⟩ ⟨fun h=>absurd h (by first | assumption | rfl | decide | omega),fun _=>?_⟩ | (apply cP;(focus assumption)) | (apply cE;(focus assumption)) | refine ⟨by first | decide | omega,?_⟩);((conv=>whnf))) | ((conv in (_[_]?)=>tactic=>first | exact oL | exact gS (by assumption));(conv=>whnf))))
  refine cA (args':=[.ptr (some (kid,0)),.agg (qT pS aT till).cells,.int .i64 now,.agg (keyC (drawN 6))]) rfl (cO (c29r (hK.evo (eZ.trans eZ1) id id) (by decide) (by decide) (by decide) (qT pS aT till) (qT_fit till hP hA) rfl rfl now (drawN 6)) ?_)
  rintro _ Z1 ⟨rfl,hK1,e2⟩
  have hRR:tgsV aedu l ((0:Nat):Int) (qT pS aT till) now (drawN 6) (targetV aedu l (qT pS aT till).sn) (fun p=>(p.tr,0))=R:=hR
  rw [hRR] at hK1 ⊢
  have hz2:Z1[Z.length]? = some z30:=e2.look (gL Z _) (by have:=eZ.len;show ¬Z.length=kid;omega) z30T.1 z30T.2
  refine ⟨[Z++[z30],Z1,Z1.set Z.length (⟨30,R.1.cells,1⟩:PObj)],rfl,?_⟩
  have hlZ:=eZ.len
  have hrl:H.length<X.length:=by have:=hK.ring.ex.choose_spec;exact (List.getElem?_eq_some_iff.1 this).1
  have e3:∀o,Evo (·=Z.length) Z1 (Z1.set Z.length o):=fun o=>Evo.setOther hz2 rfl z30T.1 z30T.2
  have hK2:=hK1.evo (e3 ⟨30,R.1.cells,1⟩) (by show ¬kid=Z.length;omega) (by show ¬H.length=Z.length;omega)
  have hpZ2:=(e3 ⟨30,R.1.cells,1⟩).look (e2.look hpZ1 hpk (o36T _ _).1 (o36T _ _).2) (by show ¬pid=Z.length;omega) (o36T _ _).1 (o36T _ _).2
  have ho2:(Z1.set Z.length (⟨30,R.1.cells,1⟩:PObj))[Z.length]? = some ⟨30,R.1.cells,1⟩:=gS hz2
  have hR2:R.2=8:=by rw [hRd]
  conv=>whnf
  (repeat (first | ((first | (apply exA;(focus exact oN)) | refine ⟨fun _=>?_,fun h=>absurd (by first | assumption | rfl | decide | omega) h⟩ | refine ⟨fun h=>absurd h (by first | assumption | rfl | decide | omega),fun _=>?_⟩ | refine And.intro ⟨by exact fitS,by exact fitS⟩ ⟨fun _=>?_,fun h=>absurd (by first | assumption | rfl | decide | omega) h⟩ | refine And.intro ⟨by exact fitS,by exact fitS⟩ ⟨fun h=>absurd h (by first | assumption | rfl | decide | omega),fun _=>?_⟩ | (apply cP;(focus assumption)) | (apply cE;(focus assumption)) | refine ⟨by first | decide | omega,?_⟩);((conv=>whnf))) | ((conv in (_[_]?)=>tactic=>first | exact oL | exact gS (by assumption));(conv=>whnf))))
  refine last _ _ fun H'=>?_
  conv=>whnf
  first | rfl | ((repeat (first | ((first | (apply exA;(focus exact oN)) | refine ⟨fun _=>?_,fun h=>absurd (by first | assumption | rfl | decide | omega) h⟩ | refine ⟨fun h=>absurd h (by first | assumption | rfl | decide | omega),fun _=>?_⟩ | refine And.intro ⟨by exact fitS,by exact fitS⟩ ⟨fun _=>?_,fun h=>absurd (by first | assumption | rfl | decide | omega) h⟩ | refine And.intro ⟨by exact fitS,by exact fitS⟩ ⟨fun h=>absurd h (by first | assumption | rfl | decide | omega),fun _=>?_⟩ | (apply cP;(focus assumption)) | (apply cE;(focus assumption)) | refine ⟨by first | decide | omega,?_⟩);((conv=>whnf))) | ((conv in (_[_]?)=>tactic=>first | exact oL | exact gS (by assumption));(conv=>whnf))));rfl)
 have c2':¬IntKind.i64.wrap (now+5)<st:=by rw [w5];exact c2
 rw [if_neg (show ¬now+5<pS.st by rw [hpS];exact c2),if_neg (not_not_intro (show aT.r=pS.r∧aT.n=pS.n by rw [haT,hpS];exact ⟨rfl,rfl⟩)),if_neg (show ¬(now+5<aT.tm∨aT.tm<now - 5) by rw [haT];show ¬(now+5<now∨now<now - 5);omega)] at hR
 by_cases c3:till<now
 ·rw [if_pos c3] at hR
  obtain ⟨R,hRd⟩:∃R:RepO×Int,R=(repZ,7):=⟨_,rfl⟩
  rw [←hRd] at hR
  refine drawK_call 7 (D11b Z.length) _ (Z++[z30]) (by kernel_rfl) rfl ⟨rfl,rfl⟩ ⟨⟨rfl,rfl⟩,trivial⟩ ?_
  conv=>whnf
  (repeat (first | ((first | (apply exA;(focus exact oN)) | refine ⟨fun _=>?_,fun h=>absurd (by first | assumption | rfl | decide | omega) h⟩ | refine ⟨fun h=>absurd h (by first | assumption | rfl | decide | omega),fun _=>?_⟩ | refine And.intro ⟨by exact fitS,by exact fitS⟩ ⟨fun _=>?_,fun h=>absurd (by first | assumption | rfl | decide | omega) h⟩ | refine And.intro ⟨by exact fitS,by exact fitS⟩ ⟨fun h=>absurd h (by first | assumption | rfl | decide | omega),fun _=>?_⟩ | (apply cP;(focus assumption)) | (apply cE;(focus assumption)) | refine ⟨by first | decide | omega,?_⟩);((conv=>whnf))) | ((conv in (_[_]?)=>tactic=>first | exact oL | exact gS (by assumption));(conv=>whnf))))
  refine cA (args':=[.ptr (some (kid,0)),.agg (qT pS aT till).cells,.int .i64 now,.agg (keyC (drawN 6))]) rfl (cO (c29r (hK.evo (eZ.trans eZ1) id id) (by decide) (by decide) (by decide) (qT pS aT till) (qT_fit till hP hA) rfl rfl now (drawN 6)) ?_)
  rintro _ Z1 ⟨rfl,hK1,e2⟩
  have hRR:tgsV aedu l ((0:Nat):Int) (qT pS aT till) now (drawN 6) (targetV aedu l (qT pS aT till).sn) (fun p=>(p.tr,0))=R:=hR
  rw [hRR] at hK1 ⊢
  have hz2:Z1[Z.length]? = some z30:=e2.look (gL Z _) (by have:=eZ.len;show ¬Z.length=kid;omega) z30T.1 z30T.2
  refine ⟨[Z++[z30],Z1,Z1.set Z.length (⟨30,R.1.cells,1⟩:PObj)],rfl,?_⟩
  have hlZ:=eZ.len
  have hrl:H.length<X.length:=by have:=hK.ring.ex.choose_spec;exact (List.getElem?_eq_some_iff.1 this).1
  have e3:∀o,Evo (·=Z.length) Z1 (Z1.set Z.length o):=fun o=>Evo.setOther hz2 rfl z30T.1 z30T.2
  have hK2:=hK1.evo (e3 ⟨30,R.1.cells,1⟩) (by show ¬kid=Z.length;omega) (by show ¬H.length=Z.length;omega)
  have hpZ2:=(e3 ⟨30,R.1.cells,1⟩).look (e2.look hpZ1 hpk (o36T _ _).1 (o36T _ _).2) (by show ¬pid=Z.length;omega) (o36T _ _).1 (o36T _ _).2
  have ho2:(Z1.set Z.length (⟨30,R.1.cells,1⟩:PObj))[Z.length]? = some ⟨30,R.1.cells,1⟩:=gS hz2
  have hR2:R.2=7:=by rw [hRd]
  conv=>whnf
  (repeat (first | ((first | (apply exA;(focus exact oN)) | refine ⟨fun _=>?_,fun h=>absurd (by first | assumption | rfl | decide | omega) h⟩ | refine ⟨fun h=>absurd h (by first | assumption | rfl | decide | omega),fun _=>?_⟩ | refine And.intro ⟨by exact fitS,by exact fitS⟩ ⟨fun _=>?_,fun h=>absurd (by first | assumption | rfl | decide | omega) h⟩ | refine And.intro ⟨by exact fitS,by exact fitS⟩ ⟨fun h=>absurd h (by first | assumption | rfl | decide | omega),fun _=>?_⟩ | (apply cP;(focus assumption)) | (apply cE;(focus assumption)) | refine ⟨by first | decide | omega,?_⟩);((conv=>whnf))) | ((conv in (_[_]?)=>tactic=>first | exact oL | exact gS (by assumption));(conv=>whnf))))
  refine last _ _ fun H'=>?_
  conv=>whnf
  first | rfl | ((repeat (first | ((first | (apply exA;(focus exact oN)) | refine ⟨fun _=>?_,fun h=>absurd (by first | assumption | rfl | decide | omega) h⟩ | refine ⟨fun h=>absurd h (by first | assumption | rfl | decide | omega),fun _=>?_⟩ | refine And.intro ⟨by exact fitS,by exact fitS⟩ ⟨fun _=>?_,fun h=>absurd (by first | assumption | rfl | decide | omega) h⟩ | refine And.intro ⟨by exact fitS,by exact fitS⟩ ⟨fun h=>absurd h (by first | assumption | rfl | decide | omega),fun _=>?_⟩ | (apply cP;(focus assumption)) | (apply cE;(focus assumption)) | refine ⟨by first | decide | omega,?_⟩);((conv=>whnf))) | ((conv in (_[_]?)=>tactic=>first | exact oL | exact gS (by assumption));(conv=>whnf))));rfl)
 rw [if_neg c3] at hR
 have hx1:isPartB ⟨pS.r,pS.n,drawN 6,pS.tr,now,min till pS.en⟩=true:=by
  rw [hpS]
  show (isPrincB aedu ann&&isTextB []&&(inZ now 0 1073741824&&inZ (min till en) 0 1073741824))=true
  rw [prAnn,inZ_of (by omega) (by omega),inZ_of (by omega) (by omega)];rfl
 have op1:=opens 14 2 (((0:Nat):Int)+1) rfl _ (by decide) (by decide) (partL_784 hx1)
 have r1:=readsPrt hx1
 rw [←hb1] at op1
 generalize partL ⟨pS.r,pS.n,drawN 6,pS.tr,now,min till pS.en⟩=pb at op1 r1
 obtain ⟨R,hRd⟩:∃R:RepO×Int,R=(⟨pS.r,pS.n,aedu,mail,1,b1,b2⟩,0):=⟨_,rfl⟩
 rw [←hRd] at hR
 refine drawK_call 7 (D11b Z.length) _ (Z++[z30]) (by kernel_rfl) rfl ⟨rfl,rfl⟩ ⟨⟨rfl,rfl⟩,trivial⟩ ?_
 conv=>whnf
 (repeat (first | ((first | (apply exA;(focus exact oN)) | refine ⟨fun _=>?_,fun h=>absurd (by first | assumption | rfl | decide | omega) h⟩ | refine ⟨fun h=>absurd h (by first | assumption | rfl | decide | omega),fun _=>?_⟩ | refine And.intro ⟨by exact fitS,by exact fitS⟩ ⟨fun _=>?_,fun h=>absurd (by first | assumption | rfl | decide | omega) h⟩ | refine And.intro ⟨by exact fitS,by exact fitS⟩ ⟨fun h=>absurd h (by first | assumption | rfl | decide | omega),fun _=>?_⟩ | (apply cP;(focus assumption)) | (apply cE;(focus assumption)) | refine ⟨by first | decide | omega,?_⟩);((conv=>whnf))) | ((conv in (_[_]?)=>tactic=>first | exact oL | exact gS (by assumption));(conv=>whnf))))
 refine cA (args':=[.ptr (some (kid,0)),.agg (qT pS aT till).cells,.int .i64 now,.agg (keyC (drawN 6))]) rfl (cO (c29r (hK.evo (eZ.trans eZ1) id id) (by decide) (by decide) (by decide) (qT pS aT till) (qT_fit till hP hA) rfl rfl now (drawN 6)) ?_)
 rintro _ Z1 ⟨rfl,hK1,e2⟩
 have hRR:tgsV aedu l ((0:Nat):Int) (qT pS aT till) now (drawN 6) (targetV aedu l (qT pS aT till).sn) (fun p=>(p.tr,0))=R:=hR
 rw [hRR] at hK1 ⊢
 have hz2:Z1[Z.length]? = some z30:=e2.look (gL Z _) (by have:=eZ.len;show ¬Z.length=kid;omega) z30T.1 z30T.2
 refine ⟨[Z++[z30],Z1,Z1.set Z.length (⟨30,R.1.cells,1⟩:PObj)],rfl,?_⟩
 have hlZ:=eZ.len
 have hrl:H.length<X.length:=by have:=hK.ring.ex.choose_spec;exact (List.getElem?_eq_some_iff.1 this).1
 have e3:∀o,Evo (·=Z.length) Z1 (Z1.set Z.length o):=fun o=>Evo.setOther hz2 rfl z30T.1 z30T.2
 have hK2:=hK1.evo (e3 ⟨30,R.1.cells,1⟩) (by show ¬kid=Z.length;omega) (by show ¬H.length=Z.length;omega)
 have hpZ2:=(e3 ⟨30,R.1.cells,1⟩).look (e2.look hpZ1 hpk (o36T _ _).1 (o36T _ _).2) (by show ¬pid=Z.length;omega) (o36T _ _).1 (o36T _ _).2
 have ho2:(Z1.set Z.length (⟨30,R.1.cells,1⟩:PObj))[Z.length]? = some ⟨30,R.1.cells,1⟩:=gS hz2
 subst hRd
 have k14:=c19 14
 conv=>whnf
 (repeat (first | ((first | (apply exA;(focus exact oN)) | refine ⟨fun _=>?_,fun h=>absurd (by first | assumption | rfl | decide | omega) h⟩ | refine ⟨fun h=>absurd h (by first | assumption | rfl | decide | omega),fun _=>?_⟩ | refine And.intro ⟨by exact fitS,by exact fitS⟩ ⟨fun _=>?_,fun h=>absurd (by first | assumption | rfl | decide | omega) h⟩ | refine And.intro ⟨by exact fitS,by exact fitS⟩ ⟨fun h=>absurd h (by first | assumption | rfl | decide | omega),fun _=>?_⟩ | (apply cP;(focus assumption)) | (apply cE;(focus assumption)) | refine ⟨by first | decide | omega,?_⟩);((conv=>whnf))) | ((conv in (_[_]?)=>tactic=>first | exact oL | exact gS (by assumption));(conv=>whnf))))
 obtain ⟨V,hV⟩:∃V,V=Z1.set Z.length (⟨30,(⟨pS.r,pS.n,aedu,mail,1,b1,b2⟩:RepO).cells,1⟩:PObj):=⟨_,rfl⟩
 have ho2':V[Z.length]? = some ⟨30,(⟨pS.r,pS.n,aedu,mail,1,b1,b2⟩:RepO).cells,1⟩:=by rw [hV];exact ho2
 refine drawK_at hV.symm ?_
 refine dP2 (by kernel_rfl) ?_
 conv=>whnf
 rw [hpS] at r1
 (repeat (first | ((first | (apply exA;(focus exact oN)) | refine ⟨fun _=>?_,fun h=>absurd (by first | assumption | rfl | decide | omega) h⟩ | refine ⟨fun h=>absurd h (by first | assumption | rfl | decide | omega),fun _=>?_⟩ | refine And.intro ⟨by exact fitS,by exact fitS⟩ ⟨fun _=>?_,fun h=>absurd (by first | assumption | rfl | decide | omega) h⟩ | refine And.intro ⟨by exact fitS,by exact fitS⟩ ⟨fun h=>absurd h (by first | assumption | rfl | decide | omega),fun _=>?_⟩ | (apply cP;(focus assumption)) | (apply cE;(focus assumption)) | refine ⟨by first | decide | omega,?_⟩);((conv=>whnf))) | ((conv in (_[_]?)=>tactic=>first | exact oL | exact gS (by assumption));(conv=>whnf))))
 refine last _ _ fun H'=>?_
 conv=>whnf
 first | rfl | ((repeat (first | ((first | (apply exA;(focus exact oN)) | refine ⟨fun _=>?_,fun h=>absurd (by first | assumption | rfl | decide | omega) h⟩ | refine ⟨fun h=>absurd h (by first | assumption | rfl | decide | omega),fun _=>?_⟩ | refine And.intro ⟨by exact fitS,by exact fitS⟩ ⟨fun _=>?_,fun h=>absurd (by first | assumption | rfl | decide | omega) h⟩ | refine And.intro ⟨by exact fitS,by exact fitS⟩ ⟨fun h=>absurd h (by first | assumption | rfl | decide | omega),fun _=>?_⟩ | (apply cP;(focus assumption)) | (apply cE;(focus assumption)) | refine ⟨by first | decide | omega,?_⟩);((conv=>whnf))) | ((conv in (_[_]?)=>tactic=>first | exact oL | exact gS (by assumption));(conv=>whnf))));rfl)
end Go.Proofs.Tryz
namespace Go.Proofs.YtdnggpdgijobfaaGreatDoor
open Go Go.RowKit Ps
theorem rows_ints {k:IntKind}:∀{rs:List (List PV)},(∀r∈rs,∃x,r=[.int k x]∧(Lit.int k x).wf=true)→∃xs:List Int,rs.length=xs.length∧rs.flatten=xs.map (.int k)∧∀x∈xs,(Lit.int k x).wf=true
 | [],_=>⟨[],rfl,rfl,fun x h=>by cases h⟩
 | r::rs,h=>by
  obtain ⟨x,rfl,hx⟩:=h r List.mem_cons_self
  obtain ⟨xs,h1,h2,h3⟩:=rows_ints fun r hr=>h r (List.mem_cons_of_mem _ hr)
  exact ⟨x::xs,by simp [h1],by simp [h2],fun y hy=>by
   rcases List.mem_cons.1 hy with rfl | hy
   ·exact hx
   ·exact h3 y hy⟩
theorem bytes_of:∀{xs:List Int},(∀x∈xs,(Lit.int .u8 x).wf=true)→∃bs:List UInt8,xs.length=bs.length∧xs.map (PV.int .u8)=bs.map bC
 | [],_=>⟨[],rfl,rfl⟩
 | x::xs,h=>by
  obtain ⟨bs,h1,h2⟩:=bytes_of fun y hy=>h y (List.mem_cons_of_mem _ hy)
  have hx:=bounds_u8 (h x List.mem_cons_self)
  refine ⟨UInt8.ofNat x.toNat::bs,by simp [h1],?_⟩
  rw [List.map_cons,List.map_cons,h2]
  congr 1
  show PV.int .u8 x=.int .u8 _
  rw [UInt8.toNat_ofNat']
  congr 1;omega
theorem own:ownKnob Tryz.prog.godebug=none:=by kernel_rfl
theorem laidOut:laidOutB Tryz.prog=true:=by kernel_rfl
def litV:DataW Unit→Value
 | .lit (.int k n)=>.int k n
 | _=>Go.undef
def litVs:DataW Unit→List Value
 | .agg l=>l.map litV
 | d=>[litV d]
def tabVs:DataW Unit→List Value
 | .agg l=>l.flatMap litVs
 | _=>[]
def fillTab (l:List Value):Obj→Obj
 | .cells _ t frozen=>.cells l.toArray t frozen
 | o=>o
noncomputable def laidWorld (os:Os):World :=
 { World.holding Tryz.prog os ⟨#[],#[],[]⟩ with heap:=((World.holding Tryz.prog os ⟨#[],#[],[]⟩).heap.modify 0 (fillTab (tabVs Rows.laid_unicode_utf8_first))).modify 1 (fillTab (tabVs Rows.laid_unicode_utf8_acceptRanges)) }
theorem laid_met (os : Os) (args : Array Value) : laidMet Tryz.prog [("unicode/utf8.acceptRanges", Rows.laid_unicode_utf8_acceptRanges), ("unicode/utf8.first", Rows.laid_unicode_utf8_first)] ((laidWorld os).forCall (fun _ _ => 0) ⟨#[], args, []⟩).memory :=
 laidMet_of_run' 8 (by kernel_rfl) (by kernel_rfl)
theorem varsB (os:Os) (args:Array Value):((laidWorld os).forCall (fun _ _=>0) ⟨#[],args,[]⟩).variablesB Tryz.checked.prog=true:=by kernel_rfl
theorem heapB (os : Os) (args : Array Value) : (((laidWorld os).forCall (fun _ _ => 0) ⟨#[], args, []⟩).heap.toList.drop Tryz.checked.prog.globals.size).take ((begin Tryz.checked.prog (fun _ _ => 0) default).world.heap.size - Tryz.checked.prog.globals.size) =
      (begin Tryz.checked.prog (fun _ _ => 0) default).world.heap.toList.drop Tryz.checked.prog.globals.size := by kernel_rfl
theorem noLooks:false=Tryz.prog.looks []:=by kernel_rfl
theorem plainOf {name:String} {k:Nat} {g:Func} (hn:Tryz.prog.funcNamed name=some k) (hg:Tryz.prog.funcs[k]? = some g) (hall:(g.params.toList.all fun t=>Tryz.prog.wantsStandIn t==false)=true)
  (f:FuncId) (fn:Func) (hf:Tryz.pinned.checked.prog.funcNamed name=some f) (hfn:Tryz.pinned.checked.prog.funcs[f]? = some fn) :
  false=Tryz.pinned.checked.prog.looks []∧∀(j:Nat) t,fn.params[j]? = some t→Tryz.pinned.checked.prog.wantsStandIn t=false:=by
 obtain rfl:f=k:=Option.some.inj (hn.symm.trans hf) |>.symm
 obtain rfl:fn=g:=(Option.some.inj (hg.symm.trans hfn)).symm
 refine ⟨noLooks,fun j t ht=>?_⟩
 have h:Tryz.prog.wantsStandIn t=false:=by simpa using List.all_eq_true.1 hall t (Array.mem_toList_iff.2 (Array.mem_of_getElem? ht))
 exact h
end Go.Proofs.YtdnggpdgijobfaaGreatDoor
namespace Go.Proofs.Tryz
open Go Ps
open Go.Proofs.YtdnggpdgijobfaaGreatDoor (rows_ints bytes_of)
theorem rdInt {B n:Nat} {ps:List PV} (h:RdP prog B (n+1) 3 ps):∃i,ps=[.int .i64 i]∧(Lit.int .i64 i).wf=true:=h
end Go.Proofs.Tryz
