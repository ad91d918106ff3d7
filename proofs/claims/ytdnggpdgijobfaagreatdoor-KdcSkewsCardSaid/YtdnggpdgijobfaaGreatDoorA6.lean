import Derived.Test.YtdnggpdgijobfaaGreatDoorA5
import Derived.Test.YtdnggpdgijobfaaGreatDoorA1
import Derived.Test.YtdnggpdgijobfaaGreatDoorCards
import Derived.Test.YtdnggpdgijobfaaGreatDoorTie
import Derived.WalkKit
import Derived.ProofKit
import Derived.OpenShut
import Derived.Deep.DeepHandedRow
import Derived.Lib.LaidTab
import Derived.Test.YtdnggpdgijobfaaGreatDoorA3
set_option linter.all false
set_option maxRecDepth 100000
set_option maxHeartbeats 8000000
namespace Go.Proofs.Tryz
open Go Ps
def imm8t:List Nat:=[]
def D8a (n:Nat):Draw:={ imp:=[7,12],robs:=[z64],res:=[(11,0)],base:=n,win:=[(8,1,1),(9,1,1),(10,1,2),(11,0,1),(12,1,1),(13,2,2)] }
def D8b (n:Nat):Draw:={ imp:=[6,11],robs:=[z30],res:=[(10,0)],base:=n,win:=[(7,1,1),(8,1,1),(9,1,2),(10,0,1),(11,1,1),(12,2,2)] }
def pS:Prt:=⟨aedu,ann,drawN 5,[],0,100⟩
theorem pS_ok:isPartB pS=true:=by kernel_rfl
theorem c8sF (by':Int) (H:PH):CallOk prog 8 [.int .i64 by',.bool false] H fun r _=>r=.bool true:=by
 (refine fnS (imm:=imm8t) ttT4_ok func8 ?_;(conv=>whnf))
 by_cases h1:by' < -20
 ·(repeat (first | ((first | (apply exA;(focus exact oN)) | refine ⟨fun _=>?_,fun h=>absurd (by first | assumption | rfl | decide | omega) h⟩ | refine ⟨fun h=>absurd h (by first | assumption | rfl | decide | omega),fun _=>?_⟩ | refine And.intro ⟨by exact fitS,by exact fitS⟩ ⟨fun _=>?_,fun h=>absurd (by first | assumption | rfl | decide | omega) h⟩ | refine And.intro ⟨by exact fitS,by exact fitS⟩ ⟨fun h=>absurd h (by first | assumption | rfl | decide | omega),fun _=>?_⟩ | (apply callK_pure;(focus assumption)) | (apply callK_eq;(focus assumption)) | refine ⟨by first | decide | omega,?_⟩);((conv=>whnf))) | ((conv in (_[_]?)=>tactic=>first | exact oL | exact get_set (by assumption));(conv=>whnf))));rfl
 by_cases h2:20<by'
 ·(repeat (first | ((first | (apply exA;(focus exact oN)) | refine ⟨fun _=>?_,fun h=>absurd (by first | assumption | rfl | decide | omega) h⟩ | refine ⟨fun h=>absurd h (by first | assumption | rfl | decide | omega),fun _=>?_⟩ | refine And.intro ⟨by exact fitS,by exact fitS⟩ ⟨fun _=>?_,fun h=>absurd (by first | assumption | rfl | decide | omega) h⟩ | refine And.intro ⟨by exact fitS,by exact fitS⟩ ⟨fun h=>absurd h (by first | assumption | rfl | decide | omega),fun _=>?_⟩ | (apply callK_pure;(focus assumption)) | (apply callK_eq;(focus assumption)) | refine ⟨by first | decide | omega,?_⟩);((conv=>whnf))) | ((conv in (_[_]?)=>tactic=>first | exact oL | exact get_set (by assumption));(conv=>whnf))));rfl
 (repeat (first | ((first | (apply exA;(focus exact oN)) | refine ⟨fun _=>?_,fun h=>absurd (by first | assumption | rfl | decide | omega) h⟩ | refine ⟨fun h=>absurd h (by first | assumption | rfl | decide | omega),fun _=>?_⟩ | refine And.intro ⟨by exact fitS,by exact fitS⟩ ⟨fun _=>?_,fun h=>absurd (by first | assumption | rfl | decide | omega) h⟩ | refine And.intro ⟨by exact fitS,by exact fitS⟩ ⟨fun h=>absurd h (by first | assumption | rfl | decide | omega),fun _=>?_⟩ | (apply callK_pure;(focus assumption)) | (apply callK_eq;(focus assumption)) | refine ⟨by first | decide | omega,?_⟩);((conv=>whnf))) | ((conv in (_[_]?)=>tactic=>first | exact oL | exact get_set (by assumption));(conv=>whnf))))
 refine callK_of (c15x H) ?_
 rintro _ X ⟨kid,xid,pid,l,v,rfl,hsm,hinc,hK,hxk,hxr,hp,hev⟩
 conv=>whnf
 have k1:Pure prog 18 [.str aedu,.str aedu] (.agg [.str aedu,.str (krb aedu)]):=c18 _ _ (by decide)
 have k3:=c17
 have k4:=c27
 have k10:=c19 10
 have k5:=c19 5
 have k6:=c19 6
 have hlp:pid<X.length:=(List.getElem?_eq_some_iff.1 hp).1
 have hlk:kid<X.length:=by obtain ⟨v,hv⟩:=hK.k;exact (List.getElem?_eq_some_iff.1 hv).1
 have hpk:pid≠kid:=by
  rintro rfl
  obtain ⟨w,hw⟩:=hK.k
  rw [hp] at hw
  exact absurd (congrArg (fun o=>o.map PObj.T) hw) (by intro h;exact absurd (Option.some.inj h) (show ¬36=134 by decide))
 have last:∀(H:PH) (K:PV→PH→Prop),(∀H',K (.bool true) H')→callK prog 21 [] H K:=fun H K h=>callK_of (c21 H) fun r H' hr=>by rw [hr];exact h H'
 have w50:IntKind.i64.wrap (50+by')=50+by':=wrap64 (by omega) (by omega)
 have hP:=pS_ok
 obtain ⟨a,ha⟩:∃a:Aut,a=⟨aedu,ann,IntKind.i64.wrap (50+by'),0⟩:=⟨_,rfl⟩
 have hA:isAutB a=true:=by
  rw [ha]
  show (isPrincB aedu ann&&inZ (IntKind.i64.wrap (50+by')) 0 1073741824&&inZ 0 0 1073741824)=true
  rw [prAnn,w50,inZ_of (by omega) (by omega)];rfl
 conv=>whnf
 (repeat (first | ((first | (apply exA;(focus exact oN)) | refine ⟨fun _=>?_,fun h=>absurd (by first | assumption | rfl | decide | omega) h⟩ | refine ⟨fun h=>absurd h (by first | assumption | rfl | decide | omega),fun _=>?_⟩ | refine And.intro ⟨by exact fitS,by exact fitS⟩ ⟨fun _=>?_,fun h=>absurd (by first | assumption | rfl | decide | omega) h⟩ | refine And.intro ⟨by exact fitS,by exact fitS⟩ ⟨fun h=>absurd h (by first | assumption | rfl | decide | omega),fun _=>?_⟩ | (apply callK_pure;(focus assumption)) | (apply callK_eq;(focus assumption)) | refine ⟨by first | decide | omega,?_⟩);((conv=>whnf))) | ((conv in (_[_]?)=>tactic=>first | exact oL | exact get_set (by assumption));(conv=>whnf))))
 obtain ⟨Y,hY⟩:∃Y,Y=X++[(⟨68,(⟨aedu,ann,IntKind.i64.wrap (50+by'),0⟩:Aut).cells,1⟩:PObj)]:=⟨_,rfl⟩
 have eY:Evo (fun _=>False) X Y:=by rw [hY];exact Evo.app _ _
 have hY0:Y[X.length]? = some (⟨68,a.cells,1⟩:PObj):=by rw [hY,ha];exact get_last X _
 have hY1:(Y++[z64])[X.length]? = some (⟨68,a.cells,1⟩:PObj):=by rw [List.getElem?_append_left (List.getElem?_eq_some_iff.1 hY0).1];exact hY0
 refine drawK_at ((set_last X _ _).trans hY.symm) ?_
 obtain ⟨b1,b2,_,hR⟩:=tgsT2 hsm ((0:Nat):Int) (p:=pS) (a:=a) (till:=90) (now:=50) (drawN 6) hP hA (by decide) (by decide) (by decide) (by decide)
 rw [if_neg (show ¬pS.en<50 by decide),if_neg (show ¬50+5<pS.st by decide)] at hR
 rw [if_neg (not_not_intro (show a.r=pS.r∧a.n=pS.n by rw [ha];exact ⟨rfl,rfl⟩))] at hR
 have ht:a.tm=50+by':=by rw [ha];exact w50
 rw [ht] at hR
 by_cases c1:5<by'
 ·rw [if_pos (show 50+5<50+by'∨50+by'<50 - 5 from .inl (by omega))] at hR
  obtain ⟨R,hRd⟩:∃R:RepO×Int,R=(repZ,8):=⟨_,rfl⟩
  rw [←hRd] at hR
  have hR2:R.2=8:=by rw [hRd]
  have hb:bump R 0 1=0:=by unfold bump;rw [hR2];rfl
  refine drawK_call 7 (D8a Y.length) _ (Y++[z64]) (by kernel_rfl) rfl ⟨rfl,rfl⟩ ⟨⟨rfl,rfl⟩,trivial⟩ ?_
  conv=>whnf
  (repeat (first | ((first | (apply exA;(focus exact oN)) | refine ⟨fun _=>?_,fun h=>absurd (by first | assumption | rfl | decide | omega) h⟩ | refine ⟨fun h=>absurd h (by first | assumption | rfl | decide | omega),fun _=>?_⟩ | refine And.intro ⟨by exact fitS,by exact fitS⟩ ⟨fun _=>?_,fun h=>absurd (by first | assumption | rfl | decide | omega) h⟩ | refine And.intro ⟨by exact fitS,by exact fitS⟩ ⟨fun h=>absurd h (by first | assumption | rfl | decide | omega),fun _=>?_⟩ | (apply callK_pure;(focus assumption)) | (apply callK_eq;(focus assumption)) | refine ⟨by first | decide | omega,?_⟩);((conv=>whnf))) | ((conv in (_[_]?)=>tactic=>first | exact oL | exact get_set (by assumption));(conv=>whnf))))
  refine callK_args (args':=[.agg [.str aedu,.str (krb aedu)],.agg ((keyN 10).map byteC),.agg pS.cells,.agg a.cells,.agg [.str aedu,.str mail],.int .i64 90]) rfl (callK_of (c28x aedu (krb aedu) 10 hP hA aedu mail 90 _) ?_)
  rintro _ Y1 ⟨rfl,e1⟩
  have hz1:Y1[Y.length]? = some z64:=e1.look (get_last Y _) id z64T.1 z64T.2
  refine ⟨[Y++[z64],Y1,Y1.set Y.length (⟨64,(qT pS a 90).cells,1⟩:PObj)],rfl,?_⟩
  conv=>whnf
  (repeat (first | ((first | (apply exA;(focus exact oN)) | refine ⟨fun _=>?_,fun h=>absurd (by first | assumption | rfl | decide | omega) h⟩ | refine ⟨fun h=>absurd h (by first | assumption | rfl | decide | omega),fun _=>?_⟩ | refine And.intro ⟨by exact fitS,by exact fitS⟩ ⟨fun _=>?_,fun h=>absurd (by first | assumption | rfl | decide | omega) h⟩ | refine And.intro ⟨by exact fitS,by exact fitS⟩ ⟨fun h=>absurd h (by first | assumption | rfl | decide | omega),fun _=>?_⟩ | (apply callK_pure;(focus assumption)) | (apply callK_eq;(focus assumption)) | refine ⟨by first | decide | omega,?_⟩);((conv=>whnf))) | ((conv in (_[_]?)=>tactic=>first | exact oL | exact get_set (by assumption));(conv=>whnf))))
  obtain ⟨Z,hZ⟩:∃Z,Z=Y1.set Y.length (⟨64,(qT pS a 90).cells,1⟩:PObj):=⟨_,rfl⟩
  have eZ:Evo (fun _=>False) X Z:=by rw [hZ];exact ((eY.trans (Evo.app _ _)).trans e1).put hz1 z64T.1 z64T.2 eY.len _
  have hqZ:Z[Y.length]? = some (⟨64,(qT pS a 90).cells,1⟩:PObj):=by rw [hZ];exact get_set hz1
  have hpZ:=eZ.look hp id (o36T _ _).1 (o36T _ _).2
  have eZ1:Evo (fun _=>False) Z (Z++[z30]):=Evo.app Z _
  have hqZ1:=eZ1.look hqZ id z64T.1 z64T.2
  have hpZ1:=eZ1.look hpZ id (o36T _ _).1 (o36T _ _).2
  refine drawK_at hZ.symm ?_
  refine drawK_call 6 (D8b Z.length) _ (Z++[z30]) (by kernel_rfl) rfl ⟨rfl,rfl⟩ ⟨⟨rfl,rfl⟩,trivial⟩ ?_
  conv=>whnf
  (repeat (first | ((first | (apply exA;(focus exact oN)) | refine ⟨fun _=>?_,fun h=>absurd (by first | assumption | rfl | decide | omega) h⟩ | refine ⟨fun h=>absurd h (by first | assumption | rfl | decide | omega),fun _=>?_⟩ | refine And.intro ⟨by exact fitS,by exact fitS⟩ ⟨fun _=>?_,fun h=>absurd (by first | assumption | rfl | decide | omega) h⟩ | refine And.intro ⟨by exact fitS,by exact fitS⟩ ⟨fun h=>absurd h (by first | assumption | rfl | decide | omega),fun _=>?_⟩ | (apply callK_pure;(focus assumption)) | (apply callK_eq;(focus assumption)) | refine ⟨by first | decide | omega,?_⟩);((conv=>whnf))) | ((conv in (_[_]?)=>tactic=>first | exact oL | exact get_set (by assumption));(conv=>whnf))))
  refine callK_args (args':=[.ptr (some (kid,0)),.agg (qT pS a 90).cells,.int .i64 50,.agg (keyC (drawN 6))]) rfl (callK_of (c29r (hK.evo (eZ.trans eZ1) id id) (by decide) (by decide) (by decide) (qT pS a 90) (qT_fit 90 hP hA) rfl rfl 50 (drawN 6)) ?_)
  rintro _ Z1 ⟨rfl,hK1,e2⟩
  have hRR:tgsV aedu l ((0:Nat):Int) (qT pS a 90) 50 (drawN 6) (targetV aedu l (qT pS a 90).sn) (fun p=>(p.tr,0))=R:=hR
  rw [hRR] at hK1 ⊢
  have hz2:Z1[Z.length]? = some z30:=e2.look (get_last Z _) (by have:=eZ.len;show ¬Z.length=kid;omega) z30T.1 z30T.2
  refine ⟨[Z++[z30],Z1,Z1.set Z.length (⟨30,R.1.cells,1⟩:PObj)],rfl,?_⟩
  have hlZ:=eZ.len
  have hrl:H.length<X.length:=by have:=hK.ring.ex.choose_spec;exact (List.getElem?_eq_some_iff.1 this).1
  have e3:∀o,Evo (·=Z.length) Z1 (Z1.set Z.length o):=fun o=>Evo.setOther hz2 rfl z30T.1 z30T.2
  have hK2:=hK1.evo (e3 ⟨30,R.1.cells,1⟩) (by show ¬kid=Z.length;omega) (by show ¬H.length=Z.length;omega)
  have hpZ2:=(e3 ⟨30,R.1.cells,1⟩).look (e2.look hpZ1 hpk (o36T _ _).1 (o36T _ _).2) (by show ¬pid=Z.length;omega) (o36T _ _).1 (o36T _ _).2
  have ho2:(Z1.set Z.length (⟨30,R.1.cells,1⟩:PObj))[Z.length]? = some ⟨30,R.1.cells,1⟩:=get_set hz2
  rw [hb] at hK2
  obtain ⟨w,hw⟩:=hK2.k
  conv=>whnf
  (repeat (first | ((first | (apply exA;(focus exact oN)) | refine ⟨fun _=>?_,fun h=>absurd (by first | assumption | rfl | decide | omega) h⟩ | refine ⟨fun h=>absurd h (by first | assumption | rfl | decide | omega),fun _=>?_⟩ | refine And.intro ⟨by exact fitS,by exact fitS⟩ ⟨fun _=>?_,fun h=>absurd (by first | assumption | rfl | decide | omega) h⟩ | refine And.intro ⟨by exact fitS,by exact fitS⟩ ⟨fun h=>absurd h (by first | assumption | rfl | decide | omega),fun _=>?_⟩ | (apply callK_pure;(focus assumption)) | (apply callK_eq;(focus assumption)) | refine ⟨by first | decide | omega,?_⟩);((conv=>whnf))) | ((conv in (_[_]?)=>tactic=>first | exact oL | exact get_set (by assumption));(conv=>whnf))))
  refine callK_of (c20 hw) ?_
  rintro _ _ ⟨rfl,rfl⟩
  conv=>whnf
  (repeat (first | ((first | (apply exA;(focus exact oN)) | refine ⟨fun _=>?_,fun h=>absurd (by first | assumption | rfl | decide | omega) h⟩ | refine ⟨fun h=>absurd h (by first | assumption | rfl | decide | omega),fun _=>?_⟩ | refine And.intro ⟨by exact fitS,by exact fitS⟩ ⟨fun _=>?_,fun h=>absurd (by first | assumption | rfl | decide | omega) h⟩ | refine And.intro ⟨by exact fitS,by exact fitS⟩ ⟨fun h=>absurd h (by first | assumption | rfl | decide | omega),fun _=>?_⟩ | (apply callK_pure;(focus assumption)) | (apply callK_eq;(focus assumption)) | refine ⟨by first | decide | omega,?_⟩);((conv=>whnf))) | ((conv in (_[_]?)=>tactic=>first | exact oL | exact get_set (by assumption));(conv=>whnf))))
  refine last _ _ fun H'=>?_
  conv=>whnf
  first | rfl | ((repeat (first | ((first | (apply exA;(focus exact oN)) | refine ⟨fun _=>?_,fun h=>absurd (by first | assumption | rfl | decide | omega) h⟩ | refine ⟨fun h=>absurd h (by first | assumption | rfl | decide | omega),fun _=>?_⟩ | refine And.intro ⟨by exact fitS,by exact fitS⟩ ⟨fun _=>?_,fun h=>absurd (by first | assumption | rfl | decide | omega) h⟩ | refine And.intro ⟨by exact fitS,by exact fitS⟩ ⟨fun h=>absurd h (by first | assumption | rfl | decide | omega),fun _=>?_⟩ | (apply callK_pure;(focus assumption)) | (apply callK_eq;(focus assumption)) | refine ⟨by first | decide | omega,?_⟩);((conv=>whnf))) | ((conv in (_[_]?)=>tactic=>first | exact oL | exact get_set (by assumption));(conv=>whnf))));rfl)
 by_cases c2:by' < -5
 ·rw [if_pos (show 50+5<50+by'∨50+by'<50 - 5 from .inr (by omega))] at hR
  obtain ⟨R,hRd⟩:∃R:RepO×Int,R=(repZ,8):=⟨_,rfl⟩
  rw [←hRd] at hR
  have hR2:R.2=8:=by rw [hRd]
  have hb:bump R 0 1=0:=by unfold bump;rw [hR2];rfl
  refine drawK_call 7 (D8a Y.length) _ (Y++[z64]) (by kernel_rfl) rfl ⟨rfl,rfl⟩ ⟨⟨rfl,rfl⟩,trivial⟩ ?_
  conv=>whnf
  (repeat (first | ((first | (apply exA;(focus exact oN)) | refine ⟨fun _=>?_,fun h=>absurd (by first | assumption | rfl | decide | omega) h⟩ | refine ⟨fun h=>absurd h (by first | assumption | rfl | decide | omega),fun _=>?_⟩ | refine And.intro ⟨by exact fitS,by exact fitS⟩ ⟨fun _=>?_,fun h=>absurd (by first | assumption | rfl | decide | omega) h⟩ | refine And.intro ⟨by exact fitS,by exact fitS⟩ ⟨fun h=>absurd h (by first | assumption | rfl | decide | omega),fun _=>?_⟩ | (apply callK_pure;(focus assumption)) | (apply callK_eq;(focus assumption)) | refine ⟨by first | decide | omega,?_⟩);((conv=>whnf))) | ((conv in (_[_]?)=>tactic=>first | exact oL | exact get_set (by assumption));(conv=>whnf))))
  refine callK_args (args':=[.agg [.str aedu,.str (krb aedu)],.agg ((keyN 10).map byteC),.agg pS.cells,.agg a.cells,.agg [.str aedu,.str mail],.int .i64 90]) rfl (callK_of (c28x aedu (krb aedu) 10 hP hA aedu mail 90 _) ?_)
  rintro _ Y1 ⟨rfl,e1⟩
  have hz1:Y1[Y.length]? = some z64:=e1.look (get_last Y _) id z64T.1 z64T.2
  refine ⟨[Y++[z64],Y1,Y1.set Y.length (⟨64,(qT pS a 90).cells,1⟩:PObj)],rfl,?_⟩
  conv=>whnf
  (repeat (first | ((first | (apply exA;(focus exact oN)) | refine ⟨fun _=>?_,fun h=>absurd (by first | assumption | rfl | decide | omega) h⟩ | refine ⟨fun h=>absurd h (by first | assumption | rfl | decide | omega),fun _=>?_⟩ | refine And.intro ⟨by exact fitS,by exact fitS⟩ ⟨fun _=>?_,fun h=>absurd (by first | assumption | rfl | decide | omega) h⟩ | refine And.intro ⟨by exact fitS,by exact fitS⟩ ⟨fun h=>absurd h (by first | assumption | rfl | decide | omega),fun _=>?_⟩ | (apply callK_pure;(focus assumption)) | (apply callK_eq;(focus assumption)) | refine ⟨by first | decide | omega,?_⟩);((conv=>whnf))) | ((conv in (_[_]?)=>tactic=>first | exact oL | exact get_set (by assumption));(conv=>whnf))))
  obtain ⟨Z,hZ⟩:∃Z,Z=Y1.set Y.length (⟨64,(qT pS a 90).cells,1⟩:PObj):=⟨_,rfl⟩
  have eZ:Evo (fun _=>False) X Z:=by rw [hZ];exact ((eY.trans (Evo.app _ _)).trans e1).put hz1 z64T.1 z64T.2 eY.len _
  have hqZ:Z[Y.length]? = some (⟨64,(qT pS a 90).cells,1⟩:PObj):=by rw [hZ];exact get_set hz1
  have hpZ:=eZ.look hp id (o36T _ _).1 (o36T _ _).2
  have eZ1:Evo (fun _=>False) Z (Z++[z30]):=Evo.app Z _
  have hqZ1:=eZ1.look hqZ id z64T.1 z64T.2
  have hpZ1:=eZ1.look hpZ id (o36T _ _).1 (o36T _ _).2
  refine drawK_at hZ.symm ?_
  refine drawK_call 6 (D8b Z.length) _ (Z++[z30]) (by kernel_rfl) rfl ⟨rfl,rfl⟩ ⟨⟨rfl,rfl⟩,trivial⟩ ?_
  conv=>whnf
  (repeat (first | ((first | (apply exA;(focus exact oN)) | refine ⟨fun _=>?_,fun h=>absurd (by first | assumption | rfl | decide | omega) h⟩ | refine ⟨fun h=>absurd h (by first | assumption | rfl | decide | omega),fun _=>?_⟩ | refine And.intro ⟨by exact fitS,by exact fitS⟩ ⟨fun _=>?_,fun h=>absurd (by first | assumption | rfl | decide | omega) h⟩ | refine And.intro ⟨by exact fitS,by exact fitS⟩ ⟨fun h=>absurd h (by first | assumption | rfl | decide | omega),fun _=>?_⟩ | (apply callK_pure;(focus assumption)) | (apply callK_eq;(focus assumption)) | refine ⟨by first | decide | omega,?_⟩);((conv=>whnf))) | ((conv in (_[_]?)=>tactic=>first | exact oL | exact get_set (by assumption));(conv=>whnf))))
  refine callK_args (args':=[.ptr (some (kid,0)),.agg (qT pS a 90).cells,.int .i64 50,.agg (keyC (drawN 6))]) rfl (callK_of (c29r (hK.evo (eZ.trans eZ1) id id) (by decide) (by decide) (by decide) (qT pS a 90) (qT_fit 90 hP hA) rfl rfl 50 (drawN 6)) ?_)
  rintro _ Z1 ⟨rfl,hK1,e2⟩
  have hRR:tgsV aedu l ((0:Nat):Int) (qT pS a 90) 50 (drawN 6) (targetV aedu l (qT pS a 90).sn) (fun p=>(p.tr,0))=R:=hR
  rw [hRR] at hK1 ⊢
  have hz2:Z1[Z.length]? = some z30:=e2.look (get_last Z _) (by have:=eZ.len;show ¬Z.length=kid;omega) z30T.1 z30T.2
  refine ⟨[Z++[z30],Z1,Z1.set Z.length (⟨30,R.1.cells,1⟩:PObj)],rfl,?_⟩
  have hlZ:=eZ.len
  have hrl:H.length<X.length:=by have:=hK.ring.ex.choose_spec;exact (List.getElem?_eq_some_iff.1 this).1
  have e3:∀o,Evo (·=Z.length) Z1 (Z1.set Z.length o):=fun o=>Evo.setOther hz2 rfl z30T.1 z30T.2
  have hK2:=hK1.evo (e3 ⟨30,R.1.cells,1⟩) (by show ¬kid=Z.length;omega) (by show ¬H.length=Z.length;omega)
  have hpZ2:=(e3 ⟨30,R.1.cells,1⟩).look (e2.look hpZ1 hpk (o36T _ _).1 (o36T _ _).2) (by show ¬pid=Z.length;omega) (o36T _ _).1 (o36T _ _).2
  have ho2:(Z1.set Z.length (⟨30,R.1.cells,1⟩:PObj))[Z.length]? = some ⟨30,R.1.cells,1⟩:=get_set hz2
  rw [hb] at hK2
  obtain ⟨w,hw⟩:=hK2.k
  conv=>whnf
  (repeat (first | ((first | (apply exA;(focus exact oN)) | refine ⟨fun _=>?_,fun h=>absurd (by first | assumption | rfl | decide | omega) h⟩ | refine ⟨fun h=>absurd h (by first | assumption | rfl | decide | omega),fun _=>?_⟩ | refine And.intro ⟨by exact fitS,by exact fitS⟩ ⟨fun _=>?_,fun h=>absurd (by first | assumption | rfl | decide | omega) h⟩ | refine And.intro ⟨by exact fitS,by exact fitS⟩ ⟨fun h=>absurd h (by first | assumption | rfl | decide | omega),fun _=>?_⟩ | (apply callK_pure;(focus assumption)) | (apply callK_eq;(focus assumption)) | refine ⟨by first | decide | omega,?_⟩);((conv=>whnf))) | ((conv in (_[_]?)=>tactic=>first | exact oL | exact get_set (by assumption));(conv=>whnf))))
  refine callK_of (c20 hw) ?_
  rintro _ _ ⟨rfl,rfl⟩
  conv=>whnf
  (repeat (first | ((first | (apply exA;(focus exact oN)) | refine ⟨fun _=>?_,fun h=>absurd (by first | assumption | rfl | decide | omega) h⟩ | refine ⟨fun h=>absurd h (by first | assumption | rfl | decide | omega),fun _=>?_⟩ | refine And.intro ⟨by exact fitS,by exact fitS⟩ ⟨fun _=>?_,fun h=>absurd (by first | assumption | rfl | decide | omega) h⟩ | refine And.intro ⟨by exact fitS,by exact fitS⟩ ⟨fun h=>absurd h (by first | assumption | rfl | decide | omega),fun _=>?_⟩ | (apply callK_pure;(focus assumption)) | (apply callK_eq;(focus assumption)) | refine ⟨by first | decide | omega,?_⟩);((conv=>whnf))) | ((conv in (_[_]?)=>tactic=>first | exact oL | exact get_set (by assumption));(conv=>whnf))))
  refine last _ _ fun H'=>?_
  conv=>whnf
  first | rfl | ((repeat (first | ((first | (apply exA;(focus exact oN)) | refine ⟨fun _=>?_,fun h=>absurd (by first | assumption | rfl | decide | omega) h⟩ | refine ⟨fun h=>absurd h (by first | assumption | rfl | decide | omega),fun _=>?_⟩ | refine And.intro ⟨by exact fitS,by exact fitS⟩ ⟨fun _=>?_,fun h=>absurd (by first | assumption | rfl | decide | omega) h⟩ | refine And.intro ⟨by exact fitS,by exact fitS⟩ ⟨fun h=>absurd h (by first | assumption | rfl | decide | omega),fun _=>?_⟩ | (apply callK_pure;(focus assumption)) | (apply callK_eq;(focus assumption)) | refine ⟨by first | decide | omega,?_⟩);((conv=>whnf))) | ((conv in (_[_]?)=>tactic=>first | exact oL | exact get_set (by assumption));(conv=>whnf))));rfl)
 rw [if_neg (show ¬(50+5<50+by'∨50+by'<50 - 5) by omega),if_neg (show ¬(90:Int)<50 by decide)] at hR
 obtain ⟨R,hRd⟩:∃R:RepO×Int,R=(⟨pS.r,pS.n,aedu,mail,1,b1,b2⟩,0):=⟨_,rfl⟩
 rw [←hRd] at hR
 have hR2:R.2=0:=by rw [hRd]
 have hb:bump R 0 1=1:=by unfold bump;rw [hR2];rfl
 refine drawK_call 7 (D8a Y.length) _ (Y++[z64]) (by kernel_rfl) rfl ⟨rfl,rfl⟩ ⟨⟨rfl,rfl⟩,trivial⟩ ?_
 conv=>whnf
 (repeat (first | ((first | (apply exA;(focus exact oN)) | refine ⟨fun _=>?_,fun h=>absurd (by first | assumption | rfl | decide | omega) h⟩ | refine ⟨fun h=>absurd h (by first | assumption | rfl | decide | omega),fun _=>?_⟩ | refine And.intro ⟨by exact fitS,by exact fitS⟩ ⟨fun _=>?_,fun h=>absurd (by first | assumption | rfl | decide | omega) h⟩ | refine And.intro ⟨by exact fitS,by exact fitS⟩ ⟨fun h=>absurd h (by first | assumption | rfl | decide | omega),fun _=>?_⟩ | (apply callK_pure;(focus assumption)) | (apply callK_eq;(focus assumption)) | refine ⟨by first | decide | omega,?_⟩);((conv=>whnf))) | ((conv in (_[_]?)=>tactic=>first | exact oL | exact get_set (by assumption));(conv=>whnf))))
 refine callK_args (args':=[.agg [.str aedu,.str (krb aedu)],.agg ((keyN 10).map byteC),.agg pS.cells,.agg a.cells,.agg [.str aedu,.str mail],.int .i64 90]) rfl (callK_of (c28x aedu (krb aedu) 10 hP hA aedu mail 90 _) ?_)
 rintro _ Y1 ⟨rfl,e1⟩
 have hz1:Y1[Y.length]? = some z64:=e1.look (get_last Y _) id z64T.1 z64T.2
 refine ⟨[Y++[z64],Y1,Y1.set Y.length (⟨64,(qT pS a 90).cells,1⟩:PObj)],rfl,?_⟩
 conv=>whnf
 (repeat (first | ((first | (apply exA;(focus exact oN)) | refine ⟨fun _=>?_,fun h=>absurd (by first | assumption | rfl | decide | omega) h⟩ | refine ⟨fun h=>absurd h (by first | assumption | rfl | decide | omega),fun _=>?_⟩ | refine And.intro ⟨by exact fitS,by exact fitS⟩ ⟨fun _=>?_,fun h=>absurd (by first | assumption | rfl | decide | omega) h⟩ | refine And.intro ⟨by exact fitS,by exact fitS⟩ ⟨fun h=>absurd h (by first | assumption | rfl | decide | omega),fun _=>?_⟩ | (apply callK_pure;(focus assumption)) | (apply callK_eq;(focus assumption)) | refine ⟨by first | decide | omega,?_⟩);((conv=>whnf))) | ((conv in (_[_]?)=>tactic=>first | exact oL | exact get_set (by assumption));(conv=>whnf))))
 obtain ⟨Z,hZ⟩:∃Z,Z=Y1.set Y.length (⟨64,(qT pS a 90).cells,1⟩:PObj):=⟨_,rfl⟩
 have eZ:Evo (fun _=>False) X Z:=by rw [hZ];exact ((eY.trans (Evo.app _ _)).trans e1).put hz1 z64T.1 z64T.2 eY.len _
 have hqZ:Z[Y.length]? = some (⟨64,(qT pS a 90).cells,1⟩:PObj):=by rw [hZ];exact get_set hz1
 have hpZ:=eZ.look hp id (o36T _ _).1 (o36T _ _).2
 have eZ1:Evo (fun _=>False) Z (Z++[z30]):=Evo.app Z _
 have hqZ1:=eZ1.look hqZ id z64T.1 z64T.2
 have hpZ1:=eZ1.look hpZ id (o36T _ _).1 (o36T _ _).2
 refine drawK_at hZ.symm ?_
 refine drawK_call 6 (D8b Z.length) _ (Z++[z30]) (by kernel_rfl) rfl ⟨rfl,rfl⟩ ⟨⟨rfl,rfl⟩,trivial⟩ ?_
 conv=>whnf
 (repeat (first | ((first | (apply exA;(focus exact oN)) | refine ⟨fun _=>?_,fun h=>absurd (by first | assumption | rfl | decide | omega) h⟩ | refine ⟨fun h=>absurd h (by first | assumption | rfl | decide | omega),fun _=>?_⟩ | refine And.intro ⟨by exact fitS,by exact fitS⟩ ⟨fun _=>?_,fun h=>absurd (by first | assumption | rfl | decide | omega) h⟩ | refine And.intro ⟨by exact fitS,by exact fitS⟩ ⟨fun h=>absurd h (by first | assumption | rfl | decide | omega),fun _=>?_⟩ | (apply callK_pure;(focus assumption)) | (apply callK_eq;(focus assumption)) | refine ⟨by first | decide | omega,?_⟩);((conv=>whnf))) | ((conv in (_[_]?)=>tactic=>first | exact oL | exact get_set (by assumption));(conv=>whnf))))
 refine callK_args (args':=[.ptr (some (kid,0)),.agg (qT pS a 90).cells,.int .i64 50,.agg (keyC (drawN 6))]) rfl (callK_of (c29r (hK.evo (eZ.trans eZ1) id id) (by decide) (by decide) (by decide) (qT pS a 90) (qT_fit 90 hP hA) rfl rfl 50 (drawN 6)) ?_)
 rintro _ Z1 ⟨rfl,hK1,e2⟩
 have hRR:tgsV aedu l ((0:Nat):Int) (qT pS a 90) 50 (drawN 6) (targetV aedu l (qT pS a 90).sn) (fun p=>(p.tr,0))=R:=hR
 rw [hRR] at hK1 ⊢
 have hz2:Z1[Z.length]? = some z30:=e2.look (get_last Z _) (by have:=eZ.len;show ¬Z.length=kid;omega) z30T.1 z30T.2
 refine ⟨[Z++[z30],Z1,Z1.set Z.length (⟨30,R.1.cells,1⟩:PObj)],rfl,?_⟩
 have hlZ:=eZ.len
 have hrl:H.length<X.length:=by have:=hK.ring.ex.choose_spec;exact (List.getElem?_eq_some_iff.1 this).1
 have e3:∀o,Evo (·=Z.length) Z1 (Z1.set Z.length o):=fun o=>Evo.setOther hz2 rfl z30T.1 z30T.2
 have hK2:=hK1.evo (e3 ⟨30,R.1.cells,1⟩) (by show ¬kid=Z.length;omega) (by show ¬H.length=Z.length;omega)
 have hpZ2:=(e3 ⟨30,R.1.cells,1⟩).look (e2.look hpZ1 hpk (o36T _ _).1 (o36T _ _).2) (by show ¬pid=Z.length;omega) (o36T _ _).1 (o36T _ _).2
 have ho2:(Z1.set Z.length (⟨30,R.1.cells,1⟩:PObj))[Z.length]? = some ⟨30,R.1.cells,1⟩:=get_set hz2
 rw [hb] at hK2
 obtain ⟨w,hw⟩:=hK2.k
 conv=>whnf
 (repeat (first | ((first | (apply exA;(focus exact oN)) | refine ⟨fun _=>?_,fun h=>absurd (by first | assumption | rfl | decide | omega) h⟩ | refine ⟨fun h=>absurd h (by first | assumption | rfl | decide | omega),fun _=>?_⟩ | refine And.intro ⟨by exact fitS,by exact fitS⟩ ⟨fun _=>?_,fun h=>absurd (by first | assumption | rfl | decide | omega) h⟩ | refine And.intro ⟨by exact fitS,by exact fitS⟩ ⟨fun h=>absurd h (by first | assumption | rfl | decide | omega),fun _=>?_⟩ | (apply callK_pure;(focus assumption)) | (apply callK_eq;(focus assumption)) | refine ⟨by first | decide | omega,?_⟩);((conv=>whnf))) | ((conv in (_[_]?)=>tactic=>first | exact oL | exact get_set (by assumption));(conv=>whnf))))
 refine callK_of (c20 hw) ?_
 rintro _ _ ⟨rfl,rfl⟩
 conv=>whnf
 (repeat (first | ((first | (apply exA;(focus exact oN)) | refine ⟨fun _=>?_,fun h=>absurd (by first | assumption | rfl | decide | omega) h⟩ | refine ⟨fun h=>absurd h (by first | assumption | rfl | decide | omega),fun _=>?_⟩ | refine And.intro ⟨by exact fitS,by exact fitS⟩ ⟨fun _=>?_,fun h=>absurd (by first | assumption | rfl | decide | omega) h⟩ | refine And.intro ⟨by exact fitS,by exact fitS⟩ ⟨fun h=>absurd h (by first | assumption | rfl | decide | omega),fun _=>?_⟩ | (apply callK_pure;(focus assumption)) | (apply callK_eq;(focus assumption)) | refine ⟨by first | decide | omega,?_⟩);((conv=>whnf))) | ((conv in (_[_]?)=>tactic=>first | exact oL | exact get_set (by assumption));(conv=>whnf))))
 refine last _ _ fun H'=>?_
 conv=>whnf
 first | rfl | ((repeat (first | ((first | (apply exA;(focus exact oN)) | refine ⟨fun _=>?_,fun h=>absurd (by first | assumption | rfl | decide | omega) h⟩ | refine ⟨fun h=>absurd h (by first | assumption | rfl | decide | omega),fun _=>?_⟩ | refine And.intro ⟨by exact fitS,by exact fitS⟩ ⟨fun _=>?_,fun h=>absurd (by first | assumption | rfl | decide | omega) h⟩ | refine And.intro ⟨by exact fitS,by exact fitS⟩ ⟨fun h=>absurd h (by first | assumption | rfl | decide | omega),fun _=>?_⟩ | (apply callK_pure;(focus assumption)) | (apply callK_eq;(focus assumption)) | refine ⟨by first | decide | omega,?_⟩);((conv=>whnf))) | ((conv in (_[_]?)=>tactic=>first | exact oL | exact get_set (by assumption));(conv=>whnf))));rfl)
theorem c8sT (by':Int) (H:PH):CallOk prog 8 [.int .i64 by',.bool true] H fun r _=>r=.bool true:=by
 (refine fnS (imm:=imm8t) ttT4_ok func8 ?_;(conv=>whnf))
 by_cases h1:by' < -20
 ·(repeat (first | ((first | (apply exA;(focus exact oN)) | refine ⟨fun _=>?_,fun h=>absurd (by first | assumption | rfl | decide | omega) h⟩ | refine ⟨fun h=>absurd h (by first | assumption | rfl | decide | omega),fun _=>?_⟩ | refine And.intro ⟨by exact fitS,by exact fitS⟩ ⟨fun _=>?_,fun h=>absurd (by first | assumption | rfl | decide | omega) h⟩ | refine And.intro ⟨by exact fitS,by exact fitS⟩ ⟨fun h=>absurd h (by first | assumption | rfl | decide | omega),fun _=>?_⟩ | (apply callK_pure;(focus assumption)) | (apply callK_eq;(focus assumption)) | refine ⟨by first | decide | omega,?_⟩);((conv=>whnf))) | ((conv in (_[_]?)=>tactic=>first | exact oL | exact get_set (by assumption));(conv=>whnf))));rfl
 by_cases h2:20<by'
 ·(repeat (first | ((first | (apply exA;(focus exact oN)) | refine ⟨fun _=>?_,fun h=>absurd (by first | assumption | rfl | decide | omega) h⟩ | refine ⟨fun h=>absurd h (by first | assumption | rfl | decide | omega),fun _=>?_⟩ | refine And.intro ⟨by exact fitS,by exact fitS⟩ ⟨fun _=>?_,fun h=>absurd (by first | assumption | rfl | decide | omega) h⟩ | refine And.intro ⟨by exact fitS,by exact fitS⟩ ⟨fun h=>absurd h (by first | assumption | rfl | decide | omega),fun _=>?_⟩ | (apply callK_pure;(focus assumption)) | (apply callK_eq;(focus assumption)) | refine ⟨by first | decide | omega,?_⟩);((conv=>whnf))) | ((conv in (_[_]?)=>tactic=>first | exact oL | exact get_set (by assumption));(conv=>whnf))));rfl
 (repeat (first | ((first | (apply exA;(focus exact oN)) | refine ⟨fun _=>?_,fun h=>absurd (by first | assumption | rfl | decide | omega) h⟩ | refine ⟨fun h=>absurd h (by first | assumption | rfl | decide | omega),fun _=>?_⟩ | refine And.intro ⟨by exact fitS,by exact fitS⟩ ⟨fun _=>?_,fun h=>absurd (by first | assumption | rfl | decide | omega) h⟩ | refine And.intro ⟨by exact fitS,by exact fitS⟩ ⟨fun h=>absurd h (by first | assumption | rfl | decide | omega),fun _=>?_⟩ | (apply callK_pure;(focus assumption)) | (apply callK_eq;(focus assumption)) | refine ⟨by first | decide | omega,?_⟩);((conv=>whnf))) | ((conv in (_[_]?)=>tactic=>first | exact oL | exact get_set (by assumption));(conv=>whnf))))
 refine callK_of (c15x H) ?_
 rintro _ X ⟨kid,xid,pid,l,v,rfl,hsm,hinc,hK,hxk,hxr,hp,hev⟩
 conv=>whnf
 have k1:Pure prog 18 [.str aedu,.str aedu] (.agg [.str aedu,.str (krb aedu)]):=c18 _ _ (by decide)
 have k3:=c17
 have k4:=c27
 have k10:=c19 10
 have k5:=c19 5
 have k6:=c19 6
 have hlp:pid<X.length:=(List.getElem?_eq_some_iff.1 hp).1
 have hlk:kid<X.length:=by obtain ⟨v,hv⟩:=hK.k;exact (List.getElem?_eq_some_iff.1 hv).1
 have hpk:pid≠kid:=by
  rintro rfl
  obtain ⟨w,hw⟩:=hK.k
  rw [hp] at hw
  exact absurd (congrArg (fun o=>o.map PObj.T) hw) (by intro h;exact absurd (Option.some.inj h) (show ¬36=134 by decide))
 have last:∀(H:PH) (K:PV→PH→Prop),(∀H',K (.bool true) H')→callK prog 21 [] H K:=fun H K h=>callK_of (c21 H) fun r H' hr=>by rw [hr];exact h H'
 have w50:IntKind.i64.wrap (50+by')=50+by':=wrap64 (by omega) (by omega)
 have hP:=pS_ok
 obtain ⟨a,ha⟩:∃a:Aut,a=⟨aedu,mail,IntKind.i64.wrap (50+by'),0⟩:=⟨_,rfl⟩
 have hA:isAutB a=true:=by
  rw [ha]
  show (isPrincB aedu mail&&inZ (IntKind.i64.wrap (50+by')) 0 1073741824&&inZ 0 0 1073741824)=true
  rw [prMail,w50,inZ_of (by omega) (by omega)];rfl
 conv=>whnf
 (repeat (first | ((first | (apply exA;(focus exact oN)) | refine ⟨fun _=>?_,fun h=>absurd (by first | assumption | rfl | decide | omega) h⟩ | refine ⟨fun h=>absurd h (by first | assumption | rfl | decide | omega),fun _=>?_⟩ | refine And.intro ⟨by exact fitS,by exact fitS⟩ ⟨fun _=>?_,fun h=>absurd (by first | assumption | rfl | decide | omega) h⟩ | refine And.intro ⟨by exact fitS,by exact fitS⟩ ⟨fun h=>absurd h (by first | assumption | rfl | decide | omega),fun _=>?_⟩ | (apply callK_pure;(focus assumption)) | (apply callK_eq;(focus assumption)) | refine ⟨by first | decide | omega,?_⟩);((conv=>whnf))) | ((conv in (_[_]?)=>tactic=>first | exact oL | exact get_set (by assumption));(conv=>whnf))))
 obtain ⟨Y,hY⟩:∃Y,Y=X++[(⟨68,(⟨aedu,mail,IntKind.i64.wrap (50+by'),0⟩:Aut).cells,2⟩:PObj)]:=⟨_,rfl⟩
 have eY:Evo (fun _=>False) X Y:=by rw [hY];exact Evo.app _ _
 have hY0:Y[X.length]? = some (⟨68,a.cells,2⟩:PObj):=by rw [hY,ha];exact get_last X _
 have hY1:(Y++[z64])[X.length]? = some (⟨68,a.cells,2⟩:PObj):=by rw [List.getElem?_append_left (List.getElem?_eq_some_iff.1 hY0).1];exact hY0
 refine drawK_at (((congrArg (fun z=>List.set z X.length _) (set_last X _ _)).trans (set_last X _ _)).trans hY.symm) ?_
 obtain ⟨b1,b2,_,hR⟩:=tgsT2 hsm ((0:Nat):Int) (p:=pS) (a:=a) (till:=90) (now:=50) (drawN 6) hP hA (by decide) (by decide) (by decide) (by decide)
 rw [if_neg (show ¬pS.en<50 by decide),if_neg (show ¬50+5<pS.st by decide)] at hR
 rw [if_pos (show ¬(a.r=pS.r∧a.n=pS.n) from fun h=>absurd (show mail=ann by have:=h.2;rw [ha] at this;exact this) (by decide))] at hR
 by_cases c1:5<by'
 ·obtain ⟨R,hRd⟩:∃R:RepO×Int,R=(repZ,9):=⟨_,rfl⟩
  rw [←hRd] at hR
  have hR2:R.2=9:=by rw [hRd]
  have hb:bump R 0 1=0:=by unfold bump;rw [hR2];rfl
  refine drawK_call 7 (D8a Y.length) _ (Y++[z64]) (by kernel_rfl) rfl ⟨rfl,rfl⟩ ⟨⟨rfl,rfl⟩,trivial⟩ ?_
  conv=>whnf
  (repeat (first | ((first | (apply exA;(focus exact oN)) | refine ⟨fun _=>?_,fun h=>absurd (by first | assumption | rfl | decide | omega) h⟩ | refine ⟨fun h=>absurd h (by first | assumption | rfl | decide | omega),fun _=>?_⟩ | refine And.intro ⟨by exact fitS,by exact fitS⟩ ⟨fun _=>?_,fun h=>absurd (by first | assumption | rfl | decide | omega) h⟩ | refine And.intro ⟨by exact fitS,by exact fitS⟩ ⟨fun h=>absurd h (by first | assumption | rfl | decide | omega),fun _=>?_⟩ | (apply callK_pure;(focus assumption)) | (apply callK_eq;(focus assumption)) | refine ⟨by first | decide | omega,?_⟩);((conv=>whnf))) | ((conv in (_[_]?)=>tactic=>first | exact oL | exact get_set (by assumption));(conv=>whnf))))
  refine callK_args (args':=[.agg [.str aedu,.str (krb aedu)],.agg ((keyN 10).map byteC),.agg pS.cells,.agg a.cells,.agg [.str aedu,.str mail],.int .i64 90]) rfl (callK_of (c28x aedu (krb aedu) 10 hP hA aedu mail 90 _) ?_)
  rintro _ Y1 ⟨rfl,e1⟩
  have hz1:Y1[Y.length]? = some z64:=e1.look (get_last Y _) id z64T.1 z64T.2
  refine ⟨[Y++[z64],Y1,Y1.set Y.length (⟨64,(qT pS a 90).cells,1⟩:PObj)],rfl,?_⟩
  conv=>whnf
  (repeat (first | ((first | (apply exA;(focus exact oN)) | refine ⟨fun _=>?_,fun h=>absurd (by first | assumption | rfl | decide | omega) h⟩ | refine ⟨fun h=>absurd h (by first | assumption | rfl | decide | omega),fun _=>?_⟩ | refine And.intro ⟨by exact fitS,by exact fitS⟩ ⟨fun _=>?_,fun h=>absurd (by first | assumption | rfl | decide | omega) h⟩ | refine And.intro ⟨by exact fitS,by exact fitS⟩ ⟨fun h=>absurd h (by first | assumption | rfl | decide | omega),fun _=>?_⟩ | (apply callK_pure;(focus assumption)) | (apply callK_eq;(focus assumption)) | refine ⟨by first | decide | omega,?_⟩);((conv=>whnf))) | ((conv in (_[_]?)=>tactic=>first | exact oL | exact get_set (by assumption));(conv=>whnf))))
  obtain ⟨Z,hZ⟩:∃Z,Z=Y1.set Y.length (⟨64,(qT pS a 90).cells,1⟩:PObj):=⟨_,rfl⟩
  have eZ:Evo (fun _=>False) X Z:=by rw [hZ];exact ((eY.trans (Evo.app _ _)).trans e1).put hz1 z64T.1 z64T.2 eY.len _
  have hqZ:Z[Y.length]? = some (⟨64,(qT pS a 90).cells,1⟩:PObj):=by rw [hZ];exact get_set hz1
  have hpZ:=eZ.look hp id (o36T _ _).1 (o36T _ _).2
  have eZ1:Evo (fun _=>False) Z (Z++[z30]):=Evo.app Z _
  have hqZ1:=eZ1.look hqZ id z64T.1 z64T.2
  have hpZ1:=eZ1.look hpZ id (o36T _ _).1 (o36T _ _).2
  refine drawK_at hZ.symm ?_
  refine drawK_call 6 (D8b Z.length) _ (Z++[z30]) (by kernel_rfl) rfl ⟨rfl,rfl⟩ ⟨⟨rfl,rfl⟩,trivial⟩ ?_
  conv=>whnf
  (repeat (first | ((first | (apply exA;(focus exact oN)) | refine ⟨fun _=>?_,fun h=>absurd (by first | assumption | rfl | decide | omega) h⟩ | refine ⟨fun h=>absurd h (by first | assumption | rfl | decide | omega),fun _=>?_⟩ | refine And.intro ⟨by exact fitS,by exact fitS⟩ ⟨fun _=>?_,fun h=>absurd (by first | assumption | rfl | decide | omega) h⟩ | refine And.intro ⟨by exact fitS,by exact fitS⟩ ⟨fun h=>absurd h (by first | assumption | rfl | decide | omega),fun _=>?_⟩ | (apply callK_pure;(focus assumption)) | (apply callK_eq;(focus assumption)) | refine ⟨by first | decide | omega,?_⟩);((conv=>whnf))) | ((conv in (_[_]?)=>tactic=>first | exact oL | exact get_set (by assumption));(conv=>whnf))))
  refine callK_args (args':=[.ptr (some (kid,0)),.agg (qT pS a 90).cells,.int .i64 50,.agg (keyC (drawN 6))]) rfl (callK_of (c29r (hK.evo (eZ.trans eZ1) id id) (by decide) (by decide) (by decide) (qT pS a 90) (qT_fit 90 hP hA) rfl rfl 50 (drawN 6)) ?_)
  rintro _ Z1 ⟨rfl,hK1,e2⟩
  have hRR:tgsV aedu l ((0:Nat):Int) (qT pS a 90) 50 (drawN 6) (targetV aedu l (qT pS a 90).sn) (fun p=>(p.tr,0))=R:=hR
  rw [hRR] at hK1 ⊢
  have hz2:Z1[Z.length]? = some z30:=e2.look (get_last Z _) (by have:=eZ.len;show ¬Z.length=kid;omega) z30T.1 z30T.2
  refine ⟨[Z++[z30],Z1,Z1.set Z.length (⟨30,R.1.cells,1⟩:PObj)],rfl,?_⟩
  have hlZ:=eZ.len
  have hrl:H.length<X.length:=by have:=hK.ring.ex.choose_spec;exact (List.getElem?_eq_some_iff.1 this).1
  have e3:∀o,Evo (·=Z.length) Z1 (Z1.set Z.length o):=fun o=>Evo.setOther hz2 rfl z30T.1 z30T.2
  have hK2:=hK1.evo (e3 ⟨30,R.1.cells,1⟩) (by show ¬kid=Z.length;omega) (by show ¬H.length=Z.length;omega)
  have hpZ2:=(e3 ⟨30,R.1.cells,1⟩).look (e2.look hpZ1 hpk (o36T _ _).1 (o36T _ _).2) (by show ¬pid=Z.length;omega) (o36T _ _).1 (o36T _ _).2
  have ho2:(Z1.set Z.length (⟨30,R.1.cells,1⟩:PObj))[Z.length]? = some ⟨30,R.1.cells,1⟩:=get_set hz2
  rw [hb] at hK2
  obtain ⟨w,hw⟩:=hK2.k
  conv=>whnf
  (repeat (first | ((first | (apply exA;(focus exact oN)) | refine ⟨fun _=>?_,fun h=>absurd (by first | assumption | rfl | decide | omega) h⟩ | refine ⟨fun h=>absurd h (by first | assumption | rfl | decide | omega),fun _=>?_⟩ | refine And.intro ⟨by exact fitS,by exact fitS⟩ ⟨fun _=>?_,fun h=>absurd (by first | assumption | rfl | decide | omega) h⟩ | refine And.intro ⟨by exact fitS,by exact fitS⟩ ⟨fun h=>absurd h (by first | assumption | rfl | decide | omega),fun _=>?_⟩ | (apply callK_pure;(focus assumption)) | (apply callK_eq;(focus assumption)) | refine ⟨by first | decide | omega,?_⟩);((conv=>whnf))) | ((conv in (_[_]?)=>tactic=>first | exact oL | exact get_set (by assumption));(conv=>whnf))))
  refine callK_of (c20 hw) ?_
  rintro _ _ ⟨rfl,rfl⟩
  conv=>whnf
  (repeat (first | ((first | (apply exA;(focus exact oN)) | refine ⟨fun _=>?_,fun h=>absurd (by first | assumption | rfl | decide | omega) h⟩ | refine ⟨fun h=>absurd h (by first | assumption | rfl | decide | omega),fun _=>?_⟩ | refine And.intro ⟨by exact fitS,by exact fitS⟩ ⟨fun _=>?_,fun h=>absurd (by first | assumption | rfl | decide | omega) h⟩ | refine And.intro ⟨by exact fitS,by exact fitS⟩ ⟨fun h=>absurd h (by first | assumption | rfl | decide | omega),fun _=>?_⟩ | (apply callK_pure;(focus assumption)) | (apply callK_eq;(focus assumption)) | refine ⟨by first | decide | omega,?_⟩);((conv=>whnf))) | ((conv in (_[_]?)=>tactic=>first | exact oL | exact get_set (by assumption));(conv=>whnf))))
  refine last _ _ fun H'=>?_
  conv=>whnf
  first | rfl | ((repeat (first | ((first | (apply exA;(focus exact oN)) | refine ⟨fun _=>?_,fun h=>absurd (by first | assumption | rfl | decide | omega) h⟩ | refine ⟨fun h=>absurd h (by first | assumption | rfl | decide | omega),fun _=>?_⟩ | refine And.intro ⟨by exact fitS,by exact fitS⟩ ⟨fun _=>?_,fun h=>absurd (by first | assumption | rfl | decide | omega) h⟩ | refine And.intro ⟨by exact fitS,by exact fitS⟩ ⟨fun h=>absurd h (by first | assumption | rfl | decide | omega),fun _=>?_⟩ | (apply callK_pure;(focus assumption)) | (apply callK_eq;(focus assumption)) | refine ⟨by first | decide | omega,?_⟩);((conv=>whnf))) | ((conv in (_[_]?)=>tactic=>first | exact oL | exact get_set (by assumption));(conv=>whnf))));rfl)
 by_cases c2:by' < -5
 ·obtain ⟨R,hRd⟩:∃R:RepO×Int,R=(repZ,9):=⟨_,rfl⟩
  rw [←hRd] at hR
  have hR2:R.2=9:=by rw [hRd]
  have hb:bump R 0 1=0:=by unfold bump;rw [hR2];rfl
  refine drawK_call 7 (D8a Y.length) _ (Y++[z64]) (by kernel_rfl) rfl ⟨rfl,rfl⟩ ⟨⟨rfl,rfl⟩,trivial⟩ ?_
  conv=>whnf
  (repeat (first | ((first | (apply exA;(focus exact oN)) | refine ⟨fun _=>?_,fun h=>absurd (by first | assumption | rfl | decide | omega) h⟩ | refine ⟨fun h=>absurd h (by first | assumption | rfl | decide | omega),fun _=>?_⟩ | refine And.intro ⟨by exact fitS,by exact fitS⟩ ⟨fun _=>?_,fun h=>absurd (by first | assumption | rfl | decide | omega) h⟩ | refine And.intro ⟨by exact fitS,by exact fitS⟩ ⟨fun h=>absurd h (by first | assumption | rfl | decide | omega),fun _=>?_⟩ | (apply callK_pure;(focus assumption)) | (apply callK_eq;(focus assumption)) | refine ⟨by first | decide | omega,?_⟩);((conv=>whnf))) | ((conv in (_[_]?)=>tactic=>first | exact oL | exact get_set (by assumption));(conv=>whnf))))
  refine callK_args (args':=[.agg [.str aedu,.str (krb aedu)],.agg ((keyN 10).map byteC),.agg pS.cells,.agg a.cells,.agg [.str aedu,.str mail],.int .i64 90]) rfl (callK_of (c28x aedu (krb aedu) 10 hP hA aedu mail 90 _) ?_)
  rintro _ Y1 ⟨rfl,e1⟩
  have hz1:Y1[Y.length]? = some z64:=e1.look (get_last Y _) id z64T.1 z64T.2
  refine ⟨[Y++[z64],Y1,Y1.set Y.length (⟨64,(qT pS a 90).cells,1⟩:PObj)],rfl,?_⟩
  conv=>whnf
  (repeat (first | ((first | (apply exA;(focus exact oN)) | refine ⟨fun _=>?_,fun h=>absurd (by first | assumption | rfl | decide | omega) h⟩ | refine ⟨fun h=>absurd h (by first | assumption | rfl | decide | omega),fun _=>?_⟩ | refine And.intro ⟨by exact fitS,by exact fitS⟩ ⟨fun _=>?_,fun h=>absurd (by first | assumption | rfl | decide | omega) h⟩ | refine And.intro ⟨by exact fitS,by exact fitS⟩ ⟨fun h=>absurd h (by first | assumption | rfl | decide | omega),fun _=>?_⟩ | (apply callK_pure;(focus assumption)) | (apply callK_eq;(focus assumption)) | refine ⟨by first | decide | omega,?_⟩);((conv=>whnf))) | ((conv in (_[_]?)=>tactic=>first | exact oL | exact get_set (by assumption));(conv=>whnf))))
  obtain ⟨Z,hZ⟩:∃Z,Z=Y1.set Y.length (⟨64,(qT pS a 90).cells,1⟩:PObj):=⟨_,rfl⟩
  have eZ:Evo (fun _=>False) X Z:=by rw [hZ];exact ((eY.trans (Evo.app _ _)).trans e1).put hz1 z64T.1 z64T.2 eY.len _
  have hqZ:Z[Y.length]? = some (⟨64,(qT pS a 90).cells,1⟩:PObj):=by rw [hZ];exact get_set hz1
  have hpZ:=eZ.look hp id (o36T _ _).1 (o36T _ _).2
  have eZ1:Evo (fun _=>False) Z (Z++[z30]):=Evo.app Z _
  have hqZ1:=eZ1.look hqZ id z64T.1 z64T.2
  have hpZ1:=eZ1.look hpZ id (o36T _ _).1 (o36T _ _).2
  refine drawK_at hZ.symm ?_
  refine drawK_call 6 (D8b Z.length) _ (Z++[z30]) (by kernel_rfl) rfl ⟨rfl,rfl⟩ ⟨⟨rfl,rfl⟩,trivial⟩ ?_
  conv=>whnf
  (repeat (first | ((first | (apply exA;(focus exact oN)) | refine ⟨fun _=>?_,fun h=>absurd (by first | assumption | rfl | decide | omega) h⟩ | refine ⟨fun h=>absurd h (by first | assumption | rfl | decide | omega),fun _=>?_⟩ | refine And.intro ⟨by exact fitS,by exact fitS⟩ ⟨fun _=>?_,fun h=>absurd (by first | assumption | rfl | decide | omega) h⟩ | refine And.intro ⟨by exact fitS,by exact fitS⟩ ⟨fun h=>absurd h (by first | assumption | rfl | decide | omega),fun _=>?_⟩ | (apply callK_pure;(focus assumption)) | (apply callK_eq;(focus assumption)) | refine ⟨by first | decide | omega,?_⟩);((conv=>whnf))) | ((conv in (_[_]?)=>tactic=>first | exact oL | exact get_set (by assumption));(conv=>whnf))))
  refine callK_args (args':=[.ptr (some (kid,0)),.agg (qT pS a 90).cells,.int .i64 50,.agg (keyC (drawN 6))]) rfl (callK_of (c29r (hK.evo (eZ.trans eZ1) id id) (by decide) (by decide) (by decide) (qT pS a 90) (qT_fit 90 hP hA) rfl rfl 50 (drawN 6)) ?_)
  rintro _ Z1 ⟨rfl,hK1,e2⟩
  have hRR:tgsV aedu l ((0:Nat):Int) (qT pS a 90) 50 (drawN 6) (targetV aedu l (qT pS a 90).sn) (fun p=>(p.tr,0))=R:=hR
  rw [hRR] at hK1 ⊢
  have hz2:Z1[Z.length]? = some z30:=e2.look (get_last Z _) (by have:=eZ.len;show ¬Z.length=kid;omega) z30T.1 z30T.2
  refine ⟨[Z++[z30],Z1,Z1.set Z.length (⟨30,R.1.cells,1⟩:PObj)],rfl,?_⟩
  have hlZ:=eZ.len
  have hrl:H.length<X.length:=by have:=hK.ring.ex.choose_spec;exact (List.getElem?_eq_some_iff.1 this).1
  have e3:∀o,Evo (·=Z.length) Z1 (Z1.set Z.length o):=fun o=>Evo.setOther hz2 rfl z30T.1 z30T.2
  have hK2:=hK1.evo (e3 ⟨30,R.1.cells,1⟩) (by show ¬kid=Z.length;omega) (by show ¬H.length=Z.length;omega)
  have hpZ2:=(e3 ⟨30,R.1.cells,1⟩).look (e2.look hpZ1 hpk (o36T _ _).1 (o36T _ _).2) (by show ¬pid=Z.length;omega) (o36T _ _).1 (o36T _ _).2
  have ho2:(Z1.set Z.length (⟨30,R.1.cells,1⟩:PObj))[Z.length]? = some ⟨30,R.1.cells,1⟩:=get_set hz2
  rw [hb] at hK2
  obtain ⟨w,hw⟩:=hK2.k
  conv=>whnf
  (repeat (first | ((first | (apply exA;(focus exact oN)) | refine ⟨fun _=>?_,fun h=>absurd (by first | assumption | rfl | decide | omega) h⟩ | refine ⟨fun h=>absurd h (by first | assumption | rfl | decide | omega),fun _=>?_⟩ | refine And.intro ⟨by exact fitS,by exact fitS⟩ ⟨fun _=>?_,fun h=>absurd (by first | assumption | rfl | decide | omega) h⟩ | refine And.intro ⟨by exact fitS,by exact fitS⟩ ⟨fun h=>absurd h (by first | assumption | rfl | decide | omega),fun _=>?_⟩ | (apply callK_pure;(focus assumption)) | (apply callK_eq;(focus assumption)) | refine ⟨by first | decide | omega,?_⟩);((conv=>whnf))) | ((conv in (_[_]?)=>tactic=>first | exact oL | exact get_set (by assumption));(conv=>whnf))))
  refine callK_of (c20 hw) ?_
  rintro _ _ ⟨rfl,rfl⟩
  conv=>whnf
  (repeat (first | ((first | (apply exA;(focus exact oN)) | refine ⟨fun _=>?_,fun h=>absurd (by first | assumption | rfl | decide | omega) h⟩ | refine ⟨fun h=>absurd h (by first | assumption | rfl | decide | omega),fun _=>?_⟩ | refine And.intro ⟨by exact fitS,by exact fitS⟩ ⟨fun _=>?_,fun h=>absurd (by first | assumption | rfl | decide | omega) h⟩ | refine And.intro ⟨by exact fitS,by exact fitS⟩ ⟨fun h=>absurd h (by first | assumption | rfl | decide | omega),fun _=>?_⟩ | (apply callK_pure;(focus assumption)) | (apply callK_eq;(focus assumption)) | refine ⟨by first | decide | omega,?_⟩);((conv=>whnf))) | ((conv in (_[_]?)=>tactic=>first | exact oL | exact get_set (by assumption));(conv=>whnf))))
  refine last _ _ fun H'=>?_
  conv=>whnf
  first | rfl | ((repeat (first | ((first | (apply exA;(focus exact oN)) | refine ⟨fun _=>?_,fun h=>absurd (by first | assumption | rfl | decide | omega) h⟩ | refine ⟨fun h=>absurd h (by first | assumption | rfl | decide | omega),fun _=>?_⟩ | refine And.intro ⟨by exact fitS,by exact fitS⟩ ⟨fun _=>?_,fun h=>absurd (by first | assumption | rfl | decide | omega) h⟩ | refine And.intro ⟨by exact fitS,by exact fitS⟩ ⟨fun h=>absurd h (by first | assumption | rfl | decide | omega),fun _=>?_⟩ | (apply callK_pure;(focus assumption)) | (apply callK_eq;(focus assumption)) | refine ⟨by first | decide | omega,?_⟩);((conv=>whnf))) | ((conv in (_[_]?)=>tactic=>first | exact oL | exact get_set (by assumption));(conv=>whnf))));rfl)
 obtain ⟨R,hRd⟩:∃R:RepO×Int,R=(repZ,9):=⟨_,rfl⟩
 rw [←hRd] at hR
 have hR2:R.2=9:=by rw [hRd]
 have hb:bump R 0 1=0:=by unfold bump;rw [hR2];rfl
 refine drawK_call 7 (D8a Y.length) _ (Y++[z64]) (by kernel_rfl) rfl ⟨rfl,rfl⟩ ⟨⟨rfl,rfl⟩,trivial⟩ ?_
 conv=>whnf
 (repeat (first | ((first | (apply exA;(focus exact oN)) | refine ⟨fun _=>?_,fun h=>absurd (by first | assumption | rfl | decide | omega) h⟩ | refine ⟨fun h=>absurd h (by first | assumption | rfl | decide | omega),fun _=>?_⟩ | refine And.intro ⟨by exact fitS,by exact fitS⟩ ⟨fun _=>?_,fun h=>absurd (by first | assumption | rfl | decide | omega) h⟩ | refine And.intro ⟨by exact fitS,by exact fitS⟩ ⟨fun h=>absurd h (by first | assumption | rfl | decide | omega),fun _=>?_⟩ | (apply callK_pure;(focus assumption)) | (apply callK_eq;(focus assumption)) | refine ⟨by first | decide | omega,?_⟩);((conv=>whnf))) | ((conv in (_[_]?)=>tactic=>first | exact oL | exact get_set (by assumption));(conv=>whnf))))
 refine callK_args (args':=[.agg [.str aedu,.str (krb aedu)],.agg ((keyN 10).map byteC),.agg pS.cells,.agg a.cells,.agg [.str aedu,.str mail],.int .i64 90]) rfl (callK_of (c28x aedu (krb aedu) 10 hP hA aedu mail 90 _) ?_)
 rintro _ Y1 ⟨rfl,e1⟩
 have hz1:Y1[Y.length]? = some z64:=e1.look (get_last Y _) id z64T.1 z64T.2
 refine ⟨[Y++[z64],Y1,Y1.set Y.length (⟨64,(qT pS a 90).cells,1⟩:PObj)],rfl,?_⟩
 conv=>whnf
 (repeat (first | ((first | (apply exA;(focus exact oN)) | refine ⟨fun _=>?_,fun h=>absurd (by first | assumption | rfl | decide | omega) h⟩ | refine ⟨fun h=>absurd h (by first | assumption | rfl | decide | omega),fun _=>?_⟩ | refine And.intro ⟨by exact fitS,by exact fitS⟩ ⟨fun _=>?_,fun h=>absurd (by first | assumption | rfl | decide | omega) h⟩ | refine And.intro ⟨by exact fitS,by exact fitS⟩ ⟨fun h=>absurd h (by first | assumption | rfl | decide | omega),fun _=>?_⟩ | (apply callK_pure;(focus assumption)) | (apply callK_eq;(focus assumption)) | refine ⟨by first | decide | omega,?_⟩);((conv=>whnf))) | ((conv in (_[_]?)=>tactic=>first | exact oL | exact get_set (by assumption));(conv=>whnf))))
 obtain ⟨Z,hZ⟩:∃Z,Z=Y1.set Y.length (⟨64,(qT pS a 90).cells,1⟩:PObj):=⟨_,rfl⟩
 have eZ:Evo (fun _=>False) X Z:=by rw [hZ];exact ((eY.trans (Evo.app _ _)).trans e1).put hz1 z64T.1 z64T.2 eY.len _
 have hqZ:Z[Y.length]? = some (⟨64,(qT pS a 90).cells,1⟩:PObj):=by rw [hZ];exact get_set hz1
 have hpZ:=eZ.look hp id (o36T _ _).1 (o36T _ _).2
 have eZ1:Evo (fun _=>False) Z (Z++[z30]):=Evo.app Z _
 have hqZ1:=eZ1.look hqZ id z64T.1 z64T.2
 have hpZ1:=eZ1.look hpZ id (o36T _ _).1 (o36T _ _).2
 refine drawK_at hZ.symm ?_
 refine drawK_call 6 (D8b Z.length) _ (Z++[z30]) (by kernel_rfl) rfl ⟨rfl,rfl⟩ ⟨⟨rfl,rfl⟩,trivial⟩ ?_
 conv=>whnf
 (repeat (first | ((first | (apply exA;(focus exact oN)) | refine ⟨fun _=>?_,fun h=>absurd (by first | assumption | rfl | decide | omega) h⟩ | refine ⟨fun h=>absurd h (by first | assumption | rfl | decide | omega),fun _=>?_⟩ | refine And.intro ⟨by exact fitS,by exact fitS⟩ ⟨fun _=>?_,fun h=>absurd (by first | assumption | rfl | decide | omega) h⟩ | refine And.intro ⟨by exact fitS,by exact fitS⟩ ⟨fun h=>absurd h (by first | assumption | rfl | decide | omega),fun _=>?_⟩ | (apply callK_pure;(focus assumption)) | (apply callK_eq;(focus assumption)) | refine ⟨by first | decide | omega,?_⟩);((conv=>whnf))) | ((conv in (_[_]?)=>tactic=>first | exact oL | exact get_set (by assumption));(conv=>whnf))))
 refine callK_args (args':=[.ptr (some (kid,0)),.agg (qT pS a 90).cells,.int .i64 50,.agg (keyC (drawN 6))]) rfl (callK_of (c29r (hK.evo (eZ.trans eZ1) id id) (by decide) (by decide) (by decide) (qT pS a 90) (qT_fit 90 hP hA) rfl rfl 50 (drawN 6)) ?_)
 rintro _ Z1 ⟨rfl,hK1,e2⟩
 have hRR:tgsV aedu l ((0:Nat):Int) (qT pS a 90) 50 (drawN 6) (targetV aedu l (qT pS a 90).sn) (fun p=>(p.tr,0))=R:=hR
 rw [hRR] at hK1 ⊢
 have hz2:Z1[Z.length]? = some z30:=e2.look (get_last Z _) (by have:=eZ.len;show ¬Z.length=kid;omega) z30T.1 z30T.2
 refine ⟨[Z++[z30],Z1,Z1.set Z.length (⟨30,R.1.cells,1⟩:PObj)],rfl,?_⟩
 have hlZ:=eZ.len
 have hrl:H.length<X.length:=by have:=hK.ring.ex.choose_spec;exact (List.getElem?_eq_some_iff.1 this).1
 have e3:∀o,Evo (·=Z.length) Z1 (Z1.set Z.length o):=fun o=>Evo.setOther hz2 rfl z30T.1 z30T.2
 have hK2:=hK1.evo (e3 ⟨30,R.1.cells,1⟩) (by show ¬kid=Z.length;omega) (by show ¬H.length=Z.length;omega)
 have hpZ2:=(e3 ⟨30,R.1.cells,1⟩).look (e2.look hpZ1 hpk (o36T _ _).1 (o36T _ _).2) (by show ¬pid=Z.length;omega) (o36T _ _).1 (o36T _ _).2
 have ho2:(Z1.set Z.length (⟨30,R.1.cells,1⟩:PObj))[Z.length]? = some ⟨30,R.1.cells,1⟩:=get_set hz2
 rw [hb] at hK2
 obtain ⟨w,hw⟩:=hK2.k
 conv=>whnf
 (repeat (first | ((first | (apply exA;(focus exact oN)) | refine ⟨fun _=>?_,fun h=>absurd (by first | assumption | rfl | decide | omega) h⟩ | refine ⟨fun h=>absurd h (by first | assumption | rfl | decide | omega),fun _=>?_⟩ | refine And.intro ⟨by exact fitS,by exact fitS⟩ ⟨fun _=>?_,fun h=>absurd (by first | assumption | rfl | decide | omega) h⟩ | refine And.intro ⟨by exact fitS,by exact fitS⟩ ⟨fun h=>absurd h (by first | assumption | rfl | decide | omega),fun _=>?_⟩ | (apply callK_pure;(focus assumption)) | (apply callK_eq;(focus assumption)) | refine ⟨by first | decide | omega,?_⟩);((conv=>whnf))) | ((conv in (_[_]?)=>tactic=>first | exact oL | exact get_set (by assumption));(conv=>whnf))))
 refine callK_of (c20 hw) ?_
 rintro _ _ ⟨rfl,rfl⟩
 conv=>whnf
 (repeat (first | ((first | (apply exA;(focus exact oN)) | refine ⟨fun _=>?_,fun h=>absurd (by first | assumption | rfl | decide | omega) h⟩ | refine ⟨fun h=>absurd h (by first | assumption | rfl | decide | omega),fun _=>?_⟩ | refine And.intro ⟨by exact fitS,by exact fitS⟩ ⟨fun _=>?_,fun h=>absurd (by first | assumption | rfl | decide | omega) h⟩ | refine And.intro ⟨by exact fitS,by exact fitS⟩ ⟨fun h=>absurd h (by first | assumption | rfl | decide | omega),fun _=>?_⟩ | (apply callK_pure;(focus assumption)) | (apply callK_eq;(focus assumption)) | refine ⟨by first | decide | omega,?_⟩);((conv=>whnf))) | ((conv in (_[_]?)=>tactic=>first | exact oL | exact get_set (by assumption));(conv=>whnf))))
 refine last _ _ fun H'=>?_
 conv=>whnf
 first | rfl | ((repeat (first | ((first | (apply exA;(focus exact oN)) | refine ⟨fun _=>?_,fun h=>absurd (by first | assumption | rfl | decide | omega) h⟩ | refine ⟨fun h=>absurd h (by first | assumption | rfl | decide | omega),fun _=>?_⟩ | refine And.intro ⟨by exact fitS,by exact fitS⟩ ⟨fun _=>?_,fun h=>absurd (by first | assumption | rfl | decide | omega) h⟩ | refine And.intro ⟨by exact fitS,by exact fitS⟩ ⟨fun h=>absurd h (by first | assumption | rfl | decide | omega),fun _=>?_⟩ | (apply callK_pure;(focus assumption)) | (apply callK_eq;(focus assumption)) | refine ⟨by first | decide | omega,?_⟩);((conv=>whnf))) | ((conv in (_[_]?)=>tactic=>first | exact oL | exact get_set (by assumption));(conv=>whnf))));rfl)
theorem c8s (by':Int) (other:Bool) (H:PH):CallOk prog 8 [.int .i64 by',.bool other] H fun r _=>r=.bool true:=by
 cases other with
 | false=>exact c8sF by' H
 | true=>exact c8sT by' H
end Go.Proofs.Tryz
namespace Go.Proofs.YtdnggpdgijobfaaGreatDoor
open Go Go.RowKit Ps
theorem rows_ints {k:IntKind}:∀{rs:List (List PV)},(∀r∈rs,∃x,r=[.int k x]∧(Lit.int k x).wf=true)→∃xs:List Int,rs.length=xs.length∧rs.flatten=xs.map (.int k)∧∀x∈xs,(Lit.int k x).wf=true
 | [],_=>⟨[],rfl,rfl,fun x h=>by cases h⟩
 | r::rs,h=>by
  obtain ⟨x,rfl,hx⟩:=h r List.mem_cons_self
  obtain ⟨xs,h1,h2,h3⟩:=rows_ints fun r hr=>h r (List.mem_cons_of_mem _ hr)
  exact ⟨x::xs,by simp [h1],by simp [h2],fun y hy=>by
   rcases List.mem_cons.1 hy with rfl | hy
   ·exact hx
   ·exact h3 y hy⟩
theorem bytes_of:∀{xs:List Int},(∀x∈xs,(Lit.int .u8 x).wf=true)→∃bs:List UInt8,xs.length=bs.length∧xs.map (PV.int .u8)=bs.map byteC
 | [],_=>⟨[],rfl,rfl⟩
 | x::xs,h=>by
  obtain ⟨bs,h1,h2⟩:=bytes_of fun y hy=>h y (List.mem_cons_of_mem _ hy)
  have hx:=bounds_u8 (h x List.mem_cons_self)
  refine ⟨UInt8.ofNat x.toNat::bs,by simp [h1],?_⟩
  rw [List.map_cons,List.map_cons,h2]
  congr 1
  show PV.int .u8 x=.int .u8 _
  rw [UInt8.toNat_ofNat']
  congr 1;omega
theorem own:ownKnob Tryz.prog.godebug=none:=by kernel_rfl
theorem laidOut:laidOutB Tryz.prog=true:=by kernel_rfl
def litV:DataW Unit→Value
 | .lit (.int k n)=>.int k n
 | _=>Go.undef
def litVs:DataW Unit→List Value
 | .agg l=>l.map litV
 | d=>[litV d]
def tabVs:DataW Unit→List Value
 | .agg l=>l.flatMap litVs
 | _=>[]
def fillTab (l:List Value):Obj→Obj
 | .cells _ t frozen=>.cells l.toArray t frozen
 | o=>o
noncomputable def laidWorld (os:Os):World :=
 { World.holding Tryz.prog os ⟨#[],#[],[]⟩ with heap:=((World.holding Tryz.prog os ⟨#[],#[],[]⟩).heap.modify 0 (fillTab (tabVs Rows.laid_unicode_utf8_first))).modify 1 (fillTab (tabVs Rows.laid_unicode_utf8_acceptRanges)) }
theorem laid_met (os : Os) (args : Array Value) : laidMet Tryz.prog [("unicode/utf8.acceptRanges", Rows.laid_unicode_utf8_acceptRanges), ("unicode/utf8.first", Rows.laid_unicode_utf8_first)] ((laidWorld os).forCall (fun _ _ => 0) ⟨#[], args, []⟩).memory :=
 laidMet_of_run' 8 (by kernel_rfl) (by kernel_rfl)
theorem varsB (os:Os) (args:Array Value):((laidWorld os).forCall (fun _ _=>0) ⟨#[],args,[]⟩).variablesB Tryz.checked.prog=true:=by kernel_rfl
theorem heapB (os : Os) (args : Array Value) : (((laidWorld os).forCall (fun _ _ => 0) ⟨#[], args, []⟩).heap.toList.drop Tryz.checked.prog.globals.size).take ((begin Tryz.checked.prog (fun _ _ => 0) default).world.heap.size - Tryz.checked.prog.globals.size) =
      (begin Tryz.checked.prog (fun _ _ => 0) default).world.heap.toList.drop Tryz.checked.prog.globals.size := by kernel_rfl
theorem noLooks:false=Tryz.prog.looks []:=by kernel_rfl
theorem plainOf {name:String} {k:Nat} {g:Func} (hn:Tryz.prog.funcNamed name=some k) (hg:Tryz.prog.funcs[k]? = some g) (hall:(g.params.toList.all fun t=>Tryz.prog.wantsStandIn t==false)=true)
  (f:FuncId) (fn:Func) (hf:Tryz.pinned.checked.prog.funcNamed name=some f) (hfn:Tryz.pinned.checked.prog.funcs[f]? = some fn) :
  false=Tryz.pinned.checked.prog.looks []∧∀(j:Nat) t,fn.params[j]? = some t→Tryz.pinned.checked.prog.wantsStandIn t=false:=by
 obtain rfl:f=k:=Option.some.inj (hn.symm.trans hf) |>.symm
 obtain rfl:fn=g:=(Option.some.inj (hg.symm.trans hfn)).symm
 refine ⟨noLooks,fun j t ht=>?_⟩
 have h:Tryz.prog.wantsStandIn t=false:=by simpa using List.all_eq_true.1 hall t (Array.mem_toList_iff.2 (Array.mem_of_getElem? ht))
 exact h
end Go.Proofs.YtdnggpdgijobfaaGreatDoor
namespace Go.Proofs.Tryz
open Go Ps
open Go.Proofs.YtdnggpdgijobfaaGreatDoor (rows_ints bytes_of)
theorem rdInt {B n:Nat} {ps:List PV} (h:RdP prog B (n+1) 3 ps):∃i,ps=[.int .i64 i]∧(Lit.int .i64 i).wf=true:=h
end Go.Proofs.Tryz
