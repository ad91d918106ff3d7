import Derived.Test.YtldfjimgfnjdjaaGreatDoorA4
import Derived.Test.YtldfjimgfnjdjaaGreatDoorA2
import Derived.Test.YtldfjimgfnjdjaaGreatDoorCards
import Derived.Test.YtldfjimgfnjdjaaGreatDoorTie
import Derived.WalkKit
import Derived.ProofKit
import Derived.OpenShut
import Derived.Deep.DeepHandedRow
import Derived.Lib.LaidTab
import Derived.Test.YtldfjimgfnjdjaaGreatDoorA3
set_option linter.all false
set_option maxRecDepth 100000
set_option maxHeartbeats 4000000
namespace Go.Proofs.Tryz
open Go Ps
theorem c64 (r n:List UInt8) (hr:r.length≤1000000) (hn:n.length≤1000000):Pure prog 64 [.agg [.str r,.str n]] (sl (princE r n)):=by
 intro H
 have h1:=wrapB_len 27 r
 have h2:=wrapB_len 27 n
 (refine fnS (imm:=imm64) ttL_ok func64 ?_;(conv=>whnf))
 refine dP2 (by kernel_rfl) ?_
 conv=>whnf
 iterate 2 (refine dS ?_;(conv=>whnf))
 refine ⟨_,cP (c111 r (by omega)) ⟨rfl,rfl,zqv⟩,?_⟩
 conv=>whnf
 iterate 2 (refine dS ?_;(conv=>whnf))
 refine ⟨_,cP (c111 n (by omega)) ⟨rfl,rfl,zqv⟩,?_⟩
 conv=>whnf
 (refine dS ?_;(conv=>whnf))
 refine ⟨_,cP (c63 48 [wrapB 27 r,wrapB 27 n] (by simp) (by simp only [zqk,zql,zqf,List.length_nil];omega)) ⟨rfl,rfl,zqv⟩,?_⟩
 conv=>whnf
 (refine dS ?_;(conv=>whnf))
 exact ⟨rfl,rfl⟩
theorem c66 (r n:List UInt8) (kv:Int) (b:List UInt8) (o:Option Nat) (hr:r.length≤1000000) (hn:n.length≤1000000) (hb:b.length≤1000000):Pure prog 66 [.agg [.str r,.str n,.int .i64 kv,slo b o]] (sl (ticketE r n kv b)):=by
 intro H
 have h1:=princE_len r n
 have h2:=intE_len kv
 have h3:=wrapB_len 4 b
 (refine fnS (imm:=imm66) ttL_ok func66 ?_;(conv=>whnf))
 refine dP2 (by kernel_rfl) ?_
 conv=>whnf
 iterate 2 (refine dS ?_;(conv=>whnf))
 refine ⟨_,cP (c64 r n hr hn) ⟨rfl,rfl,zqv⟩,?_⟩
 conv=>whnf
 iterate 2 (refine dS ?_;(conv=>whnf))
 refine ⟨_,cP (c65 kv) ⟨rfl,rfl,zqv⟩,?_⟩
 conv=>whnf
 iterate 2 (refine dS ?_;(conv=>whnf))
 refine ⟨_,cP (c67 b none (by omega)) ⟨rfl,rfl,zqv⟩,?_⟩
 conv=>whnf
 (refine dS ?_;(conv=>whnf))
 refine ⟨_,cP (c63 97 [princE r n,intE kv,wrapB 4 b] (by simp) (by simp only [zqk,zql,zqf,List.length_nil];omega)) ⟨rfl,rfl,zqv⟩,?_⟩
 conv=>whnf
 (refine dS ?_;(conv=>whnf))
 exact ⟨rfl,rfl⟩
theorem c62 (b:List UInt8) (hb:b.length≤2000):Pure prog 62 [sl b] (.tup [sl b,.int .i64 0]):=by
 intro H
 (refine fnS (imm:=imm62) ttL_ok func62 ?_;(conv=>whnf))
 refine ⟨fun h=>absurd (show (2000:Int)<(b.length:Int) from h) (by omega),fun h=>?_⟩
 conv=>whnf
 exact ⟨rfl,rfl⟩
theorem encV_is {m:Msg} (h:isB m=true) (hl:(laidB m).length≤2000):encV m=.tup [sl (laidB m),.int .i64 0]:=zqp ⟨h,hl⟩
theorem c24x (m:Msg) (hm:m.fits) (H:PH):CK prog 24 [.agg m.cells] H fun r H'=>r=encV m∧∃ext,H'=H++ext:=by
 (refine fnS (imm:=imm24) ttL_ok func24 ?_;(conv=>whnf))
 refine cP ((c61 m.d hm).of_eq (show PV.bool (isB m.d)=.bool (isB m) from rfl)) ?_
 cases hb:isB m
 ·conv=>whnf
  exact ⟨(encV_no (fun hh=>by rw [hb] at hh;cases hh.1)).symm,Ext.refl _⟩
 have hm:=(zqb _ _▸hb:_∧_).1
 conv=>whnf
 by_cases h1:m.kind=1
 ·have hk:=h1
  have n2:¬m.kind=2:=by omega
  have n3:¬m.kind=3:=by omega
  have n4:¬m.kind=4:=by omega
  have n5:¬m.kind=5:=by omega
  refine ⟨fun h=>?_,fun h=>?_⟩
  rotate_left
  ·exact (h hk).elim
  conv=>whnf
  rw [zqp hk] at hm
  simp only [zqb] at hm
  have g1:=princ_len hm.1.1.1
  have g2:=princ_len hm.1.1.2
  have e0:=princE_len m.a1 m.a2
  have e1:=princE_len m.a3 m.a4
  have e2:=intE_len m.aTill
  have e3:=intE_len m.aNonce
  have hw:=wrapB_len 106 [princE m.a1 m.a2,princE m.a3 m.a4,intE m.aTill,intE m.aNonce].flatten
  simp only [zqk,zql,zqf,List.length_nil] at hw
  have hlen:(wrapB 106 [princE m.a1 m.a2,princE m.a3 m.a4,intE m.aTill,intE m.aNonce].flatten).length≤2000:=by simp only [zqk,zql];omega
  have hl:laidB m=wrapB 106 [princE m.a1 m.a2,princE m.a3 m.a4,intE m.aTill,intE m.aNonce].flatten:=by unfold laidB;rw [zqp hk]
  ((conv in (_[_]?)=>tactic=>exact gL _ _);(conv=>whnf))
  refine dP2 (by kernel_rfl) ?_
  conv=>whnf
  (refine dS ?_;(conv=>whnf))
  apply exA
  focus
   conv=>whnf
   ((conv in (_[_]?)=>tactic=>exact gS (gL _ _));(conv=>whnf))
   exact ⟨rfl,rfl,zqv⟩
  conv=>whnf
  refine ⟨_,cP (c64 m.a1 m.a2 (by omega) (by omega)) ⟨rfl,rfl,zqv⟩,?_⟩
  conv=>whnf
  (refine dS ?_;(conv=>whnf))
  apply exA
  focus
   conv=>whnf
   ((conv in (_[_]?)=>tactic=>exact gS (gL _ _));(conv=>whnf))
   exact ⟨rfl,rfl,zqv⟩
  conv=>whnf
  refine ⟨_,cP (c64 m.a3 m.a4 (by omega) (by omega)) ⟨rfl,rfl,zqv⟩,?_⟩
  conv=>whnf
  (refine dS ?_;(conv=>whnf))
  apply exA
  focus
   conv=>whnf
   ((conv in (_[_]?)=>tactic=>exact gS (gL _ _));(conv=>whnf))
   exact ⟨rfl,rfl,zqv⟩
  conv=>whnf
  refine ⟨_,cP (c65 m.aTill) ⟨rfl,rfl,zqv⟩,?_⟩
  conv=>whnf
  (refine dS ?_;(conv=>whnf))
  apply exA
  focus
   conv=>whnf
   ((conv in (_[_]?)=>tactic=>exact gS (gL _ _));(conv=>whnf))
   exact ⟨rfl,rfl,zqv⟩
  conv=>whnf
  refine ⟨_,cP (c65 m.aNonce) ⟨rfl,rfl,zqv⟩,?_⟩
  conv=>whnf
  (refine dS ?_;(conv=>whnf))
  refine ⟨_,cP (c63 106 [princE m.a1 m.a2,princE m.a3 m.a4,intE m.aTill,intE m.aNonce] (by simp) (by simp only [zqk,zql,zqf,List.length_nil];omega)) ⟨rfl,rfl,zqv⟩,?_⟩
  conv=>whnf
  refine ⟨_,cP (c62 _ hlen) ⟨rfl,rfl,zqv⟩,?_⟩
  conv=>whnf
  iterate 4 (refine dS ?_;(conv=>whnf))
  exact ⟨(by rw [encV_is hb (by rw [hl];exact hlen),hl] <;> rfl),(Ext.refl _).push _ |>.set (Ext.refl _).len _⟩
 by_cases h2:m.kind=2
 ·have hk:=h2
  have n1:¬m.kind=1:=by omega
  have n3:¬m.kind=3:=by omega
  have n4:¬m.kind=4:=by omega
  have n5:¬m.kind=5:=by omega
  refine ⟨fun h=>?_,fun h=>?_⟩
  ·exact (n1 h).elim
  conv=>whnf
  refine ⟨fun h=>?_,fun h=>?_⟩
  rotate_left
  ·exact (h hk).elim
  conv=>whnf
  rw [zqo n1] at hm
  rw [zqp hk] at hm
  simp only [zqb] at hm
  have g1:=tick_len hm.1.1.1.1
  have g2:=inZ_le hm.1.1.1.2
  have g3:=princ_len hm.1.1.2
  have e0:=ticketE_len m.t1 m.t2 m.tKv m.tB
  have e1:=wrapB_len 4 m.tAu
  have e2:=princE_len m.t3 m.t4
  have e3:=intE_len m.tTill
  have e4:=intE_len m.tNonce
  have hw:=wrapB_len 108 [ticketE m.t1 m.t2 m.tKv m.tB,wrapB 4 m.tAu,princE m.t3 m.t4,intE m.tTill,intE m.tNonce].flatten
  simp only [zqk,zql,zqf,List.length_nil] at hw
  have hlen:(wrapB 108 [ticketE m.t1 m.t2 m.tKv m.tB,wrapB 4 m.tAu,princE m.t3 m.t4,intE m.tTill,intE m.tNonce].flatten).length≤2000:=by simp only [zqk,zql];omega
  have hl:laidB m=wrapB 108 [ticketE m.t1 m.t2 m.tKv m.tB,wrapB 4 m.tAu,princE m.t3 m.t4,intE m.tTill,intE m.tNonce].flatten:=by unfold laidB;rw [zqo n1];rw [zqp hk]
  ((conv in (_[_]?)=>tactic=>exact gL _ _);(conv=>whnf))
  refine dP2 (by kernel_rfl) ?_
  conv=>whnf
  (refine dS ?_;(conv=>whnf))
  apply exA
  focus
   conv=>whnf
   ((conv in (_[_]?)=>tactic=>exact gS (gL _ _));(conv=>whnf))
   exact ⟨rfl,rfl,zqv⟩
  conv=>whnf
  refine ⟨_,cP (c66 m.t1 m.t2 m.tKv m.tB none (by omega) (by omega) (by omega)) ⟨rfl,rfl,zqv⟩,?_⟩
  conv=>whnf
  (refine dS ?_;(conv=>whnf))
  apply exA
  focus
   conv=>whnf
   ((conv in (_[_]?)=>tactic=>exact gS (gL _ _));(conv=>whnf))
   exact ⟨rfl,rfl,zqv⟩
  conv=>whnf
  refine ⟨_,cP (c67 m.tAu none (by omega)) ⟨rfl,rfl,zqv⟩,?_⟩
  conv=>whnf
  (refine dS ?_;(conv=>whnf))
  apply exA
  focus
   conv=>whnf
   ((conv in (_[_]?)=>tactic=>exact gS (gL _ _));(conv=>whnf))
   exact ⟨rfl,rfl,zqv⟩
  conv=>whnf
  refine ⟨_,cP (c64 m.t3 m.t4 (by omega) (by omega)) ⟨rfl,rfl,zqv⟩,?_⟩
  conv=>whnf
  (refine dS ?_;(conv=>whnf))
  apply exA
  focus
   conv=>whnf
   ((conv in (_[_]?)=>tactic=>exact gS (gL _ _));(conv=>whnf))
   exact ⟨rfl,rfl,zqv⟩
  conv=>whnf
  refine ⟨_,cP (c65 m.tTill) ⟨rfl,rfl,zqv⟩,?_⟩
  conv=>whnf
  (refine dS ?_;(conv=>whnf))
  apply exA
  focus
   conv=>whnf
   ((conv in (_[_]?)=>tactic=>exact gS (gL _ _));(conv=>whnf))
   exact ⟨rfl,rfl,zqv⟩
  conv=>whnf
  refine ⟨_,cP (c65 m.tNonce) ⟨rfl,rfl,zqv⟩,?_⟩
  conv=>whnf
  (refine dS ?_;(conv=>whnf))
  refine ⟨_,cP (c63 108 [ticketE m.t1 m.t2 m.tKv m.tB,wrapB 4 m.tAu,princE m.t3 m.t4,intE m.tTill,intE m.tNonce] (by simp) (by simp only [zqk,zql,zqf,List.length_nil];omega)) ⟨rfl,rfl,zqv⟩,?_⟩
  conv=>whnf
  refine ⟨_,cP (c62 _ hlen) ⟨rfl,rfl,zqv⟩,?_⟩
  conv=>whnf
  iterate 4 (refine dS ?_;(conv=>whnf))
  exact ⟨(by rw [encV_is hb (by rw [hl];exact hlen),hl] <;> rfl),(Ext.refl _).push _ |>.set (Ext.refl _).len _⟩
 by_cases h3:m.kind=3
 ·have hk:=h3
  have n1:¬m.kind=1:=by omega
  have n2:¬m.kind=2:=by omega
  have n4:¬m.kind=4:=by omega
  have n5:¬m.kind=5:=by omega
  refine ⟨fun h=>?_,fun h=>?_⟩
  ·exact (n1 h).elim
  conv=>whnf
  refine ⟨fun h=>?_,fun h=>?_⟩
  ·exact (n2 h).elim
  conv=>whnf
  refine ⟨fun h=>?_,fun h=>?_⟩
  rotate_left
  ·exact (h hk).elim
  conv=>whnf
  rw [zqo n1] at hm
  rw [zqo n2] at hm
  rw [zqp hk] at hm
  simp only [zqb] at hm
  have g1:=princ_len hm.1.1
  have g2:=tick_len hm.1.2
  have g3:=inZ_le hm.2
  have e0:=princE_len m.r1 m.r2
  have e1:=ticketE_len m.r3 m.r4 m.rKv m.rB
  have e2:=wrapB_len 4 m.rBl
  have hw:=wrapB_len 107 [princE m.r1 m.r2,ticketE m.r3 m.r4 m.rKv m.rB,wrapB 4 m.rBl].flatten
  simp only [zqk,zql,zqf,List.length_nil] at hw
  have hlen:(wrapB 107 [princE m.r1 m.r2,ticketE m.r3 m.r4 m.rKv m.rB,wrapB 4 m.rBl].flatten).length≤2000:=by simp only [zqk,zql];omega
  have hl:laidB m=wrapB 107 [princE m.r1 m.r2,ticketE m.r3 m.r4 m.rKv m.rB,wrapB 4 m.rBl].flatten:=by unfold laidB;rw [zqo n1];rw [zqo n2];rw [zqp hk]
  refine dP2 (by kernel_rfl) ?_
  conv=>whnf
  iterate 3 (refine dS ?_;(conv=>whnf))
  refine ⟨_,cP (c64 m.r1 m.r2 (by omega) (by omega)) ⟨rfl,rfl,zqv⟩,?_⟩
  conv=>whnf
  iterate 3 (refine dS ?_;(conv=>whnf))
  refine ⟨_,cP (c66 m.r3 m.r4 m.rKv m.rB none (by omega) (by omega) (by omega)) ⟨rfl,rfl,zqv⟩,?_⟩
  conv=>whnf
  iterate 3 (refine dS ?_;(conv=>whnf))
  refine ⟨_,cP (c67 m.rBl none (by omega)) ⟨rfl,rfl,zqv⟩,?_⟩
  conv=>whnf
  (refine dS ?_;(conv=>whnf))
  refine ⟨_,cP (c63 107 [princE m.r1 m.r2,ticketE m.r3 m.r4 m.rKv m.rB,wrapB 4 m.rBl] (by simp) (by simp only [zqk,zql,zqf,List.length_nil];omega)) ⟨rfl,rfl,zqv⟩,?_⟩
  conv=>whnf
  refine ⟨_,cP (c62 _ hlen) ⟨rfl,rfl,zqv⟩,?_⟩
  conv=>whnf
  iterate 4 (refine dS ?_;(conv=>whnf))
  exact ⟨(by rw [encV_is hb (by rw [hl];exact hlen),hl] <;> rfl),Ext.refl _⟩
 by_cases h4:m.kind=4
 ·have hk:=h4
  have n1:¬m.kind=1:=by omega
  have n2:¬m.kind=2:=by omega
  have n3:¬m.kind=3:=by omega
  have n5:¬m.kind=5:=by omega
  refine ⟨fun h=>?_,fun h=>?_⟩
  ·exact (n1 h).elim
  conv=>whnf
  refine ⟨fun h=>?_,fun h=>?_⟩
  ·exact (n2 h).elim
  conv=>whnf
  refine ⟨fun h=>?_,fun h=>?_⟩
  ·exact (n3 h).elim
  conv=>whnf
  refine ⟨fun h=>?_,fun h=>?_⟩
  rotate_left
  ·exact (h hk).elim
  conv=>whnf
  rw [zqo n1] at hm
  rw [zqo n2] at hm
  rw [zqo n3] at hm
  rw [zqp hk] at hm
  simp only [zqb] at hm
  have g1:=tick_len hm.1
  have g2:=inZ_le hm.2
  have e0:=ticketE_len m.p1 m.p2 m.pKv m.pB
  have e1:=wrapB_len 4 m.pAu
  have hw:=wrapB_len 110 [ticketE m.p1 m.p2 m.pKv m.pB,wrapB 4 m.pAu].flatten
  simp only [zqk,zql,zqf,List.length_nil] at hw
  have hlen:(wrapB 110 [ticketE m.p1 m.p2 m.pKv m.pB,wrapB 4 m.pAu].flatten).length≤2000:=by simp only [zqk,zql];omega
  have hl:laidB m=wrapB 110 [ticketE m.p1 m.p2 m.pKv m.pB,wrapB 4 m.pAu].flatten:=by unfold laidB;rw [zqo n1];rw [zqo n2];rw [zqo n3];rw [zqp hk]
  refine dP2 (by kernel_rfl) ?_
  conv=>whnf
  iterate 3 (refine dS ?_;(conv=>whnf))
  refine ⟨_,cP (c66 m.p1 m.p2 m.pKv m.pB none (by omega) (by omega) (by omega)) ⟨rfl,rfl,zqv⟩,?_⟩
  conv=>whnf
  iterate 3 (refine dS ?_;(conv=>whnf))
  refine ⟨_,cP (c67 m.pAu none (by omega)) ⟨rfl,rfl,zqv⟩,?_⟩
  conv=>whnf
  (refine dS ?_;(conv=>whnf))
  refine ⟨_,cP (c63 110 [ticketE m.p1 m.p2 m.pKv m.pB,wrapB 4 m.pAu] (by simp) (by simp only [zqk,zql,zqf,List.length_nil];omega)) ⟨rfl,rfl,zqv⟩,?_⟩
  conv=>whnf
  refine ⟨_,cP (c62 _ hlen) ⟨rfl,rfl,zqv⟩,?_⟩
  conv=>whnf
  iterate 4 (refine dS ?_;(conv=>whnf))
  exact ⟨(by rw [encV_is hb (by rw [hl];exact hlen),hl] <;> rfl),Ext.refl _⟩
 have n1:¬m.kind=1:=h1
 have n2:¬m.kind=2:=h2
 have n3:¬m.kind=3:=h3
 have n4:¬m.kind=4:=h4
 refine ⟨fun h=>?_,fun h=>?_⟩
 ·exact (n1 h).elim
 conv=>whnf
 refine ⟨fun h=>?_,fun h=>?_⟩
 ·exact (n2 h).elim
 conv=>whnf
 refine ⟨fun h=>?_,fun h=>?_⟩
 ·exact (n3 h).elim
 conv=>whnf
 refine ⟨fun h=>?_,fun h=>?_⟩
 ·exact (n4 h).elim
 conv=>whnf
 by_cases hk:m.kind=5
 ·skip
  rw [zqo n1] at hm
  rw [zqo n2] at hm
  rw [zqo n3] at hm
  rw [zqo n4] at hm
  rw [zqp hk] at hm
  simp only [zqb] at hm
  have e0:=intE_len m.fErr
  have e1:=intE_len m.fNonce
  have hw:=wrapB_len 126 [intE m.fErr,intE m.fNonce].flatten
  simp only [zqk,zql,zqf,List.length_nil] at hw
  have hlen:(wrapB 126 [intE m.fErr,intE m.fNonce].flatten).length≤2000:=by simp only [zqk,zql];omega
  have hl:laidB m=wrapB 126 [intE m.fErr,intE m.fNonce].flatten:=by unfold laidB;rw [zqo n1];rw [zqo n2];rw [zqo n3];rw [zqo n4];skip
  refine dP2 (by kernel_rfl) ?_
  conv=>whnf
  iterate 3 (refine dS ?_;(conv=>whnf))
  refine ⟨_,cP (c65 m.fErr) ⟨rfl,rfl,zqv⟩,?_⟩
  conv=>whnf
  iterate 3 (refine dS ?_;(conv=>whnf))
  refine ⟨_,cP (c65 m.fNonce) ⟨rfl,rfl,zqv⟩,?_⟩
  conv=>whnf
  (refine dS ?_;(conv=>whnf))
  refine ⟨_,cP (c63 126 [intE m.fErr,intE m.fNonce] (by simp) (by simp only [zqk,zql,zqf,List.length_nil];omega)) ⟨rfl,rfl,zqv⟩,?_⟩
  conv=>whnf
  refine ⟨_,cP (c62 _ hlen) ⟨rfl,rfl,zqv⟩,?_⟩
  conv=>whnf
  iterate 4 (refine dS ?_;(conv=>whnf))
  exact ⟨(by rw [encV_is hb (by rw [hl];exact hlen),hl] <;> rfl),Ext.refl _⟩
 ·rw [zqo n1,zqo n2,zqo n3,zqo n4,zqo hk] at hm
  cases hm
theorem encV_old (m:Msg):oldR (encV m)=true:=by
 unfold encV limV
 split
 ·simp [oldR,oldPs,oldP,sl,oldPs_bytes]
 ·rfl
theorem c24 (m:Msg) (hm:m.fits):Pure prog 24 [.agg m.cells] (encV m):=Pure.of_gc (encV_old m) (c24x m hm)
structure RakS (T:Nat) (zc:List PV) (B K:PH) (r e q:Nat) (s:Option (List UInt8)) (cells:List PV) (ver:Nat):Prop where
 z:K[r]? = some ⟨T,zc,0⟩
 p:K[q]? = some ⟨T,cells,ver⟩
 cur:rcur K e s
 up:Upd (·=e) B K
 lb:B.length≤q
 n1:r≠e
 n3:q≠e
 n5:q≠r
theorem RakS.call {T:Nat} {zc:List PV} {B K K':PH} {r e q:Nat} {s s':Option (List UInt8)} {cells:List PV} {ver:Nat} (h:RakS T zc B K r e q s cells ver) (u:Upd (·=e) K K') (c:rcur K' e s') :
  RakS T zc B K' r e q s' cells ver:=by
 have lt:∀{i:Nat} {o:PObj},K[i]? = some o→i<K.length:=fun h=>(zq1.1 h).1
 exact ⟨(u.2 _ (lt h.z) h.n1).trans h.z,(u.2 _ (lt h.p) h.n3).trans h.p,c,h.up.trans u,h.lb,h.n1,h.n3,h.n5⟩
theorem RakS.store {T:Nat} {zc:List PV} {B K:PH} {r e q:Nat} {s:Option (List UInt8)} {cells:List PV} {ver:Nat} (h:RakS T zc B K r e q s cells ver) (cells':List PV) (ver':Nat) :
  RakS T zc B (K.set q ⟨T,cells',ver'⟩) r e q s cells' ver':=by
 refine ⟨?_,gS h.p,h.cur.set_ne h.n3 _,h.up.set (.inr h.lb) _,h.lb,h.n1,h.n3,h.n5⟩
 rw [zqj h.n5];exact h.z
theorem RakS.new {T:Nat} {zc:List PV} {B K:PH} {r e:Nat} {s:Option (List UInt8)} (hz:B[r]? = some ⟨T,zc,0⟩) (hr:r≠e) (u:Upd (·=e) B K) (c:rcur K e s) (cells:List PV) (ver:Nat) :
  RakS T zc B ((K++[PObj.mk T zc 0]).set K.length ⟨T,cells,ver⟩) r e K.length s cells ver:=by
 have lt:∀{i:Nat} {o:PObj},B[i]? = some o→i<B.length:=fun h=>(zq1.1 h).1
 have l1:=lt hz
 have l2:=u.1
 have l3:=c.lt
 rw [sL]
 refine ⟨?_,gL _ _,c.keep (X:=fun _=>False) ((Upd.refl K).push _) (fun f=>f),u.push _,l2,hr,by omega,by omega⟩
 rw [zq2 (by omega),u.2 _ l1 hr];exact hz
def outR (s t:Option (List UInt8)):Option (List UInt8):=if wholeB t=true then s else none
theorem outR_no {s t:Option (List UInt8)} (h:wholeB t=false):outR s t=none:=zqo (by rw [h];decide)
theorem outR_yes {s t:Option (List UInt8)} (h:wholeB t=true):outR s t=s:=zqp h
theorem outR_none {t:Option (List UInt8)}:outR none t=none:=ite_self _
theorem outR_len {s t:Option (List UInt8)} {B:Nat} (h:∀l,s=some l→l.length≤B):∀l,outR s t=some l→l.length≤B:=by
 intro l hl
 unfold outR at hl
 split at hl
 ·exact h l hl
 ·cases hl
theorem rintC_len {s:Option (List UInt8)} {B:Nat} (h:∀l,s=some l→l.length≤B):∀l,(rintC s).1=some l→l.length≤B:=by
 have hl:=(elemC_len (tag:=2) h).1
 unfold rintC
 revert hl
 generalize elemC 2 s=q
 obtain ⟨s',o⟩:=q
 intro hl l
 cases o with
 | none=>intro e;cases e
 | some b =>
  show (if okR b=true then (s',numR b) else (none,0)).1=some l→_
  split
  ·exact hl l
  ·intro e;cases e
def princR (s:Option (List UInt8)):Option (List UInt8)×(List UInt8×List UInt8) :=
 (outR (elemC 48 s).1 (txtC (txtC (elemC 48 s).2).1).1,((txtC (elemC 48 s).2).2,(txtC (txtC (elemC 48 s).2).1).2))
def tickRD (s:Option (List UInt8)):Tk:=⟨(princR s).2.1,(princR s).2.2,(rintC (princR s).1).2,(octC (rintC (princR s).1).1).2⟩
def tickR (s:Option (List UInt8)):Option (List UInt8)×Tk :=
 (outR (elemC 97 s).1 (octC (rintC (princR (elemC 97 s).2).1).1).1,tickRD (elemC 97 s).2)
theorem c54 (c:Nat) (s:Option (List UInt8)) (H:PH) (hc:rcur H c s) (hl:∀l,s=some l→l.length≤140737488355328) :
  CK prog 54 [.ptr (some (c,0))] H fun r H'=>r=.agg [.str (princR s).2.1,.str (princR s).2.2]∧Upd (·=c) H H'∧rcur H' c (princR s).1:=by
 have hd:=hc.lt
 have g0:=elemC_len (tag:=48) hl
 have hs0:∀l,(elemC 48 s).2=some l→l.length≤140737488355328:=fun l h=>(g0.2 l h).1
 have hs1:=(elemC_len (tag:=27) hs0).1
 (refine fnS (imm:=imm54) ttL_ok func54 ?_;(conv=>whnf))
 obtain ⟨H1,hH1⟩:∃H1,H1=H++[PObj.mk 36 [.str [],.str []] 0]:=⟨_,rfl⟩
 have hl1:H1.length=H.length+1:=by rw [hH1];simp
 have h0:H1[H.length]? = some ⟨36,[.str [],.str []],0⟩:=by rw [hH1];exact gL _ _
 have u1:Upd (·=c) H H1:=by rw [hH1];exact (Upd.refl H).push _
 have hc1:rcur H1 c s:=hc.keep (X:=fun _=>False) (by rw [hH1];exact (Upd.refl H).push _) (fun f=>f)
 rw [←hH1]
 refine cO (c53 c 48 s H1 hc1 hl) ?_
 rintro _ H2 ⟨e,rfl,k1,k2,k3,k4⟩
 have hle:=k4.lt
 have uB:Upd (·=c) H H2:=u1.trans k2
 have h2z:H2[H.length]? = some ⟨36,[.str [],.str []],0⟩:=by rw [k2.2 _ (by omega) (by omega)];exact h0
 conv=>whnf
 refine cO (c98 e _ H2 k4 hs0) ?_
 rintro _ K1 ⟨rfl,u4,g4⟩
 have D1:=RakS.new h2z (by omega) u4 g4 [.str (txtC (elemC 48 s).2).2,.str []] 1
 conv=>whnf
 ((conv in (_[_]?)=>tactic=>exact gL _ _);(conv=>whnf))
 refine cO (c98 e _ _ D1.cur hs1) ?_
 rintro _ K2 ⟨rfl,u5,g5⟩
 have D2:=D1.call u5 g5
 conv=>whnf
 ((conv in (_[_]?)=>tactic=>exact D2.p);(conv=>whnf))
 have D3:=D2.store [.str (txtC (elemC 48 s).2).2,.str (txtC (txtC (elemC 48 s).2).1).2] 2
 have o3:rcur _ c (elemC 48 s).1:=k3.keep D3.up (by omega)
 have hq:=D3.lb
 have fin:∀(s':Option (List UInt8)) (bc:List UInt8) (vc:Nat),(∀l,s'=some l→bc=l)→∀(hcc:(K2.set K1.length (PObj.mk 36 [.str (txtC (elemC 48 s).2).2,.str (txtC (txtC (elemC 48 s).2).1).2] 2))[c]? = some ⟨128,[sl bc,.bool (elemC 48 s).1.isNone],vc⟩) (o:PObj),
   Upd (·=c) H (((K2.set K1.length (PObj.mk 36 [.str (txtC (elemC 48 s).2).2,.str (txtC (txtC (elemC 48 s).2).1).2] 2)).set c ⟨128,[sl bc,.bool s'.isNone],vc+1⟩).set H.length o) ∧
   rcur (((K2.set K1.length (PObj.mk 36 [.str (txtC (elemC 48 s).2).2,.str (txtC (txtC (elemC 48 s).2).1).2] 2)).set c ⟨128,[sl bc,.bool s'.isNone],vc+1⟩).set H.length o) c s':=fun s' bc vc hb hcc o=>by
  have uF:=uB.over D3.up (fun i hi h=>by omega)
  refine ⟨(uF.set (.inl rfl) _).set (.inr (zqn _)) _,?_⟩
  exact rcur.set_ne ⟨bc,vc+1,gS hcc,hb⟩ (by omega) _
 have hpz:∀(o:PObj),((K2.set K1.length (PObj.mk 36 [.str (txtC (elemC 48 s).2).2,.str (txtC (txtC (elemC 48 s).2).1).2] 2)).set c o)[K1.length]? = some ⟨36,[.str (txtC (elemC 48 s).2).2,.str (txtC (txtC (elemC 48 s).2).1).2],2⟩:=fun o=>by
  rw [zqj (by omega)];exact D3.p
 have hzz:∀(o:PObj),((K2.set K1.length (PObj.mk 36 [.str (txtC (elemC 48 s).2).2,.str (txtC (txtC (elemC 48 s).2).1).2] 2)).set c o)[H.length]? = some ⟨36,[.str [],.str []],0⟩:=fun o=>by
  rw [zqj (by omega)];exact D3.z
 unfold princR
 obtain ⟨bc,vc,hcc,hxc⟩:=o3
 ((conv in (_[_]?)=>tactic=>exact hcc);(conv=>whnf))
 revert hcc hxc fin
 generalize (elemC 48 s).1=s1
 intro fin hcc hxc
 cases s1 with
 | none =>
  rw [outR_none]
  conv=>whnf
  ((conv in (_[_]?)=>tactic=>exact hcc);(conv=>whnf))
  ((conv in (_[_]?)=>tactic=>exact hpz _);(conv=>whnf))
  ((conv in (_[_]?)=>tactic=>exact hzz _);(conv=>whnf))
  ((conv in (_[_]?)=>tactic=>exact gS (hzz _));(conv=>whnf))
  exact ⟨rfl,fin none bc vc (fun l h=>by cases h) hcc _⟩
 | some l =>
  conv=>whnf
  refine cO (c99 e _ _ D3.cur) ?_
  rintro _ _ ⟨rfl,rfl⟩
  have hbl:=hxc l rfl
  subst hbl
  show _
  cases hw:wholeB (txtC (txtC (elemC 48 s).2).1).1
  ·have e1:outR (some bc) (txtC (txtC (elemC 48 s).2).1).1=none:=outR_no hw
   rw [e1]
   conv=>whnf
   ((conv in (_[_]?)=>tactic=>exact hcc);(conv=>whnf))
   ((conv in (_[_]?)=>tactic=>exact hpz _);(conv=>whnf))
   ((conv in (_[_]?)=>tactic=>exact hzz _);(conv=>whnf))
   ((conv in (_[_]?)=>tactic=>exact gS (hzz _));(conv=>whnf))
   exact ⟨rfl,fin none bc vc (fun l h=>by cases h) hcc _⟩
  ·have e1:outR (some bc) (txtC (txtC (elemC 48 s).2).1).1=some bc:=outR_yes hw
   rw [e1]
   conv=>whnf
   ((conv in (_[_]?)=>tactic=>exact hcc);(conv=>whnf))
   ((conv in (_[_]?)=>tactic=>exact hpz _);(conv=>whnf))
   ((conv in (_[_]?)=>tactic=>exact hzz _);(conv=>whnf))
   ((conv in (_[_]?)=>tactic=>exact gS (hzz _));(conv=>whnf))
   exact ⟨rfl,fin (some bc) bc vc (fun l h=>Option.some.inj h) hcc _⟩
theorem c56 (c:Nat) (s:Option (List UInt8)) (H:PH) (hc:rcur H c s) (hl:∀l,s=some l→l.length≤140737488355328) :
  CK prog 56 [.ptr (some (c,0))] H fun r H'=>r=.agg [.str (tickR s).2.r,.str (tickR s).2.n,.int .i64 (tickR s).2.kv,sl (tickR s).2.b]∧Upd (·=c) H H'∧rcur H' c (tickR s).1:=by
 have hd:=hc.lt
 have g0:=elemC_len (tag:=97) hl
 have hs0:∀l,(elemC 97 s).2=some l→l.length≤140737488355328:=fun l h=>(g0.2 l h).1
 have hs1:∀l,(princR (elemC 97 s).2).1=some l→l.length≤140737488355328:=outR_len (elemC_len (tag:=48) hs0).1
 have hs2:=rintC_len hs1
 (refine fnS (imm:=imm56) ttL_ok func56 ?_;(conv=>whnf))
 obtain ⟨H1,hH1⟩:∃H1,H1=H++[PObj.mk 53 [.str [],.str [],.int .i64 0,.slice 0 [] (some 5)] 0]:=⟨_,rfl⟩
 have hl1:H1.length=H.length+1:=by rw [hH1];simp
 have h0:H1[H.length]? = some ⟨53,[.str [],.str [],.int .i64 0,.slice 0 [] (some 5)],0⟩:=by rw [hH1];exact gL _ _
 have u1:Upd (·=c) H H1:=by rw [hH1];exact (Upd.refl H).push _
 have hc1:rcur H1 c s:=hc.keep (X:=fun _=>False) (by rw [hH1];exact (Upd.refl H).push _) (fun f=>f)
 rw [←hH1]
 refine cO (c53 c 97 s H1 hc1 hl) ?_
 rintro _ H2 ⟨e,rfl,k1,k2,k3,k4⟩
 have hle:=k4.lt
 have uB:Upd (·=c) H H2:=u1.trans k2
 have h2z:H2[H.length]? = some ⟨53,[.str [],.str [],.int .i64 0,.slice 0 [] (some 5)],0⟩:=by rw [k2.2 _ (by omega) (by omega)];exact h0
 conv=>whnf
 refine cO (c54 e _ H2 k4 hs0) ?_
 rintro _ K1 ⟨rfl,u4,g4⟩
 have D1:=RakS.new h2z (by omega) u4 g4 [.str (princR (elemC 97 s).2).2.1,.str (princR (elemC 97 s).2).2.2,.int .i64 0,.slice 0 [] (some 5)] 1
 conv=>whnf
 ((conv in (_[_]?)=>tactic=>exact gL _ _);(conv=>whnf))
 refine cO (c55 e _ _ D1.cur hs1) ?_
 rintro _ K2 ⟨rfl,u5,g5⟩
 have D2:=D1.call u5 g5
 conv=>whnf
 ((conv in (_[_]?)=>tactic=>exact D2.p);(conv=>whnf))
 have D3:=D2.store [.str (princR (elemC 97 s).2).2.1,.str (princR (elemC 97 s).2).2.2,.int .i64 (rintC (princR (elemC 97 s).2).1).2,.slice 0 [] (some 5)] 2
 refine cO (c57 e _ _ D3.cur hs2) ?_
 rintro _ K3 ⟨rfl,u6,g6⟩
 have D4:=D3.call u6 g6
 conv=>whnf
 ((conv in (_[_]?)=>tactic=>exact D4.p);(conv=>whnf))
 obtain ⟨F,hF⟩:∃F:List PV,F=[.str (princR (elemC 97 s).2).2.1,.str (princR (elemC 97 s).2).2.2,.int .i64 (rintC (princR (elemC 97 s).2).1).2,sl (octC (rintC (princR (elemC 97 s).2).1).1).2]:=⟨_,rfl⟩
 have D5:=D4.store [.str (princR (elemC 97 s).2).2.1,.str (princR (elemC 97 s).2).2.2,.int .i64 (rintC (princR (elemC 97 s).2).1).2,sl (octC (rintC (princR (elemC 97 s).2).1).1).2] 3
 have o3:rcur _ c (elemC 97 s).1:=k3.keep D5.up (by omega)
 have hq:=D5.lb
 have fin:∀(s':Option (List UInt8)) (bc:List UInt8) (vc:Nat),(∀l,s'=some l→bc=l)→∀(hcc:(K3.set K1.length (PObj.mk 53 [.str (princR (elemC 97 s).2).2.1,.str (princR (elemC 97 s).2).2.2,.int .i64 (rintC (princR (elemC 97 s).2).1).2,sl (octC (rintC (princR (elemC 97 s).2).1).1).2] 3))[c]? = some ⟨128,[sl bc,.bool (elemC 97 s).1.isNone],vc⟩) (o:PObj),
   Upd (·=c) H (((K3.set K1.length (PObj.mk 53 [.str (princR (elemC 97 s).2).2.1,.str (princR (elemC 97 s).2).2.2,.int .i64 (rintC (princR (elemC 97 s).2).1).2,sl (octC (rintC (princR (elemC 97 s).2).1).1).2] 3)).set c ⟨128,[sl bc,.bool s'.isNone],vc+1⟩).set H.length o) ∧
   rcur (((K3.set K1.length (PObj.mk 53 [.str (princR (elemC 97 s).2).2.1,.str (princR (elemC 97 s).2).2.2,.int .i64 (rintC (princR (elemC 97 s).2).1).2,sl (octC (rintC (princR (elemC 97 s).2).1).1).2] 3)).set c ⟨128,[sl bc,.bool s'.isNone],vc+1⟩).set H.length o) c s':=fun s' bc vc hb hcc o=>by
  have uF:=uB.over D5.up (fun i hi h=>by omega)
  refine ⟨(uF.set (.inl rfl) _).set (.inr (zqn _)) _,?_⟩
  exact rcur.set_ne ⟨bc,vc+1,gS hcc,hb⟩ (by omega) _
 have hpz:∀(o:PObj),((K3.set K1.length (PObj.mk 53 [.str (princR (elemC 97 s).2).2.1,.str (princR (elemC 97 s).2).2.2,.int .i64 (rintC (princR (elemC 97 s).2).1).2,sl (octC (rintC (princR (elemC 97 s).2).1).1).2] 3)).set c o)[K1.length]? = some ⟨53,[.str (princR (elemC 97 s).2).2.1,.str (princR (elemC 97 s).2).2.2,.int .i64 (rintC (princR (elemC 97 s).2).1).2,sl (octC (rintC (princR (elemC 97 s).2).1).1).2],3⟩:=fun o=>by
  rw [zqj (by omega)];exact D5.p
 have hzz:∀(o:PObj),((K3.set K1.length (PObj.mk 53 [.str (princR (elemC 97 s).2).2.1,.str (princR (elemC 97 s).2).2.2,.int .i64 (rintC (princR (elemC 97 s).2).1).2,sl (octC (rintC (princR (elemC 97 s).2).1).1).2] 3)).set c o)[H.length]? = some ⟨53,[.str [],.str [],.int .i64 0,.slice 0 [] (some 5)],0⟩:=fun o=>by
  rw [zqj (by omega)];exact D5.z
 unfold tickR
 obtain ⟨bc,vc,hcc,hxc⟩:=o3
 ((conv in (_[_]?)=>tactic=>exact hcc);(conv=>whnf))
 revert hcc hxc fin
 generalize (elemC 97 s).1=s1
 intro fin hcc hxc
 cases s1 with
 | none =>
  rw [outR_none]
  conv=>whnf
  ((conv in (_[_]?)=>tactic=>exact hcc);(conv=>whnf))
  ((conv in (_[_]?)=>tactic=>exact hpz _);(conv=>whnf))
  ((conv in (_[_]?)=>tactic=>exact hzz _);(conv=>whnf))
  ((conv in (_[_]?)=>tactic=>exact gS (hzz _));(conv=>whnf))
  exact ⟨rfl,fin none bc vc (fun l h=>by cases h) hcc _⟩
 | some l =>
  conv=>whnf
  refine cO (c99 e _ _ D5.cur) ?_
  rintro _ _ ⟨rfl,rfl⟩
  have hbl:=hxc l rfl
  subst hbl
  show _
  cases hw:wholeB (octC (rintC (princR (elemC 97 s).2).1).1).1
  ·have e1:outR (some bc) (octC (rintC (princR (elemC 97 s).2).1).1).1=none:=outR_no hw
   rw [e1]
   conv=>whnf
   ((conv in (_[_]?)=>tactic=>exact hcc);(conv=>whnf))
   ((conv in (_[_]?)=>tactic=>exact hpz _);(conv=>whnf))
   ((conv in (_[_]?)=>tactic=>exact hzz _);(conv=>whnf))
   ((conv in (_[_]?)=>tactic=>exact gS (hzz _));(conv=>whnf))
   exact ⟨rfl,fin none bc vc (fun l h=>by cases h) hcc _⟩
  ·have e1:outR (some bc) (octC (rintC (princR (elemC 97 s).2).1).1).1=some bc:=outR_yes hw
   rw [e1]
   conv=>whnf
   ((conv in (_[_]?)=>tactic=>exact hcc);(conv=>whnf))
   ((conv in (_[_]?)=>tactic=>exact hpz _);(conv=>whnf))
   ((conv in (_[_]?)=>tactic=>exact hzz _);(conv=>whnf))
   ((conv in (_[_]?)=>tactic=>exact gS (hzz _));(conv=>whnf))
   exact ⟨rfl,fin (some bc) bc vc (fun l h=>Option.some.inj h) hcc _⟩
def rkAs (s:Option (List UInt8)):Msg:={ mZ with kind:=1,a1:=(princR s).2.1,a2:=(princR s).2.2,a3:=(princR (princR s).1).2.1,a4:=(princR (princR s).1).2.2,aTill:=(rintC (princR (princR s).1).1).2,aNonce:=(rintC (rintC (princR (princR s).1).1).1).2 }
def rkTgs (s:Option (List UInt8)):Msg:={ mZ with kind:=2,t1:=(tickR s).2.r,t2:=(tickR s).2.n,tKv:=(tickR s).2.kv,tB:=(tickR s).2.b,tBo:=none,tAu:=(octC (tickR s).1).2,tAuo:=none,t3:=(princR (octC (tickR s).1).1).2.1,t4:=(princR (octC (tickR s).1).1).2.2,tTill:=(rintC (princR (octC (tickR s).1).1).1).2,tNonce:=(rintC (rintC (princR (octC (tickR s).1).1).1).1).2 }
def rkRep (s:Option (List UInt8)):Msg:={ mZ with kind:=3,r1:=(princR s).2.1,r2:=(princR s).2.2,r3:=(tickR (princR s).1).2.r,r4:=(tickR (princR s).1).2.n,rKv:=(tickR (princR s).1).2.kv,rB:=(tickR (princR s).1).2.b,rBo:=none,rBl:=(octC (tickR (princR s).1).1).2,rBlo:=none }
def rkAp (s:Option (List UInt8)):Msg:={ mZ with kind:=4,p1:=(tickR s).2.r,p2:=(tickR s).2.n,pKv:=(tickR s).2.kv,pB:=(tickR s).2.b,pBo:=none,pAu:=(octC (tickR s).1).2,pAuo:=none }
def rkFail (s:Option (List UInt8)):Msg:={ mZ with kind:=5,fErr:=(rintC s).2,fNonce:=(rintC (rintC s).1).2 }
def takenRT (t:UInt8) (s:Option (List UInt8)):Msg :=
 if t.toNat=106 then rkAs s else if t.toNat=108 then rkTgs s else if t.toNat=107 then rkRep s else if t.toNat=110 then rkAp s else if t.toNat=126 then rkFail s else mZ
def takenR:List UInt8→Msg
 | []=>mZ
 | t::r=>takenRT t (elemC t (some (t::r))).2
theorem takenR_fits (t:UInt8) (s:Option (List UInt8)):(takenRT t s).fits:=by
 unfold takenRT
 have z:∀n:Nat,([]:List UInt8).length≤n:=fun n=>Nat.zero_le _
 split
 ·refine ⟨?_,?_,?_,?_,?_,?_,?_,?_,?_,?_,?_,?_,?_,?_⟩ <;> first | exact z _ | exact small2 _ _
 ·split
  ·refine ⟨?_,?_,?_,?_,?_,?_,?_,?_,?_,?_,?_,?_,?_,?_⟩ <;> first | exact z _ | exact small2 _ _
  ·split
   ·refine ⟨?_,?_,?_,?_,?_,?_,?_,?_,?_,?_,?_,?_,?_,?_⟩ <;> first | exact z _ | exact small2 _ _
   ·split
    ·refine ⟨?_,?_,?_,?_,?_,?_,?_,?_,?_,?_,?_,?_,?_,?_⟩ <;> first | exact z _ | exact small2 _ _
    ·split
     ·refine ⟨?_,?_,?_,?_,?_,?_,?_,?_,?_,?_,?_,?_,?_,?_⟩ <;> first | exact z _ | exact small2 _ _
     ·refine ⟨?_,?_,?_,?_,?_,?_,?_,?_,?_,?_,?_,?_,?_,?_⟩ <;> first | exact z _ | exact small2 _ _
theorem okM_mZ (b:List UInt8):okM mZ b=false:=rfl
def refDecV (b:List UInt8):PV:=agM (takenR b) b
theorem c22x (b:List UInt8) (hb:b.length≤140737488355328) (H:PH):CK prog 22 [sl b] H fun r H'=>r=refDecV b∧∃ext,H'=H++ext:=by
 (refine fnS (imm:=imm22) ttL_ok func22 ?_;(conv=>whnf))
 ((conv in (_[_]?)=>tactic=>exact gL _ _);(conv=>whnf))
 cases b with
 | nil =>
  have e0:refDecV []=.tup [.agg mZ.d.cells,.int .i64 2]:=agM_no (okM_mZ [])
  rw [e0]
  refine ⟨fun _=>?_,fun h=>absurd rfl h⟩
  conv=>whnf
  ((conv in (_[_]?)=>tactic=>exact gS (gL _ _));(conv=>whnf))
  ((conv in (_[_]?)=>tactic=>exact get_mid_set _ _ _ _);(conv=>whnf))
  ((conv in (_[_]?)=>tactic=>exact gS (get_mid_set _ _ _ _));(conv=>whnf))
  exact ⟨rfl,((((Ext.refl H).push _).push _).set (by simp) _).set (zqn _) _⟩
 | cons t b =>
  refine ⟨fun h=>absurd h (by simp <;> omega),fun _=>?_⟩
  conv=>whnf
  refine ⟨⟨by decide,by first | (simp;done) | (simp;omega)⟩,[bC t],sl_get0 t b,?_⟩
  conv=>whnf
  obtain ⟨HC,hHC⟩:∃HC,HC=(H++[PObj.mk 63 mZ.cells 0]++[PObj.mk 63 mZ.cells 0]).set (H++[PObj.mk 63 mZ.cells 0]).length (PObj.mk 63 mZ.cells 1):=⟨_,rfl⟩
  have hHC':HC=H++[PObj.mk 63 mZ.cells 0]++[PObj.mk 63 mZ.cells 1]:=by rw [hHC,sL]
  have hlC:HC.length=H.length+2:=by rw [hHC'];simp
  have hCr:HC[H.length]? = some ⟨63,mZ.cells,0⟩:=by rw [hHC'];exact get_mid _ _ _
  have hCq:HC[(H++[PObj.mk 63 mZ.cells 0]).length]? = some ⟨63,mZ.cells,1⟩:=by rw [hHC'];exact gL _ _
  have u1:Upd (fun _=>False) H (HC++[PObj.mk 128 [sl (t::b),.bool false] 0]):=by rw [hHC'];exact (((Upd.refl H).push _).push _).push _
  have hcur:rcur (HC++[PObj.mk 128 [sl (t::b),.bool false] 0]) HC.length (some (t::b)):=⟨t::b,0,gL _ _,fun l h=>Option.some.inj h⟩
  have hqn:(H++[PObj.mk 63 mZ.cells 0]).length=H.length+1:=by simp
  have hlD:(HC++[PObj.mk 128 [sl (t::b),.bool false] 0]).length=H.length+3:=by simp [hlC]
  have hDr:(HC++[PObj.mk 128 [sl (t::b),.bool false] 0])[H.length]? = some ⟨63,mZ.cells,0⟩:=by rw [zq2 (by omega)];exact hCr
  have hDq:(HC++[PObj.mk 128 [sl (t::b),.bool false] 0])[(H++[PObj.mk 63 mZ.cells 0]).length]? = some ⟨63,mZ.cells,1⟩:=by rw [zq2 (by omega)];exact hCq
  have k0:HC.length≠H.length:=by omega
  have k9:HC.length≠(H++[PObj.mk 63 mZ.cells 0]).length:=by omega
  subst hHC
  refine cO (c53 _ t _ _ hcur (fun l h=>by cases h;exact hb)) ?_
  rintro _ H2 ⟨e,rfl,k1,k2,k3,k4⟩
  have k1:H.length+3≤e:=Nat.le_trans (Nat.le_of_eq hlD.symm) k1
  have hle:=k4.lt
  have hs0:∀l,(elemC t (some (t::b))).2=some l→l.length≤140737488355328:=fun l h=>((elemC_len (tag:=t) (fun l h=>by cases h;exact hb)).2 l h).1
  have e0:refDecV (t::b)=agM (takenRT t (elemC t (some (t::b))).2) (t::b):=rfl
  rw [e0]
  generalize (elemC t (some (t::b))).2=s at hs0 k4
  have D0:RakS 63 mZ.cells H H2 H.length e (H++[PObj.mk 63 mZ.cells 0]).length s mZ.cells 1:=by
   refine ⟨?_,?_,k4,((u1.over k2 (fun i hi h=>?_))).mono (fun i _ h=>h.elim),by omega,by omega,by omega,by omega⟩
   ·exact (k2.2 _ (Nat.lt_of_lt_of_le (show H.length<H.length+3 by omega) (Nat.le_of_eq hlD.symm)) (fun h=>k0 h.symm)).trans hDr
   ·exact (k2.2 _ (Nat.lt_of_lt_of_le (show (H++[PObj.mk 63 mZ.cells 0]).length<H.length+3 by omega) (Nat.le_of_eq hlD.symm)) (fun h=>k9 h.symm)).trans hDq
   ·have h2:i=H.length+2:=h.trans hlC
    omega
  have fin:∀{K:PH} {s':Option (List UInt8)} {cells:List PV} {ver:Nat} (D:RakS 63 mZ.cells H K H.length e (H++[PObj.mk 63 mZ.cells 0]).length s' cells ver) (o:PObj),∃ext,K.set H.length o=H++ext:=fun D o =>
   Upd.ext ((D.up.mono (Y:=fun _=>False) (fun i hi h=>by have h:i=e:=h;omega)).set (.inr (zqn _)) o)
  have hf:=takenR_fits t s
  conv=>whnf
  refine ⟨⟨by decide,by first | (simp;done) | (simp;omega)⟩,[bC t],sl_get0 t b,?_⟩
  conv=>whnf
  refine ⟨fun h1=>?_,fun h1=>?_⟩
  ·have h1:(t.toNat:Int)=106:=h1
   have et:takenRT t s=rkAs s:=by unfold takenRT;rw [zqp (by omega)]
   rw [et] at hf ⊢
   conv=>whnf
   ((conv in (_[_]?)=>tactic=>exact D0.p);(conv=>whnf))
   have E0:=D0.store ({ mZ with kind:=1 }:Msg).cells 2
   have l0:∀l,s=some l→l.length≤140737488355328:=hs0
   refine cO (c54 e _ _ E0.cur l0) ?_
   rintro _ K0 ⟨rfl,u0,g0⟩
   have F0:=E0.call u0 g0
   conv=>whnf
   ((conv in (_[_]?)=>tactic=>exact F0.p);(conv=>whnf))
   have E1:=F0.store ({ mZ with kind:=1,a1:=(princR s).2.1,a2:=(princR s).2.2 }:Msg).cells 3
   have l1:∀l,(princR s).1=some l→l.length≤140737488355328:=outR_len (elemC_len (tag:=48) l0).1
   refine cO (c54 e _ _ E1.cur l1) ?_
   rintro _ K1 ⟨rfl,u1,g1⟩
   have F1:=E1.call u1 g1
   conv=>whnf
   ((conv in (_[_]?)=>tactic=>exact F1.p);(conv=>whnf))
   have E2:=F1.store ({ mZ with kind:=1,a1:=(princR s).2.1,a2:=(princR s).2.2,a3:=(princR (princR s).1).2.1,a4:=(princR (princR s).1).2.2 }:Msg).cells 4
   have l2:∀l,(princR (princR s).1).1=some l→l.length≤140737488355328:=outR_len (elemC_len (tag:=48) l1).1
   refine cO (c55 e _ _ E2.cur l2) ?_
   rintro _ K2 ⟨rfl,u2,g2⟩
   have F2:=E2.call u2 g2
   conv=>whnf
   ((conv in (_[_]?)=>tactic=>exact F2.p);(conv=>whnf))
   have E3:=F2.store ({ mZ with kind:=1,a1:=(princR s).2.1,a2:=(princR s).2.2,a3:=(princR (princR s).1).2.1,a4:=(princR (princR s).1).2.2,aTill:=(rintC (princR (princR s).1).1).2 }:Msg).cells 5
   have l3:∀l,(rintC (princR (princR s).1).1).1=some l→l.length≤140737488355328:=rintC_len l2
   refine cO (c55 e _ _ E3.cur l3) ?_
   rintro _ K3 ⟨rfl,u3,g3⟩
   have F3:=E3.call u3 g3
   conv=>whnf
   ((conv in (_[_]?)=>tactic=>exact F3.p);(conv=>whnf))
   have E4:=F3.store ({ mZ with kind:=1,a1:=(princR s).2.1,a2:=(princR s).2.2,a3:=(princR (princR s).1).2.1,a4:=(princR (princR s).1).2.2,aTill:=(rintC (princR (princR s).1).1).2,aNonce:=(rintC (rintC (princR (princR s).1).1).1).2 }:Msg).cells 6
   ((conv in (_[_]?)=>tactic=>exact E4.p);(conv=>whnf))
   have hd:encV (rkAs s).d=encV (rkAs s):=rfl
   by_cases hq:isB (rkAs s)=true∧(laidB (rkAs s)).length≤2000
   ·refine cP ((c24 (rkAs s).d hf).of_eq (hd.trans (encV_yes hq))) ?_
    conv=>whnf
    refine ⟨fun _=>?_,fun h=>absurd rfl h⟩
    conv=>whnf
    refine ⟨laidB (rkAs s),⟨rfl,rfl⟩,?_⟩
    conv=>whnf
    refine ⟨t::b,⟨rfl,rfl⟩,?_⟩
    conv=>whnf
    refine ⟨fun h=>?_,fun h=>?_⟩
    ·have hk:okM (rkAs s) (t::b)=true:=by unfold okM;rw [hq.1,zqe hq.2,zqe (show laidB (rkAs s)=t::b from h)];rfl
     rw [agM_yes hk]
     conv=>whnf
     ((conv in (_[_]?)=>tactic=>exact E4.p);(conv=>whnf))
     ((conv in (_[_]?)=>tactic=>exact E4.z);(conv=>whnf))
     ((conv in (_[_]?)=>tactic=>exact gS E4.z);(conv=>whnf))
     exact ⟨rfl,fin E4 _⟩
    ·have hk:okM (rkAs s) (t::b)=false:=by unfold okM;rw [zqd (show ¬laidB (rkAs s)=t::b from h),zq3,zq3]
     rw [agM_no hk]
     conv=>whnf
     ((conv in (_[_]?)=>tactic=>exact E4.z);(conv=>whnf))
     ((conv in (_[_]?)=>tactic=>exact gS E4.z);(conv=>whnf))
     exact ⟨rfl,fin E4 _⟩
   ·have hk:okM (rkAs s) (t::b)=false:=by
     unfold okM
     cases h1:isB (rkAs s)
     ·rfl
     ·rw [zqd (fun h2=>hq ⟨h1,h2⟩)];rfl
    refine cP ((c24 (rkAs s).d hf).of_eq (hd.trans (encV_no hq))) ?_
    rw [agM_no hk]
    conv=>whnf
    refine ⟨fun h=>absurd h (by decide),fun _=>?_⟩
    conv=>whnf
    ((conv in (_[_]?)=>tactic=>exact E4.z);(conv=>whnf))
    ((conv in (_[_]?)=>tactic=>exact gS E4.z);(conv=>whnf))
    exact ⟨rfl,fin E4 _⟩
  conv=>whnf
  have h1:¬(t.toNat:Int)=106:=h1
  refine ⟨fun h2=>?_,fun h2=>?_⟩
  ·have h2:(t.toNat:Int)=108:=h2
   have et:takenRT t s=rkTgs s:=by unfold takenRT;rw [zqo (by omega)];rw [zqp (by omega)]
   rw [et] at hf ⊢
   conv=>whnf
   ((conv in (_[_]?)=>tactic=>exact D0.p);(conv=>whnf))
   have E0:=D0.store ({ mZ with kind:=2 }:Msg).cells 2
   have l0:∀l,s=some l→l.length≤140737488355328:=hs0
   refine cO (c56 e _ _ E0.cur l0) ?_
   rintro _ K0 ⟨rfl,u0,g0⟩
   have F0:=E0.call u0 g0
   conv=>whnf
   ((conv in (_[_]?)=>tactic=>exact F0.p);(conv=>whnf))
   have E1:=F0.store ({ mZ with kind:=2,t1:=(tickR s).2.r,t2:=(tickR s).2.n,tKv:=(tickR s).2.kv,tB:=(tickR s).2.b,tBo:=none }:Msg).cells 3
   have l1:∀l,(tickR s).1=some l→l.length≤140737488355328:=outR_len (elemC_len (tag:=97) l0).1
   refine cO (c57 e _ _ E1.cur l1) ?_
   rintro _ K1 ⟨rfl,u1,g1⟩
   have F1:=E1.call u1 g1
   conv=>whnf
   ((conv in (_[_]?)=>tactic=>exact F1.p);(conv=>whnf))
   have E2:=F1.store ({ mZ with kind:=2,t1:=(tickR s).2.r,t2:=(tickR s).2.n,tKv:=(tickR s).2.kv,tB:=(tickR s).2.b,tBo:=none,tAu:=(octC (tickR s).1).2,tAuo:=none }:Msg).cells 4
   have l2:∀l,(octC (tickR s).1).1=some l→l.length≤140737488355328:=(elemC_len (tag:=4) l1).1
   refine cO (c54 e _ _ E2.cur l2) ?_
   rintro _ K2 ⟨rfl,u2,g2⟩
   have F2:=E2.call u2 g2
   conv=>whnf
   ((conv in (_[_]?)=>tactic=>exact F2.p);(conv=>whnf))
   have E3:=F2.store ({ mZ with kind:=2,t1:=(tickR s).2.r,t2:=(tickR s).2.n,tKv:=(tickR s).2.kv,tB:=(tickR s).2.b,tBo:=none,tAu:=(octC (tickR s).1).2,tAuo:=none,t3:=(princR (octC (tickR s).1).1).2.1,t4:=(princR (octC (tickR s).1).1).2.2 }:Msg).cells 5
   have l3:∀l,(princR (octC (tickR s).1).1).1=some l→l.length≤140737488355328:=outR_len (elemC_len (tag:=48) l2).1
   refine cO (c55 e _ _ E3.cur l3) ?_
   rintro _ K3 ⟨rfl,u3,g3⟩
   have F3:=E3.call u3 g3
   conv=>whnf
   ((conv in (_[_]?)=>tactic=>exact F3.p);(conv=>whnf))
   have E4:=F3.store ({ mZ with kind:=2,t1:=(tickR s).2.r,t2:=(tickR s).2.n,tKv:=(tickR s).2.kv,tB:=(tickR s).2.b,tBo:=none,tAu:=(octC (tickR s).1).2,tAuo:=none,t3:=(princR (octC (tickR s).1).1).2.1,t4:=(princR (octC (tickR s).1).1).2.2,tTill:=(rintC (princR (octC (tickR s).1).1).1).2 }:Msg).cells 6
   have l4:∀l,(rintC (princR (octC (tickR s).1).1).1).1=some l→l.length≤140737488355328:=rintC_len l3
   refine cO (c55 e _ _ E4.cur l4) ?_
   rintro _ K4 ⟨rfl,u4,g4⟩
   have F4:=E4.call u4 g4
   conv=>whnf
   ((conv in (_[_]?)=>tactic=>exact F4.p);(conv=>whnf))
   have E5:=F4.store ({ mZ with kind:=2,t1:=(tickR s).2.r,t2:=(tickR s).2.n,tKv:=(tickR s).2.kv,tB:=(tickR s).2.b,tBo:=none,tAu:=(octC (tickR s).1).2,tAuo:=none,t3:=(princR (octC (tickR s).1).1).2.1,t4:=(princR (octC (tickR s).1).1).2.2,tTill:=(rintC (princR (octC (tickR s).1).1).1).2,tNonce:=(rintC (rintC (princR (octC (tickR s).1).1).1).1).2 }:Msg).cells 7
   ((conv in (_[_]?)=>tactic=>exact E5.p);(conv=>whnf))
   have hd:encV (rkTgs s).d=encV (rkTgs s):=rfl
   by_cases hq:isB (rkTgs s)=true∧(laidB (rkTgs s)).length≤2000
   ·refine cP ((c24 (rkTgs s).d hf).of_eq (hd.trans (encV_yes hq))) ?_
    conv=>whnf
    refine ⟨fun _=>?_,fun h=>absurd rfl h⟩
    conv=>whnf
    refine ⟨laidB (rkTgs s),⟨rfl,rfl⟩,?_⟩
    conv=>whnf
    refine ⟨t::b,⟨rfl,rfl⟩,?_⟩
    conv=>whnf
    refine ⟨fun h=>?_,fun h=>?_⟩
    ·have hk:okM (rkTgs s) (t::b)=true:=by unfold okM;rw [hq.1,zqe hq.2,zqe (show laidB (rkTgs s)=t::b from h)];rfl
     rw [agM_yes hk]
     conv=>whnf
     ((conv in (_[_]?)=>tactic=>exact E5.p);(conv=>whnf))
     ((conv in (_[_]?)=>tactic=>exact E5.z);(conv=>whnf))
     ((conv in (_[_]?)=>tactic=>exact gS E5.z);(conv=>whnf))
     exact ⟨rfl,fin E5 _⟩
    ·have hk:okM (rkTgs s) (t::b)=false:=by unfold okM;rw [zqd (show ¬laidB (rkTgs s)=t::b from h),zq3,zq3]
     rw [agM_no hk]
     conv=>whnf
     ((conv in (_[_]?)=>tactic=>exact E5.z);(conv=>whnf))
     ((conv in (_[_]?)=>tactic=>exact gS E5.z);(conv=>whnf))
     exact ⟨rfl,fin E5 _⟩
   ·have hk:okM (rkTgs s) (t::b)=false:=by
     unfold okM
     cases h1:isB (rkTgs s)
     ·rfl
     ·rw [zqd (fun h2=>hq ⟨h1,h2⟩)];rfl
    refine cP ((c24 (rkTgs s).d hf).of_eq (hd.trans (encV_no hq))) ?_
    rw [agM_no hk]
    conv=>whnf
    refine ⟨fun h=>absurd h (by decide),fun _=>?_⟩
    conv=>whnf
    ((conv in (_[_]?)=>tactic=>exact E5.z);(conv=>whnf))
    ((conv in (_[_]?)=>tactic=>exact gS E5.z);(conv=>whnf))
    exact ⟨rfl,fin E5 _⟩
  conv=>whnf
  have h2:¬(t.toNat:Int)=108:=h2
  refine ⟨fun h3=>?_,fun h3=>?_⟩
  ·have h3:(t.toNat:Int)=107:=h3
   have et:takenRT t s=rkRep s:=by unfold takenRT;rw [zqo (by omega)];rw [zqo (by omega)];rw [zqp (by omega)]
   rw [et] at hf ⊢
   conv=>whnf
   ((conv in (_[_]?)=>tactic=>exact D0.p);(conv=>whnf))
   have E0:=D0.store ({ mZ with kind:=3 }:Msg).cells 2
   have l0:∀l,s=some l→l.length≤140737488355328:=hs0
   refine cO (c54 e _ _ E0.cur l0) ?_
   rintro _ K0 ⟨rfl,u0,g0⟩
   have F0:=E0.call u0 g0
   conv=>whnf
   ((conv in (_[_]?)=>tactic=>exact F0.p);(conv=>whnf))
   have E1:=F0.store ({ mZ with kind:=3,r1:=(princR s).2.1,r2:=(princR s).2.2 }:Msg).cells 3
   have l1:∀l,(princR s).1=some l→l.length≤140737488355328:=outR_len (elemC_len (tag:=48) l0).1
   refine cO (c56 e _ _ E1.cur l1) ?_
   rintro _ K1 ⟨rfl,u1,g1⟩
   have F1:=E1.call u1 g1
   conv=>whnf
   ((conv in (_[_]?)=>tactic=>exact F1.p);(conv=>whnf))
   have E2:=F1.store ({ mZ with kind:=3,r1:=(princR s).2.1,r2:=(princR s).2.2,r3:=(tickR (princR s).1).2.r,r4:=(tickR (princR s).1).2.n,rKv:=(tickR (princR s).1).2.kv,rB:=(tickR (princR s).1).2.b,rBo:=none }:Msg).cells 4
   have l2:∀l,(tickR (princR s).1).1=some l→l.length≤140737488355328:=outR_len (elemC_len (tag:=97) l1).1
   refine cO (c57 e _ _ E2.cur l2) ?_
   rintro _ K2 ⟨rfl,u2,g2⟩
   have F2:=E2.call u2 g2
   conv=>whnf
   ((conv in (_[_]?)=>tactic=>exact F2.p);(conv=>whnf))
   have E3:=F2.store ({ mZ with kind:=3,r1:=(princR s).2.1,r2:=(princR s).2.2,r3:=(tickR (princR s).1).2.r,r4:=(tickR (princR s).1).2.n,rKv:=(tickR (princR s).1).2.kv,rB:=(tickR (princR s).1).2.b,rBo:=none,rBl:=(octC (tickR (princR s).1).1).2,rBlo:=none }:Msg).cells 5
   ((conv in (_[_]?)=>tactic=>exact E3.p);(conv=>whnf))
   have hd:encV (rkRep s).d=encV (rkRep s):=rfl
   by_cases hq:isB (rkRep s)=true∧(laidB (rkRep s)).length≤2000
   ·refine cP ((c24 (rkRep s).d hf).of_eq (hd.trans (encV_yes hq))) ?_
    conv=>whnf
    refine ⟨fun _=>?_,fun h=>absurd rfl h⟩
    conv=>whnf
    refine ⟨laidB (rkRep s),⟨rfl,rfl⟩,?_⟩
    conv=>whnf
    refine ⟨t::b,⟨rfl,rfl⟩,?_⟩
    conv=>whnf
    refine ⟨fun h=>?_,fun h=>?_⟩
    ·have hk:okM (rkRep s) (t::b)=true:=by unfold okM;rw [hq.1,zqe hq.2,zqe (show laidB (rkRep s)=t::b from h)];rfl
     rw [agM_yes hk]
     conv=>whnf
     ((conv in (_[_]?)=>tactic=>exact E3.p);(conv=>whnf))
     ((conv in (_[_]?)=>tactic=>exact E3.z);(conv=>whnf))
     ((conv in (_[_]?)=>tactic=>exact gS E3.z);(conv=>whnf))
     exact ⟨rfl,fin E3 _⟩
    ·have hk:okM (rkRep s) (t::b)=false:=by unfold okM;rw [zqd (show ¬laidB (rkRep s)=t::b from h),zq3,zq3]
     rw [agM_no hk]
     conv=>whnf
     ((conv in (_[_]?)=>tactic=>exact E3.z);(conv=>whnf))
     ((conv in (_[_]?)=>tactic=>exact gS E3.z);(conv=>whnf))
     exact ⟨rfl,fin E3 _⟩
   ·have hk:okM (rkRep s) (t::b)=false:=by
     unfold okM
     cases h1:isB (rkRep s)
     ·rfl
     ·rw [zqd (fun h2=>hq ⟨h1,h2⟩)];rfl
    refine cP ((c24 (rkRep s).d hf).of_eq (hd.trans (encV_no hq))) ?_
    rw [agM_no hk]
    conv=>whnf
    refine ⟨fun h=>absurd h (by decide),fun _=>?_⟩
    conv=>whnf
    ((conv in (_[_]?)=>tactic=>exact E3.z);(conv=>whnf))
    ((conv in (_[_]?)=>tactic=>exact gS E3.z);(conv=>whnf))
    exact ⟨rfl,fin E3 _⟩
  conv=>whnf
  have h3:¬(t.toNat:Int)=107:=h3
  refine ⟨fun h4=>?_,fun h4=>?_⟩
  ·have h4:(t.toNat:Int)=110:=h4
   have et:takenRT t s=rkAp s:=by unfold takenRT;rw [zqo (by omega)];rw [zqo (by omega)];rw [zqo (by omega)];rw [zqp (by omega)]
   rw [et] at hf ⊢
   conv=>whnf
   ((conv in (_[_]?)=>tactic=>exact D0.p);(conv=>whnf))
   have E0:=D0.store ({ mZ with kind:=4 }:Msg).cells 2
   have l0:∀l,s=some l→l.length≤140737488355328:=hs0
   refine cO (c56 e _ _ E0.cur l0) ?_
   rintro _ K0 ⟨rfl,u0,g0⟩
   have F0:=E0.call u0 g0
   conv=>whnf
   ((conv in (_[_]?)=>tactic=>exact F0.p);(conv=>whnf))
   have E1:=F0.store ({ mZ with kind:=4,p1:=(tickR s).2.r,p2:=(tickR s).2.n,pKv:=(tickR s).2.kv,pB:=(tickR s).2.b,pBo:=none }:Msg).cells 3
   have l1:∀l,(tickR s).1=some l→l.length≤140737488355328:=outR_len (elemC_len (tag:=97) l0).1
   refine cO (c57 e _ _ E1.cur l1) ?_
   rintro _ K1 ⟨rfl,u1,g1⟩
   have F1:=E1.call u1 g1
   conv=>whnf
   ((conv in (_[_]?)=>tactic=>exact F1.p);(conv=>whnf))
   have E2:=F1.store ({ mZ with kind:=4,p1:=(tickR s).2.r,p2:=(tickR s).2.n,pKv:=(tickR s).2.kv,pB:=(tickR s).2.b,pBo:=none,pAu:=(octC (tickR s).1).2,pAuo:=none }:Msg).cells 4
   ((conv in (_[_]?)=>tactic=>exact E2.p);(conv=>whnf))
   have hd:encV (rkAp s).d=encV (rkAp s):=rfl
   by_cases hq:isB (rkAp s)=true∧(laidB (rkAp s)).length≤2000
   ·refine cP ((c24 (rkAp s).d hf).of_eq (hd.trans (encV_yes hq))) ?_
    conv=>whnf
    refine ⟨fun _=>?_,fun h=>absurd rfl h⟩
    conv=>whnf
    refine ⟨laidB (rkAp s),⟨rfl,rfl⟩,?_⟩
    conv=>whnf
    refine ⟨t::b,⟨rfl,rfl⟩,?_⟩
    conv=>whnf
    refine ⟨fun h=>?_,fun h=>?_⟩
    ·have hk:okM (rkAp s) (t::b)=true:=by unfold okM;rw [hq.1,zqe hq.2,zqe (show laidB (rkAp s)=t::b from h)];rfl
     rw [agM_yes hk]
     conv=>whnf
     ((conv in (_[_]?)=>tactic=>exact E2.p);(conv=>whnf))
     ((conv in (_[_]?)=>tactic=>exact E2.z);(conv=>whnf))
     ((conv in (_[_]?)=>tactic=>exact gS E2.z);(conv=>whnf))
     exact ⟨rfl,fin E2 _⟩
    ·have hk:okM (rkAp s) (t::b)=false:=by unfold okM;rw [zqd (show ¬laidB (rkAp s)=t::b from h),zq3,zq3]
     rw [agM_no hk]
     conv=>whnf
     ((conv in (_[_]?)=>tactic=>exact E2.z);(conv=>whnf))
     ((conv in (_[_]?)=>tactic=>exact gS E2.z);(conv=>whnf))
     exact ⟨rfl,fin E2 _⟩
   ·have hk:okM (rkAp s) (t::b)=false:=by
     unfold okM
     cases h1:isB (rkAp s)
     ·rfl
     ·rw [zqd (fun h2=>hq ⟨h1,h2⟩)];rfl
    refine cP ((c24 (rkAp s).d hf).of_eq (hd.trans (encV_no hq))) ?_
    rw [agM_no hk]
    conv=>whnf
    refine ⟨fun h=>absurd h (by decide),fun _=>?_⟩
    conv=>whnf
    ((conv in (_[_]?)=>tactic=>exact E2.z);(conv=>whnf))
    ((conv in (_[_]?)=>tactic=>exact gS E2.z);(conv=>whnf))
    exact ⟨rfl,fin E2 _⟩
  conv=>whnf
  have h4:¬(t.toNat:Int)=110:=h4
  refine ⟨fun h5=>?_,fun h5=>?_⟩
  ·have h5:(t.toNat:Int)=126:=h5
   have et:takenRT t s=rkFail s:=by unfold takenRT;rw [zqo (by omega)];rw [zqo (by omega)];rw [zqo (by omega)];rw [zqo (by omega)];rw [zqp (by omega)]
   rw [et] at hf ⊢
   conv=>whnf
   ((conv in (_[_]?)=>tactic=>exact D0.p);(conv=>whnf))
   have E0:=D0.store ({ mZ with kind:=5 }:Msg).cells 2
   have l0:∀l,s=some l→l.length≤140737488355328:=hs0
   refine cO (c55 e _ _ E0.cur l0) ?_
   rintro _ K0 ⟨rfl,u0,g0⟩
   have F0:=E0.call u0 g0
   conv=>whnf
   ((conv in (_[_]?)=>tactic=>exact F0.p);(conv=>whnf))
   have E1:=F0.store ({ mZ with kind:=5,fErr:=(rintC s).2 }:Msg).cells 3
   have l1:∀l,(rintC s).1=some l→l.length≤140737488355328:=rintC_len l0
   refine cO (c55 e _ _ E1.cur l1) ?_
   rintro _ K1 ⟨rfl,u1,g1⟩
   have F1:=E1.call u1 g1
   conv=>whnf
   ((conv in (_[_]?)=>tactic=>exact F1.p);(conv=>whnf))
   have E2:=F1.store ({ mZ with kind:=5,fErr:=(rintC s).2,fNonce:=(rintC (rintC s).1).2 }:Msg).cells 4
   ((conv in (_[_]?)=>tactic=>exact E2.p);(conv=>whnf))
   have hd:encV (rkFail s).d=encV (rkFail s):=rfl
   by_cases hq:isB (rkFail s)=true∧(laidB (rkFail s)).length≤2000
   ·refine cP ((c24 (rkFail s).d hf).of_eq (hd.trans (encV_yes hq))) ?_
    conv=>whnf
    refine ⟨fun _=>?_,fun h=>absurd rfl h⟩
    conv=>whnf
    refine ⟨laidB (rkFail s),⟨rfl,rfl⟩,?_⟩
    conv=>whnf
    refine ⟨t::b,⟨rfl,rfl⟩,?_⟩
    conv=>whnf
    refine ⟨fun h=>?_,fun h=>?_⟩
    ·have hk:okM (rkFail s) (t::b)=true:=by unfold okM;rw [hq.1,zqe hq.2,zqe (show laidB (rkFail s)=t::b from h)];rfl
     rw [agM_yes hk]
     conv=>whnf
     ((conv in (_[_]?)=>tactic=>exact E2.p);(conv=>whnf))
     ((conv in (_[_]?)=>tactic=>exact E2.z);(conv=>whnf))
     ((conv in (_[_]?)=>tactic=>exact gS E2.z);(conv=>whnf))
     exact ⟨rfl,fin E2 _⟩
    ·have hk:okM (rkFail s) (t::b)=false:=by unfold okM;rw [zqd (show ¬laidB (rkFail s)=t::b from h),zq3,zq3]
     rw [agM_no hk]
     conv=>whnf
     ((conv in (_[_]?)=>tactic=>exact E2.z);(conv=>whnf))
     ((conv in (_[_]?)=>tactic=>exact gS E2.z);(conv=>whnf))
     exact ⟨rfl,fin E2 _⟩
   ·have hk:okM (rkFail s) (t::b)=false:=by
     unfold okM
     cases h1:isB (rkFail s)
     ·rfl
     ·rw [zqd (fun h2=>hq ⟨h1,h2⟩)];rfl
    refine cP ((c24 (rkFail s).d hf).of_eq (hd.trans (encV_no hq))) ?_
    rw [agM_no hk]
    conv=>whnf
    refine ⟨fun h=>absurd h (by decide),fun _=>?_⟩
    conv=>whnf
    ((conv in (_[_]?)=>tactic=>exact E2.z);(conv=>whnf))
    ((conv in (_[_]?)=>tactic=>exact gS E2.z);(conv=>whnf))
    exact ⟨rfl,fin E2 _⟩
  conv=>whnf
  have h5:¬(t.toNat:Int)=126:=h5
  have et:takenRT t s=mZ:=by unfold takenRT;rw [zqo (by omega),zqo (by omega),zqo (by omega),zqo (by omega),zqo (by omega)]
  rw [et,agM_no (okM_mZ _)]
  ((conv in (_[_]?)=>tactic=>exact D0.p);(conv=>whnf))
  ((conv in (_[_]?)=>tactic=>exact D0.z);(conv=>whnf))
  ((conv in (_[_]?)=>tactic=>exact gS D0.z);(conv=>whnf))
  exact ⟨rfl,fin D0 _⟩
theorem c22 (b:List UInt8) (hb:b.length≤140737488355328):Pure prog 22 [sl b] (refDecV b):=Pure.of_gc (agM_old _ b) (c22x b hb)
theorem princR_wrap (r n rest:List UInt8) (hr:r.length≤1000) (hn:n.length≤1000):princR (some (princE r n++rest))=(some rest,(r,n)):=by
 have h1:=wrapB_len 27 r
 have h2:=wrapB_len 27 n
 unfold princR princE
 rw [elemC_wrap 48 _ rest (by simp only [zqk,zql,zqf,List.length_nil];omega)]
 simp only [zqk,zql]
 rw [txtC_wrap r _ (by omega)]
 simp only
 rw [txtC_wrap n [] (by omega)]
 rfl
theorem tickR_wrap (r n:List UInt8) (kv:Int) (b rest:List UInt8) (hr:r.length≤1000) (hn:n.length≤1000) (h0:0≤kv) (h1:kv≤4611686018427387904) (hb:b.length≤10000) :
  tickR (some (ticketE r n kv b++rest))=(some rest,⟨r,n,kv,b⟩):=by
 have k1:=princE_len r n
 have k2:=intE_len kv
 have k3:=wrapB_len 4 b
 unfold tickR ticketE
 rw [elemC_wrap 97 _ rest (by simp only [zqk,zql,zqf,List.length_nil];omega)]
 simp only [zqk,zql]
 unfold tickRD
 rw [princR_wrap r n _ hr hn]
 simp only
 rw [rintC_wrap kv h0 h1]
 simp only
 rw [octC_wrap b [] (by omega)]
 rfl
theorem takenR_wrap (t:UInt8) (x:List UInt8) (hx:x.length≤65535):takenR (wrapB t x)=takenRT t (some x):=by
 have e:=elemC_wrap t x [] hx
 rw [List.append_nil] at e
 show takenRT t (elemC t (some (wrapB t x))).2=_
 rw [e]
theorem takenR_laid (m:Msg) (h:isB m=true):(takenR (laidB m)).d=m.d:=by
 obtain ⟨o1,o2,o3,o4,o5⟩:=others_z (isB_kind h)
 have hm:=(zqb _ _▸h:_∧_).1
 by_cases h1:m.kind=1
 ·skip
  rw [zqp h1] at hm
  simp only [zqb] at hm
  have g1:=princ_len hm.1.1.1
  have g2:=princ_len hm.1.1.2
  have g3:=inZ_le hm.1.2
  have g4:=inZ_le hm.2
  have e0:=princE_len m.a1 m.a2
  have e1:=princE_len m.a3 m.a4
  have e2:=intE_len m.aTill
  have e3:=intE_len m.aNonce
  have hl:laidB m=wrapB 106 [princE m.a1 m.a2,princE m.a3 m.a4,intE m.aTill,intE m.aNonce].flatten:=by unfold laidB;rw [zqp h1]
  rw [hl,takenR_wrap _ _ (by simp only [zqk,zql,zqf,List.length_nil];omega)]
  show (rkAs (some [princE m.a1 m.a2,princE m.a3 m.a4,intE m.aTill,intE m.aNonce].flatten)).d=_
  simp only [zqk,zql]
  unfold rkAs
  have w0:=princR_wrap m.a1 m.a2 (princE m.a3 m.a4++(intE m.aTill++(intE m.aNonce++[]))) (by omega) (by omega)
  have w1:=princR_wrap m.a3 m.a4 (intE m.aTill++(intE m.aNonce++[])) (by omega) (by omega)
  have w2:=rintC_wrap m.aTill (by omega) (by omega) (intE m.aNonce++[])
  have w3:=rintC_wrap m.aNonce (by omega) (by omega) []
  simp only [w0,w1,w2,w3]
  have z2:=noTgs_z (o2 (by omega))
  have z3:=noRep_z (o3 (by omega))
  have z4:=noAp_z (o4 (by omega))
  have z5:=noFail_z (o5 (by omega))
  clear o1 o2 o3 o4 o5 hl hm h w0
  obtain ⟨kind,a1,a2,a3,a4,aTill,aNonce,t1,t2,tKv,tB,tBo,tAu,tAuo,t3,t4,tTill,tNonce,r1,r2,r3,r4,rKv,rB,rBo,rBl,rBlo,p1,p2,pKv,pB,pBo,pAu,pAuo,fErr,fNonce⟩:=m
  obtain ⟨y2_0,y2_1,y2_2,y2_3,y2_4,y2_5,y2_6,y2_7,y2_8⟩:=z2
  obtain ⟨y3_0,y3_1,y3_2,y3_3,y3_4,y3_5,y3_6⟩:=z3
  obtain ⟨y4_0,y4_1,y4_2,y4_3,y4_4⟩:=z4
  obtain ⟨y5_0,y5_1⟩:=z5
  simp only at *
  subst h1 y2_0 y2_1 y2_2 y2_3 y2_4 y2_5 y2_6 y2_7 y2_8 y3_0 y3_1 y3_2 y3_3 y3_4 y3_5 y3_6 y4_0 y4_1 y4_2 y4_3 y4_4 y5_0 y5_1
  rfl
 by_cases h2:m.kind=2
 ·skip
  rw [zqo h1] at hm
  rw [zqp h2] at hm
  simp only [zqb] at hm
  have g1:=tick_len hm.1.1.1.1
  have gk:=tick_kv hm.1.1.1.1
  have g2:=inZ_le hm.1.1.1.2
  have g3:=princ_len hm.1.1.2
  have g4:=inZ_le hm.1.2
  have g5:=inZ_le hm.2
  have e0:=ticketE_len m.t1 m.t2 m.tKv m.tB
  have e1:=wrapB_len 4 m.tAu
  have e2:=princE_len m.t3 m.t4
  have e3:=intE_len m.tTill
  have e4:=intE_len m.tNonce
  have hl:laidB m=wrapB 108 [ticketE m.t1 m.t2 m.tKv m.tB,wrapB 4 m.tAu,princE m.t3 m.t4,intE m.tTill,intE m.tNonce].flatten:=by unfold laidB;rw [zqo h1];rw [zqp h2]
  rw [hl,takenR_wrap _ _ (by simp only [zqk,zql,zqf,List.length_nil];omega)]
  show (rkTgs (some [ticketE m.t1 m.t2 m.tKv m.tB,wrapB 4 m.tAu,princE m.t3 m.t4,intE m.tTill,intE m.tNonce].flatten)).d=_
  simp only [zqk,zql]
  unfold rkTgs
  have w0:=tickR_wrap m.t1 m.t2 m.tKv m.tB (wrapB 4 m.tAu++(princE m.t3 m.t4++(intE m.tTill++(intE m.tNonce++[])))) (by omega) (by omega) (by omega) (by omega) (by omega)
  have w1:=octC_wrap m.tAu (princE m.t3 m.t4++(intE m.tTill++(intE m.tNonce++[]))) (by omega)
  have w2:=princR_wrap m.t3 m.t4 (intE m.tTill++(intE m.tNonce++[])) (by omega) (by omega)
  have w3:=rintC_wrap m.tTill (by omega) (by omega) (intE m.tNonce++[])
  have w4:=rintC_wrap m.tNonce (by omega) (by omega) []
  simp only [w0,w1,w2,w3,w4]
  have z1:=noAs_z (o1 (by omega))
  have z3:=noRep_z (o3 (by omega))
  have z4:=noAp_z (o4 (by omega))
  have z5:=noFail_z (o5 (by omega))
  clear o1 o2 o3 o4 o5 hl hm h w0
  obtain ⟨kind,a1,a2,a3,a4,aTill,aNonce,t1,t2,tKv,tB,tBo,tAu,tAuo,t3,t4,tTill,tNonce,r1,r2,r3,r4,rKv,rB,rBo,rBl,rBlo,p1,p2,pKv,pB,pBo,pAu,pAuo,fErr,fNonce⟩:=m
  obtain ⟨y1_0,y1_1,y1_2,y1_3,y1_4,y1_5⟩:=z1
  obtain ⟨y3_0,y3_1,y3_2,y3_3,y3_4,y3_5,y3_6⟩:=z3
  obtain ⟨y4_0,y4_1,y4_2,y4_3,y4_4⟩:=z4
  obtain ⟨y5_0,y5_1⟩:=z5
  simp only at *
  subst h2 y1_0 y1_1 y1_2 y1_3 y1_4 y1_5 y3_0 y3_1 y3_2 y3_3 y3_4 y3_5 y3_6 y4_0 y4_1 y4_2 y4_3 y4_4 y5_0 y5_1
  rfl
 by_cases h3:m.kind=3
 ·skip
  rw [zqo h1] at hm
  rw [zqo h2] at hm
  rw [zqp h3] at hm
  simp only [zqb] at hm
  have g1:=princ_len hm.1.1
  have g2:=tick_len hm.1.2
  have gk:=tick_kv hm.1.2
  have g3:=inZ_le hm.2
  have e0:=princE_len m.r1 m.r2
  have e1:=ticketE_len m.r3 m.r4 m.rKv m.rB
  have e2:=wrapB_len 4 m.rBl
  have hl:laidB m=wrapB 107 [princE m.r1 m.r2,ticketE m.r3 m.r4 m.rKv m.rB,wrapB 4 m.rBl].flatten:=by unfold laidB;rw [zqo h1];rw [zqo h2];rw [zqp h3]
  rw [hl,takenR_wrap _ _ (by simp only [zqk,zql,zqf,List.length_nil];omega)]
  show (rkRep (some [princE m.r1 m.r2,ticketE m.r3 m.r4 m.rKv m.rB,wrapB 4 m.rBl].flatten)).d=_
  simp only [zqk,zql]
  unfold rkRep
  have w0:=princR_wrap m.r1 m.r2 (ticketE m.r3 m.r4 m.rKv m.rB++(wrapB 4 m.rBl++[])) (by omega) (by omega)
  have w1:=tickR_wrap m.r3 m.r4 m.rKv m.rB (wrapB 4 m.rBl++[]) (by omega) (by omega) (by omega) (by omega) (by omega)
  have w2:=octC_wrap m.rBl [] (by omega)
  simp only [w0,w1,w2]
  have z1:=noAs_z (o1 (by omega))
  have z2:=noTgs_z (o2 (by omega))
  have z4:=noAp_z (o4 (by omega))
  have z5:=noFail_z (o5 (by omega))
  clear o1 o2 o3 o4 o5 hl hm h w0
  obtain ⟨kind,a1,a2,a3,a4,aTill,aNonce,t1,t2,tKv,tB,tBo,tAu,tAuo,t3,t4,tTill,tNonce,r1,r2,r3,r4,rKv,rB,rBo,rBl,rBlo,p1,p2,pKv,pB,pBo,pAu,pAuo,fErr,fNonce⟩:=m
  obtain ⟨y1_0,y1_1,y1_2,y1_3,y1_4,y1_5⟩:=z1
  obtain ⟨y2_0,y2_1,y2_2,y2_3,y2_4,y2_5,y2_6,y2_7,y2_8⟩:=z2
  obtain ⟨y4_0,y4_1,y4_2,y4_3,y4_4⟩:=z4
  obtain ⟨y5_0,y5_1⟩:=z5
  simp only at *
  subst h3 y1_0 y1_1 y1_2 y1_3 y1_4 y1_5 y2_0 y2_1 y2_2 y2_3 y2_4 y2_5 y2_6 y2_7 y2_8 y4_0 y4_1 y4_2 y4_3 y4_4 y5_0 y5_1
  rfl
 by_cases h4:m.kind=4
 ·skip
  rw [zqo h1] at hm
  rw [zqo h2] at hm
  rw [zqo h3] at hm
  rw [zqp h4] at hm
  simp only [zqb] at hm
  have g1:=tick_len hm.1
  have gk:=tick_kv hm.1
  have g2:=inZ_le hm.2
  have e0:=ticketE_len m.p1 m.p2 m.pKv m.pB
  have e1:=wrapB_len 4 m.pAu
  have hl:laidB m=wrapB 110 [ticketE m.p1 m.p2 m.pKv m.pB,wrapB 4 m.pAu].flatten:=by unfold laidB;rw [zqo h1];rw [zqo h2];rw [zqo h3];rw [zqp h4]
  rw [hl,takenR_wrap _ _ (by simp only [zqk,zql,zqf,List.length_nil];omega)]
  show (rkAp (some [ticketE m.p1 m.p2 m.pKv m.pB,wrapB 4 m.pAu].flatten)).d=_
  simp only [zqk,zql]
  unfold rkAp
  have w0:=tickR_wrap m.p1 m.p2 m.pKv m.pB (wrapB 4 m.pAu++[]) (by omega) (by omega) (by omega) (by omega) (by omega)
  have w1:=octC_wrap m.pAu [] (by omega)
  simp only [w0,w1]
  have z1:=noAs_z (o1 (by omega))
  have z2:=noTgs_z (o2 (by omega))
  have z3:=noRep_z (o3 (by omega))
  have z5:=noFail_z (o5 (by omega))
  clear o1 o2 o3 o4 o5 hl hm h w0
  obtain ⟨kind,a1,a2,a3,a4,aTill,aNonce,t1,t2,tKv,tB,tBo,tAu,tAuo,t3,t4,tTill,tNonce,r1,r2,r3,r4,rKv,rB,rBo,rBl,rBlo,p1,p2,pKv,pB,pBo,pAu,pAuo,fErr,fNonce⟩:=m
  obtain ⟨y1_0,y1_1,y1_2,y1_3,y1_4,y1_5⟩:=z1
  obtain ⟨y2_0,y2_1,y2_2,y2_3,y2_4,y2_5,y2_6,y2_7,y2_8⟩:=z2
  obtain ⟨y3_0,y3_1,y3_2,y3_3,y3_4,y3_5,y3_6⟩:=z3
  obtain ⟨y5_0,y5_1⟩:=z5
  simp only at *
  subst h4 y1_0 y1_1 y1_2 y1_3 y1_4 y1_5 y2_0 y2_1 y2_2 y2_3 y2_4 y2_5 y2_6 y2_7 y2_8 y3_0 y3_1 y3_2 y3_3 y3_4 y3_5 y3_6 y5_0 y5_1
  rfl
 by_cases h5:m.kind=5
 ·skip
  rw [zqo h1] at hm
  rw [zqo h2] at hm
  rw [zqo h3] at hm
  rw [zqo h4] at hm
  rw [zqp h5] at hm
  simp only [zqb] at hm
  have g1:=inZ_le hm.1
  have g2:=inZ_le hm.2
  have e0:=intE_len m.fErr
  have e1:=intE_len m.fNonce
  have hl:laidB m=wrapB 126 [intE m.fErr,intE m.fNonce].flatten:=by unfold laidB;rw [zqo h1,zqo h2,zqo h3,zqo h4]
  rw [hl,takenR_wrap _ _ (by simp only [zqk,zql,zqf,List.length_nil];omega)]
  show (rkFail (some [intE m.fErr,intE m.fNonce].flatten)).d=_
  simp only [zqk,zql]
  unfold rkFail
  have w0:=rintC_wrap m.fErr (by omega) (by omega) (intE m.fNonce++[])
  have w1:=rintC_wrap m.fNonce (by omega) (by omega) []
  simp only [w0,w1]
  have z1:=noAs_z (o1 (by omega))
  have z2:=noTgs_z (o2 (by omega))
  have z3:=noRep_z (o3 (by omega))
  have z4:=noAp_z (o4 (by omega))
  clear o1 o2 o3 o4 o5 hl hm h w0
  obtain ⟨kind,a1,a2,a3,a4,aTill,aNonce,t1,t2,tKv,tB,tBo,tAu,tAuo,t3,t4,tTill,tNonce,r1,r2,r3,r4,rKv,rB,rBo,rBl,rBlo,p1,p2,pKv,pB,pBo,pAu,pAuo,fErr,fNonce⟩:=m
  obtain ⟨y1_0,y1_1,y1_2,y1_3,y1_4,y1_5⟩:=z1
  obtain ⟨y2_0,y2_1,y2_2,y2_3,y2_4,y2_5,y2_6,y2_7,y2_8⟩:=z2
  obtain ⟨y3_0,y3_1,y3_2,y3_3,y3_4,y3_5,y3_6⟩:=z3
  obtain ⟨y4_0,y4_1,y4_2,y4_3,y4_4⟩:=z4
  simp only at *
  subst h5 y1_0 y1_1 y1_2 y1_3 y1_4 y1_5 y2_0 y2_1 y2_2 y2_3 y2_4 y2_5 y2_6 y2_7 y2_8 y3_0 y3_1 y3_2 y3_3 y3_4 y3_5 y3_6 y4_0 y4_1 y4_2 y4_3 y4_4
  rfl
 rw [zqo h1,zqo h2,zqo h3,zqo h4,zqo h5] at hm
 cases hm
theorem okM_iff {m:Msg} {b:List UInt8}:okM m b=true↔isB m=true∧(laidB m).length≤2000∧laidB m=b:=by
 unfold okM
 rw [zqb,zqb,decide_eq_true_eq,decide_eq_true_eq]
theorem okM_d {m m':Msg} {b:List UInt8} (h:m.d=m'.d):okM m b=okM m' b:=by
 unfold okM
 rw [d_is h,d_laid h]
theorem refDec_eq (b:List UInt8):refDecV b=decV b:=by
 unfold refDecV decV
 cases h1:okM (takenR b) b
 ·cases h2:okM (takenB b) b
  ·rw [agM_no h1,agM_no h2]
  ·exfalso
   obtain ⟨k1,k2,k3⟩:=okM_iff.1 h2
   have e:=takenR_laid _ k1
   rw [k3] at e
   rw [okM_d e,h2] at h1
   cases h1
 ·obtain ⟨k1,k2,k3⟩:=okM_iff.1 h1
  have e:=taken_laid _ k1
  rw [k3] at e
  have h2:okM (takenB b) b=true:=by rw [okM_d e,h1]
  rw [agM_yes h1,agM_yes h2,e]
def ttQ:TT:=[(3,⟨.int .i64,1,8,[.int .i64 0]⟩),(4,⟨.bool,1,1,[.bool false]⟩),(5,⟨.int .u8,1,1,[.int .u8 0]⟩),(9,⟨.str,1,16,[.str []]⟩),(25,⟨.slice 5,1,24,[.slice 0 [] (some 5)]⟩),(36,⟨.strct [(9,0),(9,1)],2,32,[.str [],.str []]⟩),(26,⟨.int .i64,1,8,[.int .i64 0]⟩),(31,⟨.arr 32 5,32,32,List.replicate 32 (.int .u8 0)⟩),(33,⟨.strct [(28,0),(29,1),(3,2),(31,3),(3,35)],36,64,[.ptr none,.ptr none,.int .i64 0]++List.replicate 32 (.int .u8 0)++[.int .i64 0]⟩),(73,⟨.strct [(36,0),(3,2),(3,3)],4,48,[.str [],.str [],.int .i64 0,.int .i64 0]⟩),(54,⟨.strct [(53,0),(25,4),(36,5),(3,7),(3,8)],9,136,[.str [],.str [],.int .i64 0,.slice 0 [] (some 5),.slice 0 [] (some 5),.str [],.str [],.int .i64 0,.int .i64 0]⟩),(195,⟨.fn,1,8,[.nilF]⟩),(179,⟨.arr 16 5,16,16,List.replicate 16 (.int .u8 0)⟩),(126,⟨.ptr,1,8,[.ptr none]⟩),(128,⟨.strct [(25,0),(4,1)],2,32,[.slice 0 [] (some 5),.bool false]⟩),(213,⟨.ptr,1,8,[.ptr none]⟩),(215,⟨.strct [(213,0)],1,8,[.ptr none]⟩),(253,⟨.slice 3,1,24,[.slice 0 [] (some 3)]⟩),(192,⟨.slice 25,1,24,[.slice 0 [] (some 25)]⟩),(123,⟨.strct [(31,0),(36,32),(3,34),(3,35),(3,36)],37,88,List.replicate 32 (.int .u8 0)++[.str [],.str [],.int .i64 0,.int .i64 0,.int .i64 0]⟩),(222,⟨.fn,1,8,[.nilF]⟩)]
theorem ttQ_ok:ttOk prog ttQ=true:=by kernel_rfl
def imm93:List Nat:=[1]
def imm50:List Nat:=[1]
def imm145:List Nat:=[1]
def imm144:List Nat:=[4]
def imm89:List Nat:=[]
def keyR (s:Option (List UInt8)):Option (List UInt8)×(Nat→UInt8):=if (octC s).2.length=32 then ((octC s).1,keyOf (octC s).2) else (none,fun _=>0)
def partRD (s:Option (List UInt8)):Prt:=⟨(princR s).2.1,(princR s).2.2,(keyR (princR s).1).2,(txtC (keyR (princR s).1).1).2,(rintC (txtC (keyR (princR s).1).1).1).2,(rintC (rintC (txtC (keyR (princR s).1).1).1).1).2⟩
def partRE (s:Option (List UInt8)):Option (List UInt8):=(rintC (rintC (txtC (keyR (princR s).1).1).1).1).1
def partR (b:List UInt8):Option (List UInt8):=(elemC 99 (some b)).2
def refPV (b:List UInt8):PV:=match !(partRE (partR b)).isNone&&okPrt (partRD (partR b)) b with
 | true=>.tup [.agg (partRD (partR b)).cells,.int .i64 0]
 | false=>.tup [.agg zPrt.cells,.int .i64 2]
structure Rpt where
 k:Nat→UInt8
 r:List UInt8
 n:List UInt8
 st:Int
 en:Int
 nc:Int
def Rpt.cells (p:Rpt):List PV:=keyC p.k++[.str p.r,.str p.n]++[.int .i64 p.st]++[.int .i64 p.en]++[.int .i64 p.nc]
def isRptB (p:Rpt):Bool:=isPrincB p.r p.n&&(inZ p.st 0 1073741824&&inZ p.en 0 1073741824)&&inZ p.nc 0 1073741824
def rptL (p:Rpt):List UInt8:=wrapB 122 [wrapB 4 (keyB p.k),princE p.r p.n,intE p.st,intE p.en,intE p.nc].flatten
def encRV (p:Rpt):PV:=if isRptB p=true∧(rptL p).length≤2000 then .tup [sl (rptL p),.int .i64 0] else .tup [sl [],.int .i64 1]
theorem encRV_yes {p:Rpt} (h:isRptB p=true∧(rptL p).length≤2000):encRV p=.tup [sl (rptL p),.int .i64 0]:=zqp h
theorem encRV_no {p:Rpt} (h:¬(isRptB p=true∧(rptL p).length≤2000)):encRV p=.tup [sl [],.int .i64 1]:=zqo h
def rptD (s:Option (List UInt8)):Rpt:=⟨keyOf (octC s).2,(princC (octC s).1).2.1,(princC (octC s).1).2.2,(intC (princC (octC s).1).1).2,(intC (intC (princC (octC s).1).1).1).2,(intC (intC (intC (princC (octC s).1).1).1).1).2⟩
def rptC (b:List UInt8):Rpt:=rptD (elemC 122 (some b)).2
def Rpt.same (p q:Rpt):Prop:=keyB p.k=keyB q.k∧p.r=q.r∧p.n=q.n∧p.st=q.st∧p.en=q.en∧p.nc=q.nc
def zRpt:Rpt:=⟨fun _=>0,[],[],0,0,0⟩
theorem rpt_same {p q:Rpt} (h:p.same q):isRptB p=isRptB q∧rptL p=rptL q:=by
 obtain ⟨h0,h1,h2,h3,h4,h5⟩:=h
 unfold isRptB rptL
 rw [h0,h1,h2,h3,h4,h5]
 exact ⟨rfl,rfl⟩
theorem rpt_len (p:Rpt):(rptL p).length≤p.r.length+p.n.length+100:=by
 have h0:=wrapB_len 122 [wrapB 4 (keyB p.k),princE p.r p.n,intE p.st,intE p.en,intE p.nc].flatten
 have e0:=wrapB_len 4 (keyB p.k)
 have e1:=princE_len p.r p.n
 have e2:=intE_len p.st
 have e3:=intE_len p.en
 have e4:=intE_len p.nc
 have ek:=keyB_len p.k
 simp only [zqk,zql,zqf,List.length_nil] at h0
 unfold rptL
 simp only [zqk,zql]
 omega
def okRpt (p:Rpt) (b:List UInt8):Bool:=isRptB p&&(decide ((rptL p).length≤2000)&&decide (rptL p=b))
def agRV (p:Rpt) (b:List UInt8):PV:=match okRpt p b with
 | true=>.tup [.agg p.cells,.int .i64 0]
 | false=>.tup [.agg zRpt.cells,.int .i64 2]
theorem agRV_yes {p:Rpt} {b:List UInt8} (h:okRpt p b=true):agRV p b=.tup [.agg p.cells,.int .i64 0]:=by unfold agRV;rw [h]
theorem agRV_no {p:Rpt} {b:List UInt8} (h:okRpt p b=false):agRV p b=.tup [.agg zRpt.cells,.int .i64 2]:=by unfold agRV;rw [h]
theorem rpt_same_cells {p q:Rpt} (h:p.same q):p.cells=q.cells:=by
 obtain ⟨h0,h1,h2,h3,h4,h5⟩:=h
 unfold Rpt.cells
 rw [keyC_map,keyC_map]
 rw [h0,h1,h2,h3,h4,h5]
theorem okRpt_iff {p:Rpt} {b:List UInt8}:okRpt p b=true↔isRptB p=true∧(rptL p).length≤2000∧rptL p=b:=by
 unfold okRpt
 rw [zqb,zqb,decide_eq_true_eq,decide_eq_true_eq]
theorem okRpt_same {p q:Rpt} {b:List UInt8} (h:p.same q):okRpt p b=okRpt q b:=by
 unfold okRpt
 rw [(rpt_same h).1,(rpt_same h).2]
theorem rptC_laid (p:Rpt) (h:isRptB p=true):(rptC (rptL p)).same p:=by
 unfold isRptB at h
 simp only [zqb] at h
 have gp:=princ_len h.1.1
 have g_st:=inZ_le h.1.2.1
 have g_en:=inZ_le h.1.2.2
 have g_nc:=inZ_le h.2
 have e0:=wrapB_len 4 (keyB p.k)
 have e1:=princE_len p.r p.n
 have e2:=intE_len p.st
 have e3:=intE_len p.en
 have e4:=intE_len p.nc
 have ek:=keyB_len p.k
 have e0x:=elemC_wrap 122 [wrapB 4 (keyB p.k),princE p.r p.n,intE p.st,intE p.en,intE p.nc].flatten [] (by simp only [zqk,zql,zqf,List.length_nil];omega)
 rw [List.append_nil] at e0x
 have w0:=octC_wrap (keyB p.k) (princE p.r p.n++(intE p.st++(intE p.en++(intE p.nc++[])))) (by omega)
 have w1:=princC_wrap p.r p.n (intE p.st++(intE p.en++(intE p.nc++[]))) (by omega) (by omega)
 have w2:=intC_wrap p.st (by omega) (by omega) (intE p.en++(intE p.nc++[]))
 have w3:=intC_wrap p.en (by omega) (by omega) (intE p.nc++[])
 have w4:=intC_wrap p.nc (by omega) (by omega) []
 unfold rptC rptL
 rw [e0x]
 show (rptD (some [wrapB 4 (keyB p.k),princE p.r p.n,intE p.st,intE p.en,intE p.nc].flatten)).same p
 simp only [zqk,zql]
 unfold rptD
 simp only [w0,w1,w2,w3,w4]
 exact ⟨keyB_of _,rfl,rfl,rfl,rfl,rfl⟩
theorem c145 (p:Rpt) (hr:p.r.length≤1000000) (hn:p.n.length≤1000000):Pure prog 145 [.agg p.cells] (encRV p):=by
 intro H
 have e0:=wrapB_len 4 (keyB p.k)
 have e1:=princE_len p.r p.n
 have e2:=intE_len p.st
 have e3:=intE_len p.en
 have e4:=intE_len p.nc
 have ek:=keyB_len p.k
 (refine fnS (imm:=imm145) ttQ_ok func145 ?_;(conv=>whnf))
 refine dP2 (by kernel_rfl) ?_
 conv=>whnf
 iterate 2 (refine dS ?_;(conv=>whnf))
 refine ⟨_,cP (c79 p.r p.n (by omega) (by omega)) ⟨rfl,rfl,zqv⟩,?_⟩
 conv=>whnf
 cases f0:isPrincB p.r p.n
 ·skip
  iterate 15 (refine dS ?_;(conv=>whnf))
  refine ⟨_,cP (c165p (keyB p.k) (by omega)) ⟨rfl,rfl,zqv⟩,?_⟩
  conv=>whnf
  iterate 2 (refine dS ?_;(conv=>whnf))
  refine ⟨_,cP (c157 p.r p.n hr hn) ⟨rfl,rfl,zqv⟩,?_⟩
  conv=>whnf
  iterate 2 (refine dS ?_;(conv=>whnf))
  refine ⟨_,cP (c158 p.st) ⟨rfl,rfl,zqv⟩,?_⟩
  conv=>whnf
  iterate 2 (refine dS ?_;(conv=>whnf))
  refine ⟨_,cP (c158 p.en) ⟨rfl,rfl,zqv⟩,?_⟩
  conv=>whnf
  iterate 2 (refine dS ?_;(conv=>whnf))
  refine ⟨_,cP (c158 p.nc) ⟨rfl,rfl,zqv⟩,?_⟩
  conv=>whnf
  (refine dS ?_;(conv=>whnf))
  refine ⟨_,cP (c156p 122 [wrapB 4 (keyB p.k),princE p.r p.n,intE p.st,intE p.en,intE p.nc] (by simp) (by simp only [zqk,zql,zqf,List.length_nil];omega)) ⟨rfl,rfl,zqv⟩,?_⟩
  conv=>whnf
  have hb:isRptB p=false:=by unfold isRptB;simp only [f0,zq6,zq5,zq3,zq4]
  refine ⟨_,cP ((c118 false (rptL p)).of_eq (limV_no (fun h=>by cases h.1))) ⟨rfl,rfl,zqv⟩,?_⟩
  conv=>whnf
  iterate 4 (refine dS ?_;(conv=>whnf))
  exact ⟨(encRV_no (fun h=>by rw [hb] at h;cases h.1)).symm,rfl⟩
 iterate 6 (refine dS ?_;(conv=>whnf))
 refine ⟨_,cP ((c154 [p.st,p.en] (by simp)).of_eq (show PV.bool (inZ p.st 0 1073741824&&(inZ p.en 0 1073741824&&true))=.bool (inZ p.st 0 1073741824&&inZ p.en 0 1073741824) by rw [zq6])) ⟨rfl,rfl,zqv⟩,?_⟩
 conv=>whnf
 cases f1:(inZ p.st 0 1073741824&&inZ p.en 0 1073741824)
 ·skip
  iterate 8 (refine dS ?_;(conv=>whnf))
  refine ⟨_,cP (c165p (keyB p.k) (by omega)) ⟨rfl,rfl,zqv⟩,?_⟩
  conv=>whnf
  iterate 2 (refine dS ?_;(conv=>whnf))
  refine ⟨_,cP (c157 p.r p.n hr hn) ⟨rfl,rfl,zqv⟩,?_⟩
  conv=>whnf
  iterate 2 (refine dS ?_;(conv=>whnf))
  refine ⟨_,cP (c158 p.st) ⟨rfl,rfl,zqv⟩,?_⟩
  conv=>whnf
  iterate 2 (refine dS ?_;(conv=>whnf))
  refine ⟨_,cP (c158 p.en) ⟨rfl,rfl,zqv⟩,?_⟩
  conv=>whnf
  iterate 2 (refine dS ?_;(conv=>whnf))
  refine ⟨_,cP (c158 p.nc) ⟨rfl,rfl,zqv⟩,?_⟩
  conv=>whnf
  (refine dS ?_;(conv=>whnf))
  refine ⟨_,cP (c156p 122 [wrapB 4 (keyB p.k),princE p.r p.n,intE p.st,intE p.en,intE p.nc] (by simp) (by simp only [zqk,zql,zqf,List.length_nil];omega)) ⟨rfl,rfl,zqv⟩,?_⟩
  conv=>whnf
  have hb:isRptB p=false:=by unfold isRptB;simp only [f0,f1,zq6,zq5,zq3,zq4]
  refine ⟨_,cP ((c118 false (rptL p)).of_eq (limV_no (fun h=>by cases h.1))) ⟨rfl,rfl,zqv⟩,?_⟩
  conv=>whnf
  iterate 4 (refine dS ?_;(conv=>whnf))
  exact ⟨(encRV_no (fun h=>by rw [hb] at h;cases h.1)).symm,rfl⟩
 iterate 4 (refine dS ?_;(conv=>whnf))
 refine ⟨_,cP (c155 p.nc) ⟨rfl,rfl,zqv⟩,?_⟩
 conv=>whnf
 cases f2:inZ p.nc 0 1073741824
 ·skip
  iterate 3 (refine dS ?_;(conv=>whnf))
  refine ⟨_,cP (c165p (keyB p.k) (by omega)) ⟨rfl,rfl,zqv⟩,?_⟩
  conv=>whnf
  iterate 2 (refine dS ?_;(conv=>whnf))
  refine ⟨_,cP (c157 p.r p.n hr hn) ⟨rfl,rfl,zqv⟩,?_⟩
  conv=>whnf
  iterate 2 (refine dS ?_;(conv=>whnf))
  refine ⟨_,cP (c158 p.st) ⟨rfl,rfl,zqv⟩,?_⟩
  conv=>whnf
  iterate 2 (refine dS ?_;(conv=>whnf))
  refine ⟨_,cP (c158 p.en) ⟨rfl,rfl,zqv⟩,?_⟩
  conv=>whnf
  iterate 2 (refine dS ?_;(conv=>whnf))
  refine ⟨_,cP (c158 p.nc) ⟨rfl,rfl,zqv⟩,?_⟩
  conv=>whnf
  (refine dS ?_;(conv=>whnf))
  refine ⟨_,cP (c156p 122 [wrapB 4 (keyB p.k),princE p.r p.n,intE p.st,intE p.en,intE p.nc] (by simp) (by simp only [zqk,zql,zqf,List.length_nil];omega)) ⟨rfl,rfl,zqv⟩,?_⟩
  conv=>whnf
  have hb:isRptB p=false:=by unfold isRptB;simp only [f0,f1,f2,zq6,zq5,zq3,zq4]
  refine ⟨_,cP ((c118 false (rptL p)).of_eq (limV_no (fun h=>by cases h.1))) ⟨rfl,rfl,zqv⟩,?_⟩
  conv=>whnf
  iterate 4 (refine dS ?_;(conv=>whnf))
  exact ⟨(encRV_no (fun h=>by rw [hb] at h;cases h.1)).symm,rfl⟩
 iterate 3 (refine dS ?_;(conv=>whnf))
 refine ⟨_,cP (c165p (keyB p.k) (by omega)) ⟨rfl,rfl,zqv⟩,?_⟩
 conv=>whnf
 iterate 2 (refine dS ?_;(conv=>whnf))
 refine ⟨_,cP (c157 p.r p.n hr hn) ⟨rfl,rfl,zqv⟩,?_⟩
 conv=>whnf
 iterate 2 (refine dS ?_;(conv=>whnf))
 refine ⟨_,cP (c158 p.st) ⟨rfl,rfl,zqv⟩,?_⟩
 conv=>whnf
 iterate 2 (refine dS ?_;(conv=>whnf))
 refine ⟨_,cP (c158 p.en) ⟨rfl,rfl,zqv⟩,?_⟩
 conv=>whnf
 iterate 2 (refine dS ?_;(conv=>whnf))
 refine ⟨_,cP (c158 p.nc) ⟨rfl,rfl,zqv⟩,?_⟩
 conv=>whnf
 (refine dS ?_;(conv=>whnf))
 refine ⟨_,cP (c156p 122 [wrapB 4 (keyB p.k),princE p.r p.n,intE p.st,intE p.en,intE p.nc] (by simp) (by simp only [zqk,zql,zqf,List.length_nil];omega)) ⟨rfl,rfl,zqv⟩,?_⟩
 conv=>whnf
 have hb:isRptB p=true:=by unfold isRptB;simp only [f0,f1,f2,zq6,zq5,zq3,zq4]
 by_cases hlen:(rptL p).length≤2000
 ·have hlim:=limV_yes (ok:=true) (b:=rptL p) ⟨rfl,hlen⟩
  refine ⟨_,cP ((c118 true (rptL p)).of_eq hlim) ⟨rfl,rfl,zqv⟩,?_⟩
  conv=>whnf
  iterate 4 (refine dS ?_;(conv=>whnf))
  exact ⟨(encRV_yes ⟨hb,hlen⟩).symm,rfl⟩
 ·have hlim:=limV_no (ok:=true) (b:=rptL p) (fun h=>hlen h.2)
  refine ⟨_,cP ((c118 true (rptL p)).of_eq hlim) ⟨rfl,rfl,zqv⟩,?_⟩
  conv=>whnf
  iterate 4 (refine dS ?_;(conv=>whnf))
  exact ⟨(encRV_no (fun h=>hlen h.2)).symm,rfl⟩
theorem c144x (p:Rpt) (b:List UInt8) (hr:p.r.length≤1000000) (hn:p.n.length≤1000000) (H:PH) :
  CK prog 144 [sl b,.agg p.cells,.func 145 [] []] H fun r H'=>r=agRV p b∧∃ext,H'=H++ext:=by
 (refine fnS (imm:=imm144) ttQ_ok func144 ?_;(conv=>whnf))
 have ext3:∀a b c:PObj,∃ext,((H++[a]++[b]).set H.length c)=H++ext:=fun a b c=>(((Ext.refl H).push _).push _).set (zqn _) _
 by_cases hb:isRptB p=true∧(rptL p).length≤2000
 ·refine cP ((c145 p hr hn).of_eq (encRV_yes hb)) ?_
  conv=>whnf
  refine ⟨fun _=>?_,fun h=>absurd rfl h⟩
  conv=>whnf
  refine cP (c132 (rptL p) b) ?_
  cases hq:decide (rptL p=b)
  ·have hk:okRpt p b=false:=by unfold okRpt;rw [hq,zq3,zq3]
   rw [agRV_no hk]
   conv=>whnf
   ((conv in (_[_]?)=>tactic=>exact gL _ _);(conv=>whnf))
   ((conv in (_[_]?)=>tactic=>exact get_mid _ _ _);(conv=>whnf))
   ((conv in (_[_]?)=>tactic=>exact gS (get_mid _ _ _));(conv=>whnf))
   exact ⟨rfl,ext3 _ _ _⟩
  ·have hk:okRpt p b=true:=by unfold okRpt;rw [hq,hb.1,zqe hb.2];rfl
   rw [agRV_yes hk]
   conv=>whnf
   ((conv in (_[_]?)=>tactic=>exact get_mid _ _ _);(conv=>whnf))
   ((conv in (_[_]?)=>tactic=>exact gS (get_mid _ _ _));(conv=>whnf))
   exact ⟨rfl,ext3 _ _ _⟩
 ·refine cP ((c145 p hr hn).of_eq (encRV_no hb)) ?_
  have hk:okRpt p b=false:=by
   unfold okRpt
   cases h1:isRptB p
   ·rfl
   ·rw [zqd (fun h2=>hb ⟨h1,h2⟩)];rfl
  rw [agRV_no hk]
  conv=>whnf
  refine ⟨fun h=>absurd h (by decide),fun _=>?_⟩
  conv=>whnf
  ((conv in (_[_]?)=>tactic=>exact gL _ _);(conv=>whnf))
  ((conv in (_[_]?)=>tactic=>exact get_mid _ _ _);(conv=>whnf))
  ((conv in (_[_]?)=>tactic=>exact gS (get_mid _ _ _));(conv=>whnf))
  exact ⟨rfl,ext3 _ _ _⟩
theorem agRV_old (p:Rpt) (b:List UInt8):oldR (agRV p b)=true:=by unfold agRV;cases okRpt p b <;> rfl
theorem c144 (p:Rpt) (b:List UInt8) (hr:p.r.length≤1000000) (hn:p.n.length≤1000000):Pure prog 144 [sl b,.agg p.cells,.func 145 [] []] (agRV p b):=Pure.of_gc (agRV_old p b) (c144x p b hr hn)
theorem c89x (b:List UInt8) (hb:b.length≤140737488355328) (H:PH):CK prog 89 [sl b] H fun r H'=>r=agRV (rptC b) b∧∃ext,H'=H++ext:=by
 (refine fnS (imm:=imm89) ttQ_ok func89 ?_;(conv=>whnf))
 refine cO (c133 b 122 hb (H++[PObj.mk 123 zRpt.cells 0])) ?_
 rintro _ H2 ⟨d,rfl,k1,k2,k3⟩
 obtain ⟨o1,o2,e1,e2,e3,e4⟩:=dec_begin k1 k2 k3
 have hs0:∀l,(elemC 122 (some b)).2=some l→l.length≤140737488355328:=fun l h=>((elemC_len (tag:=122) (fun l h=>by cases h;exact hb)).2 l h).1
 show _
 unfold rptC
 generalize (elemC 122 (some b)).2=s at hs0 k3 e3
 conv=>whnf
 ((conv in (_[_]?)=>tactic=>exact gL _ _);(conv=>whnf))
 ((conv in (_[_]?)=>tactic=>exact e2);(conv=>whnf))
 have l0:∀l,s=some l→l.length≤140737488355328:=hs0
 refine cO (c143 d s _ e3 l0) ?_
 rintro _ K0 ⟨rfl,u0,g0⟩
 have D1:=dec_part o1 o2 e1 e2 e4 u0 g0 (Rpt.mk (keyOf (octC s).2) [] [] 0 0 0).cells 1
 conv=>whnf
 ((conv in (_[_]?)=>tactic=>exact gL _ _);(conv=>whnf))
 have l1:∀l,(octC s).1=some l→l.length≤140737488355328:=(elemC_len (tag:=4) l0).1
 ((conv in (_[_]?)=>tactic=>exact D1.c);(conv=>whnf))
 refine cO (c134 d (octC s).1 _ D1.cur l1) ?_
 rintro _ K1 ⟨rfl,u1,g1⟩
 have D2:=D1.call u1 g1
 conv=>whnf
 ((conv in (_[_]?)=>tactic=>exact D2.p);(conv=>whnf))
 have D3:=D2.store (Rpt.mk (keyOf (octC s).2) (princC (octC s).1).2.1 (princC (octC s).1).2.2 0 0 0).cells 2
 have l2:∀l,(princC (octC s).1).1=some l→l.length≤140737488355328:=(elemC_len (tag:=48) l1).1
 ((conv in (_[_]?)=>tactic=>exact D3.c);(conv=>whnf))
 refine cO (c135 d (princC (octC s).1).1 _ D3.cur l2) ?_
 rintro _ K2 ⟨rfl,u2,g2⟩
 have D4:=D3.call u2 g2
 conv=>whnf
 ((conv in (_[_]?)=>tactic=>exact D4.p);(conv=>whnf))
 have D5:=D4.store (Rpt.mk (keyOf (octC s).2) (princC (octC s).1).2.1 (princC (octC s).1).2.2 (intC (princC (octC s).1).1).2 0 0).cells 3
 have l3:∀l,(intC (princC (octC s).1).1).1=some l→l.length≤140737488355328:=intC_len l2
 ((conv in (_[_]?)=>tactic=>exact D5.c);(conv=>whnf))
 refine cO (c135 d (intC (princC (octC s).1).1).1 _ D5.cur l3) ?_
 rintro _ K3 ⟨rfl,u3,g3⟩
 have D6:=D5.call u3 g3
 conv=>whnf
 ((conv in (_[_]?)=>tactic=>exact D6.p);(conv=>whnf))
 have D7:=D6.store (Rpt.mk (keyOf (octC s).2) (princC (octC s).1).2.1 (princC (octC s).1).2.2 (intC (princC (octC s).1).1).2 (intC (intC (princC (octC s).1).1).1).2 0).cells 4
 have l4:∀l,(intC (intC (princC (octC s).1).1).1).1=some l→l.length≤140737488355328:=intC_len l3
 ((conv in (_[_]?)=>tactic=>exact D7.c);(conv=>whnf))
 refine cO (c135 d (intC (intC (princC (octC s).1).1).1).1 _ D7.cur l4) ?_
 rintro _ K4 ⟨rfl,u4,g4⟩
 have D8:=D7.call u4 g4
 conv=>whnf
 ((conv in (_[_]?)=>tactic=>exact D8.p);(conv=>whnf))
 have D9:=D8.store (Rpt.mk (keyOf (octC s).2) (princC (octC s).1).2.1 (princC (octC s).1).2.2 (intC (princC (octC s).1).1).2 (intC (intC (princC (octC s).1).1).1).2 (intC (intC (intC (princC (octC s).1).1).1).1).2).cells 5
 ((conv in (_[_]?)=>tactic=>exact D9.p);(conv=>whnf))
 refine cP (c144 (rptD s) b (by unfold rptD;exact Nat.le_trans (small _ _) (by decide)) (by unfold rptD;exact Nat.le_trans (small _ _) (by decide))) ?_
 cases hk:okRpt (rptD s) b
 ·rw [agRV_no hk]
  conv=>whnf
  ((conv in (_[_]?)=>tactic=>exact D9.z);(conv=>whnf))
  ((conv in (_[_]?)=>tactic=>exact gS D9.z);(conv=>whnf))
  exact ⟨rfl,Upd.ext (D9.up.set (.inr (zqn _)) _)⟩
 ·rw [agRV_yes hk]
  conv=>whnf
  ((conv in (_[_]?)=>tactic=>exact D9.z);(conv=>whnf))
  ((conv in (_[_]?)=>tactic=>exact gS D9.z);(conv=>whnf))
  exact ⟨rfl,Upd.ext (D9.up.set (.inr (zqn _)) _)⟩
theorem c89 (b:List UInt8) (hb:b.length≤140737488355328):Pure prog 89 [sl b] (agRV (rptC b) b):=Pure.of_gc (agRV_old _ b) (c89x b hb)
theorem c93 (p:Rpt) (hr:p.r.length≤1099511627775) (hn:p.n.length≤1099511627775):Pure prog 93 [.agg p.cells] (.bool (isRptB p)):=by
 intro H
 (refine fnS (imm:=imm93) ttQ_ok func93 ?_;(conv=>whnf))
 refine cP (c36 p.r p.n (by omega) (by omega)) ?_
 cases f0:isPrincB p.r p.n
 ·conv=>whnf
  exact ⟨zqm PV.bool (by unfold isRptB;simp only [f0,zq6,zq5,zq3,zq4]),rfl⟩
 conv=>whnf
 refine cP (c110 p.st 0 1073741824) ?_
 cases f1:inZ p.st 0 1073741824
 ·conv=>whnf
  exact ⟨zqm PV.bool (by unfold isRptB;simp only [f0,f1,zq6,zq5,zq3,zq4]),rfl⟩
 conv=>whnf
 refine cP (c110 p.en 0 1073741824) ?_
 cases f2:inZ p.en 0 1073741824
 ·conv=>whnf
  exact ⟨zqm PV.bool (by unfold isRptB;simp only [f0,f1,f2,zq6,zq5,zq3,zq4]),rfl⟩
 conv=>whnf
 refine cP (c110 p.nc 0 1073741824) ?_
 cases f3:inZ p.nc 0 1073741824
 ·conv=>whnf
  exact ⟨zqm PV.bool (by unfold isRptB;simp only [f0,f1,f2,f3,zq6,zq5,zq3,zq4]),rfl⟩
 conv=>whnf
 exact ⟨zqm PV.bool (by unfold isRptB;simp only [f0,f1,f2,f3,zq6,zq5,zq3,zq4]),rfl⟩
def refERpt (p:Rpt):PV:=if isRptB p=true then .tup [sl (rptL p),.int .i64 0] else .tup [.slice 0 [] (some 5),.int .i64 1]
theorem rptL_le {p:Rpt} (h:isRptB p=true):(rptL p).length≤2000:=by
 have h0:=rpt_len p
 unfold isRptB at h
 simp only [zqb] at h
 have gp:=princ_len h.1.1
 have g_st:=inZ_le h.1.2.1
 have g_en:=inZ_le h.1.2.2
 have g_nc:=inZ_le h.2
 omega
theorem c50 (p:Rpt) (hr:p.r.length≤1000000) (hn:p.n.length≤1000000):Pure prog 50 [.agg p.cells] (refERpt p):=by
 intro H
 have e0:=wrapB_len 4 (keyB p.k)
 have e1:=princE_len p.r p.n
 have e2:=intE_len p.st
 have e3:=intE_len p.en
 have e4:=intE_len p.nc
 have ek:=keyB_len p.k
 (refine fnS (imm:=imm50) ttQ_ok func50 ?_;(conv=>whnf))
 refine cP (c93 p (by omega) (by omega)) ?_
 cases hb:isRptB p
 ·conv=>whnf
  exact ⟨(zqo (by rw [hb];decide):refERpt p=_).symm,rfl⟩
 have hlen:=rptL_le hb
 conv=>whnf
 refine dP2 (by kernel_rfl) ?_
 conv=>whnf
 iterate 2 (refine dS ?_;(conv=>whnf))
 refine ⟨_,cP (c67 (keyB p.k) none (by omega)) ⟨rfl,rfl,zqv⟩,?_⟩
 conv=>whnf
 iterate 2 (refine dS ?_;(conv=>whnf))
 refine ⟨_,cP (c64 p.r p.n hr hn) ⟨rfl,rfl,zqv⟩,?_⟩
 conv=>whnf
 iterate 2 (refine dS ?_;(conv=>whnf))
 refine ⟨_,cP (c65 p.st) ⟨rfl,rfl,zqv⟩,?_⟩
 conv=>whnf
 iterate 2 (refine dS ?_;(conv=>whnf))
 refine ⟨_,cP (c65 p.en) ⟨rfl,rfl,zqv⟩,?_⟩
 conv=>whnf
 iterate 2 (refine dS ?_;(conv=>whnf))
 refine ⟨_,cP (c65 p.nc) ⟨rfl,rfl,zqv⟩,?_⟩
 conv=>whnf
 (refine dS ?_;(conv=>whnf))
 refine ⟨_,cP (c63 122 [wrapB 4 (keyB p.k),princE p.r p.n,intE p.st,intE p.en,intE p.nc] (by simp) (by simp only [zqk,zql,zqf,List.length_nil];omega)) ⟨rfl,rfl,zqv⟩,?_⟩
 conv=>whnf
 refine ⟨_,cP (c62 _ hlen) ⟨rfl,rfl,zqv⟩,?_⟩
 conv=>whnf
 iterate 4 (refine dS ?_;(conv=>whnf))
 exact ⟨(zqp hb:refERpt p=_).symm,rfl⟩
def eBRpt (p:Rpt):List UInt8:=if isRptB p=true then rptL p else []
def eERpt (p:Rpt):Int:=if isRptB p=true then 0 else 1
def gPRpt (p:Rpt) (b:List UInt8):Rpt:=if okRpt p b=true then p else zRpt
def gERpt (p:Rpt) (b:List UInt8):Int:=if okRpt p b=true then 0 else 2
theorem agRpt_eq (p:Rpt) (b:List UInt8):agRV p b=.tup [.agg (gPRpt p b).cells,.int .i64 (gERpt p b)]:=by
 unfold gPRpt gERpt
 cases h:okRpt p b
 ·rw [agRV_no h];rfl
 ·rw [agRV_yes h];rfl
theorem renRpt_eq (p:Rpt):∃cs,refERpt p=.tup cs∧PV.tup (cs.map dem)=.tup [sl (eBRpt p),.int .i64 (eERpt p)]:=by
 unfold refERpt eBRpt eERpt
 cases h:isRptB p
 ·exact ⟨_,rfl,rfl⟩
 ·exact ⟨_,rfl,rfl⟩
theorem c50s (p:Rpt) (hr:p.r.length≤1000000) (hn:p.n.length≤1000000):Pure prog 50 [.agg p.cells] (.tup [sl (eBRpt p),.int .i64 (eERpt p)]):=by
 obtain ⟨cs,h1,h2⟩:=renRpt_eq p
 exact ((c50 p hr hn).of_eq h1).demT.of_eq h2
theorem c89s (b:List UInt8) (hb:b.length≤140737488355328):Pure prog 89 [sl b] (.tup [.agg (gPRpt (rptC b) b).cells,.int .i64 (gERpt (rptC b) b)]):=(c89 b hb).of_eq (agRpt_eq _ _)
theorem ebRpt {p:Rpt} (h:isRptB p=true):eBRpt p=rptL p∧eERpt p=0:=⟨zqp h,zqp h⟩
theorem backRpt {p:Rpt} (h:isRptB p=true):(gPRpt (rptC (rptL p)) (rptL p)).cells=p.cells∧gERpt (rptC (rptL p)) (rptL p)=0:=by
 have e:=rptC_laid p h
 have hok:okRpt (rptC (rptL p)) (rptL p)=true:=by rw [okRpt_same e];exact okRpt_iff.2 ⟨h,rptL_le h,rfl⟩
 unfold gPRpt gERpt
 rw [zqp hok,zqp hok]
 exact ⟨rpt_same_cells e,rfl⟩
end Go.Proofs.Tryz
namespace Go.Proofs.YtldfjimgfnjdjaaGreatDoor
open Go Go.RowKit Ps
theorem rows_ints {k:IntKind}:∀{rs:List (List PV)},(∀r∈rs,∃x,r=[.int k x]∧(Lit.int k x).wf=true)→∃xs:List Int,rs.length=xs.length∧rs.flatten=xs.map (.int k)∧∀x∈xs,(Lit.int k x).wf=true
 | [],_=>⟨[],rfl,rfl,fun x h=>by cases h⟩
 | r::rs,h=>by
  obtain ⟨x,rfl,hx⟩:=h r List.mem_cons_self
  obtain ⟨xs,h1,h2,h3⟩:=rows_ints fun r hr=>h r (List.mem_cons_of_mem _ hr)
  exact ⟨x::xs,by simp [h1],by simp [h2],fun y hy=>by
   rcases List.mem_cons.1 hy with rfl | hy
   ·exact hx
   ·exact h3 y hy⟩
theorem bytes_of:∀{xs:List Int},(∀x∈xs,(Lit.int .u8 x).wf=true)→∃bs:List UInt8,xs.length=bs.length∧xs.map (PV.int .u8)=bs.map bC
 | [],_=>⟨[],rfl,rfl⟩
 | x::xs,h=>by
  obtain ⟨bs,h1,h2⟩:=bytes_of fun y hy=>h y (List.mem_cons_of_mem _ hy)
  have hx:=bounds_u8 (h x List.mem_cons_self)
  refine ⟨UInt8.ofNat x.toNat::bs,by simp [h1],?_⟩
  rw [List.map_cons,List.map_cons,h2]
  congr 1
  show PV.int .u8 x=.int .u8 _
  rw [UInt8.toNat_ofNat']
  congr 1;omega
theorem own:ownKnob Tryz.prog.godebug=none:=by kernel_rfl
theorem laidOut:laidOutB Tryz.prog=true:=by kernel_rfl
def litV:DataW Unit→Value
 | .lit (.int k n)=>.int k n
 | _=>Go.undef
def litVs:DataW Unit→List Value
 | .agg l=>l.map litV
 | d=>[litV d]
def tabVs:DataW Unit→List Value
 | .agg l=>l.flatMap litVs
 | _=>[]
def fillTab (l:List Value):Obj→Obj
 | .cells _ t frozen=>.cells l.toArray t frozen
 | o=>o
noncomputable def laidWorld (os:Os):World :=
 { World.holding Tryz.prog os ⟨#[],#[],[]⟩ with heap:=((World.holding Tryz.prog os ⟨#[],#[],[]⟩).heap.modify 0 (fillTab (tabVs Rows.laid_unicode_utf8_first))).modify 1 (fillTab (tabVs Rows.laid_unicode_utf8_acceptRanges)) }
theorem laid_met (os : Os) (args : Array Value) : laidMet Tryz.prog [("unicode/utf8.acceptRanges", Rows.laid_unicode_utf8_acceptRanges), ("unicode/utf8.first", Rows.laid_unicode_utf8_first)] ((laidWorld os).forCall (fun _ _ => 0) ⟨#[], args, []⟩).memory :=
 laidMet_of_run' 8 (by kernel_rfl) (by kernel_rfl)
theorem varsB (os:Os) (args:Array Value):((laidWorld os).forCall (fun _ _=>0) ⟨#[],args,[]⟩).variablesB Tryz.checked.prog=true:=by kernel_rfl
theorem heapB (os : Os) (args : Array Value) : (((laidWorld os).forCall (fun _ _ => 0) ⟨#[], args, []⟩).heap.toList.drop Tryz.checked.prog.globals.size).take ((begin Tryz.checked.prog (fun _ _ => 0) default).world.heap.size - Tryz.checked.prog.globals.size) =
      (begin Tryz.checked.prog (fun _ _ => 0) default).world.heap.toList.drop Tryz.checked.prog.globals.size := by kernel_rfl
theorem noLooks:false=Tryz.prog.looks []:=by kernel_rfl
theorem plainOf {name:String} {k:Nat} {g:Func} (hn:Tryz.prog.funcNamed name=some k) (hg:Tryz.prog.funcs[k]? = some g) (hall:(g.params.toList.all fun t=>Tryz.prog.wantsStandIn t==false)=true)
  (f:FuncId) (fn:Func) (hf:Tryz.pinned.checked.prog.funcNamed name=some f) (hfn:Tryz.pinned.checked.prog.funcs[f]? = some fn) :
  false=Tryz.pinned.checked.prog.looks []∧∀(j:Nat) t,fn.params[j]? = some t→Tryz.pinned.checked.prog.wantsStandIn t=false:=by
 obtain rfl:f=k:=Option.some.inj (hn.symm.trans hf) |>.symm
 obtain rfl:fn=g:=(Option.some.inj (hg.symm.trans hfn)).symm
 refine ⟨noLooks,fun j t ht=>?_⟩
 have h:Tryz.prog.wantsStandIn t=false:=by simpa using List.all_eq_true.1 hall t (Array.mem_toList_iff.2 (Array.mem_of_getElem? ht))
 exact h
end Go.Proofs.YtldfjimgfnjdjaaGreatDoor
namespace Go.Proofs.Tryz
open Go Ps
def ttK:TT:=[(2,⟨.int .i64,1,8,[.int .i64 0]⟩),(3,⟨.int .i64,1,8,[.int .i64 0]⟩),(4,⟨.bool,1,1,[.bool false]⟩),(5,⟨.int .u8,1,1,[.int .u8 0]⟩),(9,⟨.str,1,16,[.str []]⟩),(22,⟨.slice 9,1,24,[.slice 0 [] (some 9)]⟩),(23,⟨.ptr,1,8,[.ptr none]⟩),(25,⟨.slice 5,1,24,[.slice 0 [] (some 5)]⟩),(26,⟨.int .i64,1,8,[.int .i64 0]⟩),(28,⟨.ptr,1,8,[.ptr none]⟩),(29,⟨.ptr,1,8,[.ptr none]⟩),(31,⟨.arr 32 5,32,32,List.replicate 32 (.int .u8 0)⟩),(33,⟨.strct [(28,0),(29,1),(3,2),(31,3),(3,35)],36,64,[.ptr none,.ptr none,.int .i64 0]++List.replicate 32 (.int .u8 0)++[.int .i64 0]⟩),(36,⟨.strct [(9,0),(9,1)],2,32,[.str [],.str []]⟩),(43,⟨.strct [(3,0),(3,1),(9,2),(9,3),(3,4),(25,5),(3,6)],7,88,[.int .i64 0,.int .i64 0,.str [],.str [],.int .i64 0,.slice 0 [] (some 5),.int .i64 0]⟩),(51,⟨.strct [(36,0),(36,2),(3,4),(3,5)],6,80,[.str [],.str [],.str [],.str [],.int .i64 0,.int .i64 0]⟩),(53,⟨.strct [(36,0),(3,2),(25,3)],4,64,[.str [],.str [],.int .i64 0,.slice 0 [] (some 5)]⟩),(55,⟨.strct [(53,0),(25,4),(36,5),(3,7),(3,8)],9,136,[.str [],.str [],.int .i64 0,.slice 0 [] (some 5),.slice 0 [] (some 5),.str [],.str [],.int .i64 0,.int .i64 0]⟩),(57,⟨.strct [(36,0),(53,2),(25,6)],7,120,[.str [],.str [],.str [],.str [],.int .i64 0,.slice 0 [] (some 5),.slice 0 [] (some 5)]⟩),(59,⟨.strct [(53,0),(25,4)],5,88,[.str [],.str [],.int .i64 0,.slice 0 [] (some 5),.slice 0 [] (some 5)]⟩),(61,⟨.strct [(26,0),(3,1)],2,16,[.int .i64 0,.int .i64 0]⟩),(63,⟨.strct [(3,0),(51,1),(55,7),(57,16),(59,23),(61,28)],30,448,[.int .i64 0,.str [],.str [],.str [],.str [],.int .i64 0,.int .i64 0,.str [],.str [],.int .i64 0,.slice 0 [] (some 5),.slice 0 [] (some 5),.str [],.str [],.int .i64 0,.int .i64 0,.str [],.str [],.str [],.str [],.int .i64 0,.slice 0 [] (some 5),.slice 0 [] (some 5),.str [],.str [],.int .i64 0,.slice 0 [] (some 5),.slice 0 [] (some 5),.int .i64 0,.int .i64 0]⟩),(73,⟨.strct [(36,0),(3,2),(3,3)],4,48,[.str [],.str [],.int .i64 0,.int .i64 0]⟩),(83,⟨.strct [(53,0),(31,4),(3,36)],37,104,[.str [],.str [],.int .i64 0,.slice 0 [] (some 5)]++List.replicate 32 (.int .u8 0)++[.int .i64 0]⟩),(86,⟨.slice 156,1,24,[.slice 0 [] (some 156)]⟩),(88,⟨.strct [(86,0)],1,24,[.slice 0 [] (some 156)]⟩),(90,⟨.strct [(36,0),(31,2),(88,34),(3,35),(3,36),(3,37),(3,38),(3,39),(3,40),(36,41),(22,43),(31,44),(3,76),(4,77)],78,240,[.str [],.str []]++List.replicate 32 (.int .u8 0)++[.slice 0 [] (some 156)]++List.replicate 6 (.int .i64 0)++[.str [],.str [],.slice 0 [] (some 9)]++List.replicate 32 (.int .u8 0)++[.int .i64 0,.bool false]⟩),(100,⟨.ptr,1,8,[.ptr none]⟩),(105,⟨.strB [(102,0),(103,0),(2,0)],1,8,[.int .i64 0]⟩),(106,⟨.ptr,1,8,[.ptr none]⟩),(108,⟨.strct [(3,0),(106,1),(3,2),(4,3)],4,32,[.int .i64 0,.ptr none,.int .i64 0,.bool false]⟩),(110,⟨.strct [(36,0),(31,2),(100,34),(105,35),(105,36),(105,37),(3,38),(26,39),(3,40),(36,41),(22,43),(108,44)],48,208,[.str [],.str []]++List.replicate 32 (.int .u8 0)++[.ptr none]++List.replicate 6 (.int .i64 0)++[.str [],.str [],.slice 0 [] (some 9),.int .i64 0,.ptr none,.int .i64 0,.bool false]⟩),(123,⟨.strct [(31,0),(36,32),(3,34),(3,35),(3,36)],37,88,List.replicate 32 (.int .u8 0)++[.str [],.str [],.int .i64 0,.int .i64 0,.int .i64 0]⟩),(156,⟨.strct [(36,0),(83,2)],39,136,[.str [],.str [],.str [],.str [],.int .i64 0,.slice 0 [] (some 5)]++List.replicate 32 (.int .u8 0)++[.int .i64 0]⟩),(158,⟨.map 36 83,1,8,[.undef]⟩),(160,⟨.strct [(158,0)],1,8,[.undef]⟩),(164,⟨.fn,1,8,[.nilF]⟩),(171,⟨.fn,1,8,[.nilF]⟩)]
theorem ttK_ok:ttOk prog ttK=true:=by kernel_rfl
def imm13:List Nat:=[]
def imm14:List Nat:=[4]
def imm15:List Nat:=[]
def imm16:List Nat:=[]
def imm17:List Nat:=[]
def imm18:List Nat:=[3]
def imm20:List Nat:=[]
def imm21:List Nat:=[]
def imm25:List Nat:=[]
def imm26:List Nat:=[]
def imm34:List Nat:=[2,3]
def imm37:List Nat:=[2,3]
def imm38:List Nat:=[1]
def imm39:List Nat:=[]
def imm40:List Nat:=[4]
def imm41:List Nat:=[]
def imm43:List Nat:=[2,3]
def imm46:List Nat:=[3]
def imm49:List Nat:=[]
def imm77:List Nat:=[]
def imm81:List Nat:=[]
def imm82:List Nat:=[]
def imm84:List Nat:=[]
def imm85:List Nat:=[]
def krb (r:List UInt8):List UInt8:=krbB++r
def isUserB (r n:List UInt8):Bool:=isPrincB r n&&!(targetB n).2
theorem c39 (n:Int):Pure prog 39 [.int .i64 n] (.bool (inZ n 0 1073741824)):=by
 intro H
 (refine fnS (imm:=imm39) ttK_ok func39 ?_;(conv=>whnf))
 unfold inZ
 refine ⟨fun h=>?_,fun h=>?_⟩
 ·have h:(0:Int)≤n:=h
  conv=>whnf
  refine ⟨fun h2=>?_,fun h2=>?_⟩
  ·have h2:n≤1073741824:=h2
   conv=>whnf
   exact ⟨zqm PV.bool (by rw [zqe h,zqe h2];rfl),rfl⟩
  ·have h2:¬n≤1073741824:=h2
   conv=>whnf
   exact ⟨zqm PV.bool (by rw [zqd h2,zq3]),rfl⟩
 ·have h:¬(0:Int)≤n:=h
  conv=>whnf
  exact ⟨zqm PV.bool (by rw [zqd h,zq4]),rfl⟩
theorem c81 (r:List UInt8) (hr:r.length≤1099511627775):Pure prog 81 [.str r] (.str (krb r)):=by
 intro H
 (refine fnS (imm:=imm81) ttK_ok func81 ?_;(conv=>whnf))
 refine ⟨by show 7+r.length≤9223372036854775807;omega,?_⟩
 conv=>whnf
 exact ⟨rfl,rfl⟩
theorem c49 (r:List UInt8) (hr:r.length≤1099511627775):Pure prog 49 [.str r] (.str (krb r)):=by
 intro H
 (refine fnS (imm:=imm49) ttK_ok func49 ?_;(conv=>whnf))
 refine ⟨by show 7+r.length≤9223372036854775807;omega,?_⟩
 conv=>whnf
 exact ⟨rfl,rfl⟩
theorem c38 (r n:List UInt8) (h1:r.length≤1099511627775) (h2:n.length≤1099511627775):Pure prog 38 [.agg [.str r,.str n]] (.bool (isUserB r n)):=by
 intro H
 have k78:=c78 n h2
 have k79:=c79 r n h1 h2
 unfold isUserB
 generalize (targetB n).1=t1 at *
 generalize (targetB n).2=t2 at *
 generalize isPrincB r n=b at *
 cases b
 ·(refine fnS (imm:=imm38) ttK_ok func38 ?_;(conv=>whnf))
  (repeat (first | ((first | (apply exA;(focus exact oN)) | refine bT ?_ | refine bF ?_ | refine bW (bT ?_) | refine bW (bF ?_) | (apply cP;(focus assumption)) | (apply cE;(focus assumption)) | refine ⟨by first | decide | omega,?_⟩);((conv=>whnf))) | ((conv in (_[_]?)=>tactic=>first | exact oL | exact gS (by assumption));(conv=>whnf))))
  exact ⟨rfl,rfl⟩
 ·(refine fnS (imm:=imm38) ttK_ok func38 ?_;(conv=>whnf))
  (repeat (first | ((first | (apply exA;(focus exact oN)) | refine bT ?_ | refine bF ?_ | refine bW (bT ?_) | refine bW (bF ?_) | (apply cP;(focus assumption)) | (apply cE;(focus assumption)) | refine ⟨by first | decide | omega,?_⟩);((conv=>whnf))) | ((conv in (_[_]?)=>tactic=>first | exact oL | exact gS (by assumption));(conv=>whnf))))
  exact ⟨rfl,rfl⟩
def tillI (now:Int):Int:=min (now+1000) 1073741824
theorem c84 (now:Int) (h0:0≤now) (h1:now≤1073741824):Pure prog 84 [.int .i64 now] (.int .i64 (tillI now)):=by
 intro H
 have hw:IntKind.i64.wrap (now+1000)=now+1000:=w64 (by omega) (by omega)
 (refine fnS (imm:=imm84) ttK_ok func84 ?_;(conv=>whnf))
 exact ⟨zqm (PV.int .i64) (by rw [hw];rfl),rfl⟩
theorem gA2 (H:PH) (a b:PObj):(H++[a]++[b])[H.length]? = some a:=by rw [List.append_assoc,zqi (zqn _),Nat.sub_self];rfl
theorem gB2 (H:PH) (a b c:PObj):(H++[a]++[b])[(H++[c]).length]? = some b:=by rw [show (H++[c]).length=(H++[a]).length by simp];exact gL _ _
/-! The cache. -/
def cacheC:List Crd→List PV
 | []=>[]
 | c::L=>.agg [.str c.r,.str c.n]::.agg c.cells::cacheC L
def cacheO (mid:Nat) (v:Nat):PObj:=⟨160,[.mref mid],v⟩
def mapO (L:List Crd) (v:Nat):PObj:=⟨158,cacheC L,v⟩
def Crd.is (r n:List UInt8) (c:Crd):Bool:=decide (c.r=r)&&decide (c.n=n)
def findL (r n:List UInt8) (L:List Crd):Option Crd:=L.find? (Crd.is r n)
theorem Crd.is_iff {r n:List UInt8} {c:Crd}:c.is r n=true↔c.r=r∧c.n=n:=by
 unfold Crd.is;rw [zqb];exact ⟨fun h=>⟨of_decide_eq_true h.1,of_decide_eq_true h.2⟩,fun h=>⟨zqe h.1,zqe h.2⟩⟩
theorem keyEq {r n:List UInt8} {c:Crd}:(PV.agg [.str r,.str n]=PV.agg [.str c.r,.str c.n])↔c.is r n=true:=by
 rw [Crd.is_iff]
 constructor
 ·intro h
  injection h with h
  injection h with h1 h2
  injection h1 with h1
  injection h2 with h2 _
  injection h2 with h2
  exact ⟨h1.symm,h2.symm⟩
 ·rintro ⟨h1,h2⟩;rw [h1,h2]
theorem mapFind_none {r n:List UInt8} {K:Option (Nat×PV)→Prop} (k:K none):∀{L:List Crd} (i:Nat),findL r n L=none→mapFind (.agg [.str r,.str n]) i (cacheC L) K
 | [],_,_=>k
 | c::L,i,h=>by
  unfold findL at h
  rw [List.find?_cons] at h
  refine ⟨fun e=>?_,fun _=>mapFind_none k (i+1) ?_⟩
  ·rw [keyEq.1 e] at h;cases h
  ·cases hc:c.is r n
   ·rw [hc] at h;exact h
   ·rw [hc] at h;cases h
theorem mapFind_some {r n:List UInt8} {K:Option (Nat×PV)→Prop} {c:Crd}:∀{L:List Crd} (i:Nat),findL r n L=some c→(∀j,L[j]? = some c→K (some (i+j,.agg c.cells)))→mapFind (.agg [.str r,.str n]) i (cacheC L) K
 | [],_,h,_=>by cases h
 | x::L,i,h,k=>by
  unfold findL at h
  rw [List.find?_cons] at h
  refine ⟨fun e=>?_,fun e=>mapFind_some (i+1) (c:=c) ?_ (fun j hj=>?_)⟩
  ·rw [keyEq.1 e] at h
   cases h
   exact k 0 rfl
  ·cases hc:x.is r n
   ·rw [hc] at h;exact h
   ·exact absurd (keyEq.2 hc) e
  ·have:=k (j+1) hj
   rwa [show i+(j+1)=i+1+j by omega] at this
theorem kf36 (r n:List UInt8):keyFit ttK 36 (.agg [.str r,.str n]):=⟨rfl,⟨by show 1≤2;omega,r,rfl⟩,rfl,⟨by show 1≤1;omega,n,rfl⟩,rfl⟩
theorem ksL:∀L:List Crd,keysFit ttK 36 (cacheC L)
 | []=>trivial
 | c::L=>⟨kf36 c.r c.n,ksL L⟩
def Xt (H H':PH):Prop:=∃ext,H'=H++ext
theorem Xt.refl (H:PH):Xt H H:=⟨[],by simp⟩
theorem Xt.app {H H':PH} (h:Xt H H') (l:PH):Xt H (H'++l):=by obtain ⟨e,rfl⟩:=h;exact ⟨e++l,by simp⟩
theorem Xt.set {H H':PH} (h:Xt H H') {i:Nat} (hi:H.length≤i) (o:PObj):Xt H (H'.set i o):=by
 obtain ⟨e,rfl⟩:=h
 exact ⟨_,List.set_append_right _ _ hi⟩
theorem Xt.get {H H':PH} (h:Xt H H') {i:Nat} {o:PObj} (ho:H[i]? = some o):H'[i]? = some o:=by
 obtain ⟨e,rfl⟩:=h
 rw [zq2 (zq1.1 ho).1];exact ho
theorem Xt.len {H H':PH} (h:Xt H H'):H.length≤H'.length:=by obtain ⟨e,rfl⟩:=h;simp
theorem drawK_at {P:Program} {tt:TT} {imm:List Nat} {N:Nat} {ops:List Oper} {E:Env} {H Y:PH} {K:Env→PH→Prop} (e:H=Y) (h:drawK P tt imm N ops E Y K):drawK P tt imm N ops E H K:=e▸h
theorem callK_at {P:Program} {f:Nat} {args:List PV} {H Y:PH} {K:PV→PH→Prop} (e:H=Y) (h:callK P f args Y K):callK P f args H K:=e▸h
theorem oR {A:Prop} (h:A:=by (conv=>whnf);exact ⟨⟨rfl,rfl,zqv⟩,gL _ _⟩):A:=h
theorem drawK_of3 {P:Program} {tt:TT} {imm:List Nat} {N:Nat} {ops:List Oper} {E:Env} {H:PH} {K:Env→PH→Prop} (D:Draw) (Hs:List PH) (Hf:PH) (h0:drawOk N ops D=true) (h1:startOk D H Hs)
  (h2:pVers D Hs D.fs) (hf:hk Hs (cnt D.isImp ops.length)=Hf) (h:pDr2 P tt imm ops D Hs 0 ops E fun E'=>K E' Hf):drawK P tt imm N ops E H K :=
 dO2 D Hs h0 h1 h2 (by rw [hf];exact h)
def zCrd:Crd:=⟨[],[],0,[],fun _=>0,0⟩
def D40 (b:Nat):Draw:={ imp:=[10],win:=[(8,0,1),(11,1,1)],robs:=[z83c],res:=[(9,0)],base:=b }
theorem c40n {H:PH} {caid mid v v2:Nat} {L:List Crd} {r n:List UInt8} (now:Int) (hc:H[caid]? = some (cacheO mid v)) (hm:H[mid]? = some (mapO L v2)) (hf:findL r n L=none) :
  CK prog 40 [.ptr (some (caid,0)),.agg [.str r,.str n],.int .i64 now] H fun x H'=>x=.tup [.agg zCrd.cells,.bool false]∧H'=H:=by
 refine (CK.gc (Q:=fun x H'=>x=.tup [.agg zCrd.cells,.bool false]∧Xt H H') ?_ (fun r H' h=>⟨by rw [h.1];rfl,h.2⟩)).mono (fun x H' h=>⟨h.2.choose_spec.1,h.1⟩)
 have e1:=(Xt.refl H).app [z83c]
 have hlt:=e1.len
 have g1:(H++[z83c])[H.length]? = some z83c:=gL _ _
 generalize hX:H++[z83c]=X at *
 have e2:=e1.app [z83c]
 have hc2:=e2.get hc
 have hm2:=e2.get hm
 have hg2:=gL X z83c
 have hXl:H.length<X.length:=by rw [←hX];simp
 obtain ⟨Y,hY⟩:∃Y,(X++[z83c]).set X.length ⟨83,z83c.cs,1⟩=Y:=⟨_,rfl⟩
 have e3:Xt H Y:=hY▸e2.set hlt _
 have g3:Y[H.length]? = some z83c:=by rw [←hY,zqj (by omega),zq2 hXl];exact g1
 (refine fnS (imm:=imm40) ttK_ok func40 ?_;(conv=>whnf))
 refine drawK_at hX ?_
 refine drawK_of3 (D40 X.length) [X++[z83c],Y] Y (by kernel_rfl) ⟨rfl,rfl⟩ trivial rfl ?_
 conv=>whnf
 (repeat (first | ((first | (apply exA;(focus exact oN)) | refine bT ?_ | refine bF ?_ | refine bW (bT ?_) | refine bW (bF ?_) | (apply cP;(focus assumption)) | (apply cE;(focus assumption)) | refine ⟨by first | decide | omega,?_⟩);((conv=>whnf))) | ((conv in (_[_]?)=>tactic=>first | exact oL | exact gS (by assumption));(conv=>whnf))))
 apply exA
 ·conv=>whnf
  ((conv in (_[_]?)=>tactic=>exact hm2);(conv=>whnf))
  refine ⟨⟨kf36 _ _,ksL L⟩,?_⟩
  refine mapFind_none ?_ 0 hf
  exact ⟨rfl,rfl,zqv⟩
 conv=>whnf
 (repeat (first | ((first | (apply exA;(focus exact oN)) | refine bT ?_ | refine bF ?_ | refine bW (bT ?_) | refine bW (bF ?_) | (apply cP;(focus assumption)) | (apply cE;(focus assumption)) | refine ⟨by first | decide | omega,?_⟩);((conv=>whnf))) | ((conv in (_[_]?)=>tactic=>first | exact oL | exact gS (by assumption));(conv=>whnf))))
 apply exA
 ·exact oR
 conv=>whnf
 apply exA
 ·conv=>whnf
  ((conv in (_[_]?)=>tactic=>exact hg2);(conv=>whnf))
  exact ⟨rfl,hY,zqv⟩
 conv=>whnf
 (repeat (first | ((first | (apply exA;(focus exact oN)) | refine bT ?_ | refine bF ?_ | refine bW (bT ?_) | refine bW (bF ?_) | (apply cP;(focus assumption)) | (apply cE;(focus assumption)) | refine ⟨by first | decide | omega,?_⟩);((conv=>whnf))) | ((conv in (_[_]?)=>tactic=>first | exact oL | exact gS (by assumption));(conv=>whnf))))
 exact ⟨rfl,e3.set (zqn _) _⟩
theorem c40o {H:PH} {caid mid v v2:Nat} {L:List Crd} {r n:List UInt8} (now:Int) (hc:H[caid]? = some (cacheO mid v)) (hm:H[mid]? = some (mapO L v2)) {c:Crd} (hf:findL r n L=some c) (hen:c.en<now) :
  CK prog 40 [.ptr (some (caid,0)),.agg [.str r,.str n],.int .i64 now] H fun x H'=>x=.tup [.agg zCrd.cells,.bool false]∧H'=H:=by
 refine (CK.gc (Q:=fun x H'=>x=.tup [.agg zCrd.cells,.bool false]∧Xt H H') ?_ (fun r H' h=>⟨by rw [h.1];rfl,h.2⟩)).mono (fun x H' h=>⟨h.2.choose_spec.1,h.1⟩)
 have e1:=(Xt.refl H).app [z83c]
 have hlt:=e1.len
 have g1:(H++[z83c])[H.length]? = some z83c:=gL _ _
 generalize hX:H++[z83c]=X at *
 have e2:=e1.app [z83c]
 have hc2:=e2.get hc
 have hm2:=e2.get hm
 have hg2:=gL X z83c
 have hXl:H.length<X.length:=by rw [←hX];simp
 obtain ⟨Y,hY⟩:∃Y,(X++[z83c]).set X.length ⟨83,c.cells,1⟩=Y:=⟨_,rfl⟩
 have e3:Xt H Y:=hY▸e2.set hlt _
 have g3:Y[H.length]? = some z83c:=by rw [←hY,zqj (by omega),zq2 hXl];exact g1
 (refine fnS (imm:=imm40) ttK_ok func40 ?_;(conv=>whnf))
 refine drawK_at hX ?_
 refine drawK_of3 (D40 X.length) [X++[z83c],Y] Y (by kernel_rfl) ⟨rfl,rfl⟩ trivial rfl ?_
 conv=>whnf
 (repeat (first | ((first | (apply exA;(focus exact oN)) | refine bT ?_ | refine bF ?_ | refine bW (bT ?_) | refine bW (bF ?_) | (apply cP;(focus assumption)) | (apply cE;(focus assumption)) | refine ⟨by first | decide | omega,?_⟩);((conv=>whnf))) | ((conv in (_[_]?)=>tactic=>first | exact oL | exact gS (by assumption));(conv=>whnf))))
 apply exA
 ·conv=>whnf
  ((conv in (_[_]?)=>tactic=>exact hm2);(conv=>whnf))
  refine ⟨⟨kf36 _ _,ksL L⟩,?_⟩
  refine mapFind_some 0 hf (fun j _=>?_)
  exact ⟨rfl,rfl,zqv⟩
 conv=>whnf
 (repeat (first | ((first | (apply exA;(focus exact oN)) | refine bT ?_ | refine bF ?_ | refine bW (bT ?_) | refine bW (bF ?_) | (apply cP;(focus assumption)) | (apply cE;(focus assumption)) | refine ⟨by first | decide | omega,?_⟩);((conv=>whnf))) | ((conv in (_[_]?)=>tactic=>first | exact oL | exact gS (by assumption));(conv=>whnf))))
 apply exA
 ·exact oR
 conv=>whnf
 apply exA
 ·conv=>whnf
  ((conv in (_[_]?)=>tactic=>exact hg2);(conv=>whnf))
  exact ⟨rfl,hY,zqv⟩
 have g4:Y[X.length]? = some (⟨83,c.cells,1⟩:PObj):=by rw [←hY,List.getElem?_set_self (by simp)]
 conv=>whnf
 (repeat (first | ((first | (apply exA;(focus exact oN)) | refine bT ?_ | refine bF ?_ | refine bW (bT ?_) | refine bW (bF ?_) | (apply cP;(focus assumption)) | (apply cE;(focus assumption)) | refine ⟨by first | decide | omega,?_⟩);((conv=>whnf))) | ((conv in (_[_]?)=>tactic=>first | exact oL | exact gS (by assumption));(conv=>whnf))))
 exact ⟨rfl,e3.set (zqn _) _⟩
theorem Evo.xt {S:Nat→Prop} {H H':PH} (h:Xt H H'):Evo S H H':=by obtain ⟨e,rfl⟩:=h;exact Evo.app _ _
structure MapAt (H:PH) (mid:Nat) (L:List Crd):Prop where
 ex:∃v,H[mid]? = some (mapO L v)
structure Cs where
 r:List UInt8
 n:List UInt8
 k:Nat→UInt8
 ca:Nat
 nn:Int
 sn:Int
 qn:Int
 st:Int
 er:Int
 se:Int
 tr:List UInt8
 tn:List UInt8
 vis:PV
 on:Int
 ob:PV
 ou:Int
 fi:Bool
def cliO (c:Cs) (v:Nat):PObj:=⟨110,[.str c.r,.str c.n]++keyC c.k++[.ptr (some (c.ca,0)),.int .i64 c.nn,.int .i64 c.sn,.int .i64 c.qn,.int .i64 c.st,.int .i64 c.er,.int .i64 c.se,.str c.tr,.str c.tn,c.vis,.int .i64 c.on,c.ob,.int .i64 c.ou,.bool c.fi],v⟩
theorem cliT (c:Cs) (v:Nat):(cliO c v).T≠keyT∧(cliO c v).T≠boxT:=⟨fun h=>absurd (show 110=keyT from h) (by decide),fun h=>absurd (show 110=boxT from h) (by decide)⟩
theorem cacheOT (m:Nat) (v:Nat):(cacheO m v).T≠keyT∧(cacheO m v).T≠boxT:=⟨fun h=>absurd (show 160=keyT from h) (by decide),fun h=>absurd (show 160=boxT from h) (by decide)⟩
theorem mapOT (L:List Crd) (v:Nat):(mapO L v).T≠keyT∧(mapO L v).T≠boxT:=⟨fun h=>absurd (show 158=keyT from h) (by decide),fun h=>absurd (show 158=boxT from h) (by decide)⟩
structure Cl (H:PH) (cid mid:Nat) (c:Cs) (L:List Crd):Prop where
 o:∃v,H[cid]? = some (cliO c v)
 a:∃v,H[c.ca]? = some (cacheO mid v)
 m:MapAt H mid L
theorem ne_of_T {H:PH} {i j:Nat} {o p:PObj} (h:H[i]? = some o) (k:H[j]? = some p) (hn:o.T≠p.T):i≠j:=fun e=>by
 subst e
 rw [h] at k;cases k
 exact hn rfl
theorem Cl.ne {H:PH} {cid mid:Nat} {c:Cs} {L:List Crd} (h:Cl H cid mid c L):cid≠c.ca∧cid≠mid∧c.ca≠mid:=by
 obtain ⟨⟨v,h1⟩,⟨w,h2⟩,⟨u,h3⟩⟩:=h
 exact ⟨ne_of_T h1 h2 (show 110≠160 by decide),ne_of_T h1 h3 (show 110≠158 by decide),ne_of_T h2 h3 (show 160≠158 by decide)⟩
theorem Cl.evo {S:Nat→Prop} {H H':PH} {cid mid:Nat} {c:Cs} {L:List Crd} (h:Cl H cid mid c L) (k:Evo S H H') (h1:¬S cid) (h2:¬S c.ca) (h3:¬S mid):Cl H' cid mid c L:=by
 obtain ⟨⟨v,g1⟩,⟨w,g2⟩,⟨u,g3⟩⟩:=h
 exact ⟨⟨v,k.same _ _ g1 h1 (cliT ..).1 (cliT ..).2⟩,⟨w,k.same _ _ g2 h2 (cacheOT ..).1 (cacheOT ..).2⟩,⟨u,k.same _ _ g3 h3 (mapOT ..).1 (mapOT ..).2⟩⟩
theorem Cl.put {H:PH} {cid mid:Nat} {c:Cs} {L:List Crd} (h:Cl H cid mid c L) (c':Cs) (hca:c'.ca=c.ca) (v:Nat):Cl (H.set cid (cliO c' v)) cid mid c' L∧Evo (·=cid) H (H.set cid (cliO c' v)):=by
 have hn:=h.ne
 obtain ⟨⟨w,g1⟩,⟨x,g2⟩,⟨u,g3⟩⟩:=h
 have he:Evo (·=cid) H (H.set cid (cliO c' v)):=Evo.setOther g1 rfl (cliT ..).1 (cliT ..).2
 refine ⟨⟨⟨v,gS g1⟩,⟨x,?_⟩,⟨u,?_⟩⟩,he⟩
 ·rw [hca];exact he.same _ _ g2 (Ne.symm hn.1) (cacheOT ..).1 (cacheOT ..).2
 ·exact he.same _ _ g3 (Ne.symm hn.2.1) (mapOT ..).1 (mapOT ..).2
theorem Cl.xt {H H':PH} {cid mid:Nat} {c:Cs} {L:List Crd} (h:Cl H cid mid c L) (e:Xt H H'):Cl H' cid mid c L:=by
 obtain ⟨⟨v,g1⟩,⟨w,g2⟩,⟨u,g3⟩⟩:=h
 exact ⟨⟨v,e.get g1⟩,⟨w,e.get g2⟩,⟨u,e.get g3⟩⟩
def Wc (cid mid:Nat) (i:Nat):Prop:=i=cid∨i=mid
theorem Evo.no {S:Nat→Prop} {H H':PH} (h:Evo (fun _=>False) H H'):Evo S H H':=h.mono fun _ h=>h.elim
theorem Evo.c {cid mid:Nat} {H H':PH} (h:Evo (·=cid) H H'):Evo (Wc cid mid) H H':=h.mono fun _ h=>.inl h
def z36o:PObj:=⟨36,[.str [],.str []],0⟩
def D41:Draw:={ imp:=[12] }
theorem c41 {H:PH} {cid:Nat} {c:Cs} {v:Nat} (ho:H[cid]? = some (cliO c v)) (hr:c.r.length≤1000000) :
  CK prog 41 [.ptr (some (cid,0))] H fun x H'=>x=.agg [.str c.r,.str (krb c.r)]∧H'=H:=by
 refine (CK.gc (Q:=fun x H'=>x=.agg [.str c.r,.str (krb c.r)]∧Xt H H') ?_ (fun r H' h=>⟨by rw [h.1];rfl,h.2⟩)).mono (fun x H' h=>⟨h.2.choose_spec.1,h.1⟩)
 have e1:=(Xt.refl H).app [z36o]
 have ho1:=e1.get ho
 have hg:=gL H z36o
 have k81:=c81 c.r (by omega)
 have e2:=e1.set (zqn _) (⟨36,[.str c.r,.str (krb c.r)],1⟩:PObj)
 (refine fnS (imm:=imm41) ttK_ok func41 ?_;(conv=>whnf))
 refine drawK_of3 D41 [H++[z36o],(H++[z36o]).set H.length ⟨36,[.str c.r,.str (krb c.r)],1⟩] _ (by kernel_rfl) rfl trivial rfl ?_
 conv=>whnf
 (repeat (first | ((first | (apply exA;(focus exact oN)) | refine bT ?_ | refine bF ?_ | refine bW (bT ?_) | refine bW (bF ?_) | (apply cP;(focus assumption)) | (apply cE;(focus assumption)) | refine ⟨by first | decide | omega,?_⟩);((conv=>whnf))) | ((conv in (_[_]?)=>tactic=>first | exact oL | exact gS (by assumption));(conv=>whnf))))
 exact ⟨rfl,e2⟩
theorem inZ_of {n lo hi:Int} (h1:lo≤n) (h2:n≤hi):inZ n lo hi=true:=by unfold inZ;rw [zqe h1,zqe h2];rfl
def msgOk (m:Msg):Prop:=isB m=true∧(laidB m).length≤2000∧m.fits
def outO (on:Int) (ob:PV) (ou:Int) (fi:Bool) (v:Nat):PObj:=⟨108,[.int .i64 on,ob,.int .i64 ou,.bool fi],v⟩
theorem outT (on:Int) (ob:PV) (ou:Int) (fi:Bool) (v:Nat):(outO on ob ou fi v).T≠keyT∧(outO on ob ou fi v).T≠boxT:=⟨fun h=>absurd (show 108=keyT from h) (by decide),fun h=>absurd (show 108=boxT from h) (by decide)⟩
def Cs.out (c:Cs) (ob:PV) (ou:Int) (fi:Bool):Cs:={ c with nn:=c.nn+1,on:=c.nn+1,ob:=ob,ou:=ou,fi:=fi,se:=c.se+1 }
theorem Evo.drop {S:Nat→Prop} {H H':PH} {a:Nat} (h:Evo (fun i=>S i∨i=a) H H') (ha:H.length≤a):Evo S H H' :=
 ⟨h.len,h.box,fun id o ho hs=>h.same id o ho fun hh=>by
  rcases hh with hh | hh
  ·exact hs hh
  ·have:=(zq1.1 ho).1
   omega⟩
theorem Evo.own {S:Nat→Prop} {H X:PH} (e:Evo S H X) {a:Nat} {o:PObj} (ha:X[a]? = some o) (h1:o.T≠keyT) (h2:o.T≠boxT) (hle:H.length≤a) (o':PObj):Evo S H (X.set a o') :=
 Evo.drop ((e.mono fun _ h=>.inl h).trans ((Evo.setOther (S:=(·=a)) ha rfl h1 h2).mono fun _ h=>.inr h)) hle
theorem c82 {H:PH} {cid mid:Nat} {c:Cs} {L:List Crd} (hC:Cl H cid mid c L) (bid:Nat) (ou:Int) (fi:Bool) (f:Nat) (caps:List PV) (m:Msg) (hm:msgOk m) (h0:0≤c.nn) (h1:c.nn≤100000) (h2:0≤c.se) (h3:c.se≤100000) (hcaps:caps.map dem=caps)
  (hreq:∀H',(∃v,H'[cid]? = some (cliO (c.out (.ptr (some (bid,0))) ou fi) v))→Evo (·=cid) H H'→CK prog f ([]++[.int .i64 (c.nn+1)]++caps) H' fun r H''=>r=.agg m.cells∧H''=H') :
  ∃H1,Cl H1 cid mid (c.out (.ptr (some (bid,0))) ou fi) L∧Evo (·=cid) H H1∧CK prog 82 [.ptr (some (cid,0)),.agg [.int .i64 0,.ptr (some (bid,0)),.int .i64 ou,.bool fi],.func f [] caps] H fun r H'=>r=sl (laidB m)∧H'=H1:=by
 obtain ⟨v,ho⟩:=hC.o
 have hlt:cid<H.length:=(zq1.1 ho).1
 have e0:=(Xt.refl H).app [outO 0 (.ptr (some (bid,0))) ou fi 0]
 have hC0:=hC.xt e0
 have ho0:=e0.get ho
 have hg0:=gL H (outO 0 (.ptr (some (bid,0))) ou fi 0)
 have E0:Evo (·=cid) H (H++[outO 0 (.ptr (some (bid,0))) ou fi 0]):=Evo.xt e0
 generalize hX0:H++[outO 0 (.ptr (some (bid,0))) ou fi 0]=X0 at *
 have hw:IntKind.i64.wrap (c.nn+1)=c.nn+1:=w64 (by omega) (by omega)
 have hws:IntKind.i64.wrap (c.se+1)=c.se+1:=w64 (by omega) (by omega)
 have hne:cid≠H.length:=by omega
 have k71:=c71 (off:=0+35) (n:=c.nn) 1 ho0 rfl
 rw [hw] at k71
 obtain ⟨hC1,E1⟩:=hC0.put { c with nn:=c.nn+1 } rfl (v+1)
 obtain ⟨X1,hX1⟩:∃X1,X0.set cid (cliO { c with nn:=c.nn+1 } (v+1))=X1:=⟨_,rfl⟩
 have k71':CK prog 71 [.ptr (some (cid,0+35)),.int .i64 1] X0 fun r H'=>r=.int .i64 (c.nn+1)∧H'=X1:=by rw [←hX1];exact k71
 have hg1:X1[H.length]? = some (outO 0 (.ptr (some (bid,0))) ou fi 0):=by rw [←hX1,zqj hne];exact hg0
 have ho1:X1[cid]? = some (cliO { c with nn:=c.nn+1 } (v+1)):=by rw [←hX1];exact gS ho0
 rw [hX1] at hC1 E1
 clear k71 hX1
 have E2:=(E0.trans E1).own hg1 (outT ..).1 (outT ..).2 (zqn _) (outO (c.nn+1) (.ptr (some (bid,0))) ou fi 1)
 have hC2:Cl (X1.set H.length (outO (c.nn+1) (.ptr (some (bid,0))) ou fi 1)) cid mid { c with nn:=c.nn+1 } L:=hC1.evo (S:=(·=H.length)) (Evo.setOther hg1 rfl (outT ..).1 (outT ..).2) hne (fun e=>by have:=(zq1.1 hC.a.choose_spec).1;have e:c.ca=H.length:=e;omega) (fun e=>by have:=(zq1.1 hC.m.ex.choose_spec).1;have e:mid=H.length:=e;omega)
 have hg2:(X1.set H.length (outO (c.nn+1) (.ptr (some (bid,0))) ou fi 1))[H.length]? = some (outO (c.nn+1) (.ptr (some (bid,0))) ou fi 1):=gS hg1
 have ho2:(X1.set H.length (outO (c.nn+1) (.ptr (some (bid,0))) ou fi 1))[cid]? = some (cliO { c with nn:=c.nn+1 } (v+1)):=by rw [zqj (Ne.symm hne)];exact ho1
 obtain ⟨hC3,E3⟩:=hC2.put { c with nn:=c.nn+1,on:=c.nn+1,ob:=.ptr (some (bid,0)),ou:=ou,fi:=fi } rfl (v+2)
 have hg3:((X1.set H.length (outO (c.nn+1) (.ptr (some (bid,0))) ou fi 1)).set cid (cliO { c with nn:=c.nn+1,on:=c.nn+1,ob:=.ptr (some (bid,0)),ou:=ou,fi:=fi } (v+2)))[H.length]? = some (outO (c.nn+1) (.ptr (some (bid,0))) ou fi 1):=by rw [zqj hne];exact hg2
 have ho3:((X1.set H.length (outO (c.nn+1) (.ptr (some (bid,0))) ou fi 1)).set cid (cliO { c with nn:=c.nn+1,on:=c.nn+1,ob:=.ptr (some (bid,0)),ou:=ou,fi:=fi } (v+2)))[cid]? = some (cliO { c with nn:=c.nn+1,on:=c.nn+1,ob:=.ptr (some (bid,0)),ou:=ou,fi:=fi } (v+2)):=gS ho2
 obtain ⟨hC4,E4⟩:=hC3.put (c.out (.ptr (some (bid,0))) ou fi) rfl (v+3)
 have hg4:(((X1.set H.length (outO (c.nn+1) (.ptr (some (bid,0))) ou fi 1)).set cid (cliO { c with nn:=c.nn+1,on:=c.nn+1,ob:=.ptr (some (bid,0)),ou:=ou,fi:=fi } (v+2))).set cid (cliO (c.out (.ptr (some (bid,0))) ou fi) (v+3)))[H.length]? = some (outO (c.nn+1) (.ptr (some (bid,0))) ou fi 1):=by rw [zqj hne];exact hg3
 have hXw:(((X1.set H.length (outO (c.nn+1) (.ptr (some (bid,0))) ou fi 1)).set cid (cliO { c with nn:=c.nn+1,on:=c.nn+1,ob:=.ptr (some (bid,0)),ou:=ou,fi:=fi } (v+2))).set cid (cliO { c.out (.ptr (some (bid,0))) ou fi with se:=IntKind.i64.wrap (c.se+1) } (v+3)))=(((X1.set H.length (outO (c.nn+1) (.ptr (some (bid,0))) ou fi 1)).set cid (cliO { c with nn:=c.nn+1,on:=c.nn+1,ob:=.ptr (some (bid,0)),ou:=ou,fi:=fi } (v+2))).set cid (cliO (c.out (.ptr (some (bid,0))) ou fi) (v+3))):=by rw [hws];rfl
 have hg4w:(((X1.set H.length (outO (c.nn+1) (.ptr (some (bid,0))) ou fi 1)).set cid (cliO { c with nn:=c.nn+1,on:=c.nn+1,ob:=.ptr (some (bid,0)),ou:=ou,fi:=fi } (v+2))).set cid (cliO { c.out (.ptr (some (bid,0))) ou fi with se:=IntKind.i64.wrap (c.se+1) } (v+3)))[H.length]? = some (outO (c.nn+1) (.ptr (some (bid,0))) ou fi 1):=by rw [hXw];exact hg4
 have E14:=(E2.trans E3).trans E4
 have kr:=hreq (((X1.set H.length (outO (c.nn+1) (.ptr (some (bid,0))) ou fi 1)).set cid (cliO { c with nn:=c.nn+1,on:=c.nn+1,ob:=.ptr (some (bid,0)),ou:=ou,fi:=fi } (v+2))).set cid (cliO (c.out (.ptr (some (bid,0))) ou fi) (v+3))) hC4.o E14
 have k72:=c72 m hm.2.2
 rw [encV_yes ⟨hm.1,hm.2.1⟩] at k72
 refine ⟨(((X1.set H.length (outO (c.nn+1) (.ptr (some (bid,0))) ou fi 1)).set cid (cliO { c with nn:=c.nn+1,on:=c.nn+1,ob:=.ptr (some (bid,0)),ou:=ou,fi:=fi } (v+2))).set cid (cliO (c.out (.ptr (some (bid,0))) ou fi) (v+3))),hC4,E14,?_⟩
 clear hC0 hC1 hC2 hC3 E2 E3 E4 E1 E0 hreq hC4 E14 hC
 (refine fnS (imm:=imm82) ttK_ok func82 ?_;(conv=>whnf))
 refine callK_at hX0 ?_
 refine cE k71' ?_
 conv=>whnf
 ((conv in (_[_]?)=>tactic=>exact hg1);(conv=>whnf))
 ((conv in (_[_]?)=>tactic=>exact hg2);(conv=>whnf))
 ((conv in (_[_]?)=>tactic=>exact ho2);(conv=>whnf))
 repeat ((conv in (_[_]?)=>tactic=>exact ho3);(conv=>whnf))
 ((conv in (_[_]?)=>tactic=>exact hg4w);(conv=>whnf))
 refine callK_at hXw ?_
 refine cE kr ?_
 conv=>whnf
 refine cP k72 ?_
 conv=>whnf
 exact ⟨rfl,rfl⟩
def asM (r n:List UInt8) (till nonce:Int):Msg:={ mZ with kind:=1,a1:=r,a2:=n,a3:=r,a4:=krb r,aTill:=till,aNonce:=nonce }
def z63o:PObj:=⟨63,mZ.cells,0⟩
def D85:Draw:={ imp:=[11] }
theorem c85 {H:PH} {cid:Nat} {c:Cs} {v:Nat} (ho:H[cid]? = some (cliO c v)) (hr:c.r.length≤1000000) (now nonce:Int) (h0:0≤now) (h1:now≤1073741824) :
  CK prog 85 [.int .i64 nonce,.elem [.ptr (some (cid,0))],.elem [.int .i64 now]] H fun x H'=>x=.agg (asM c.r c.n (tillI now) nonce).d.cells∧H'=H:=by
 refine (CK.gc (Q:=fun x H'=>x=.agg (asM c.r c.n (tillI now) nonce).d.cells∧Xt H H') ?_ (fun r H' h=>⟨by rw [h.1];exact old_cells (asM c.r c.n (tillI now) nonce),h.2⟩)).mono (fun x H' h=>⟨h.2.choose_spec.1,h.1⟩)
 have e1:=(Xt.refl H).app [z63o]
 have ho1:=e1.get ho
 have hg:=gL H z63o
 have k84:=c84 now h0 h1
 have k41:=c41 ho1 hr
 have e2:=e1.set (zqn _) (⟨63,(asM c.r c.n (tillI now) nonce).cells,1⟩:PObj)
 (refine fnS (imm:=imm85) ttK_ok func85 ?_;(conv=>whnf))
 refine drawK_of3 D85 [H++[z63o],(H++[z63o]).set H.length ⟨63,(asM c.r c.n (tillI now) nonce).cells,1⟩] _ (by kernel_rfl) rfl trivial rfl ?_
 conv=>whnf
 (repeat (first | ((first | (apply exA;(focus exact oN)) | refine bT ?_ | refine bF ?_ | refine bW (bT ?_) | refine bW (bF ?_) | (apply cP;(focus assumption)) | (apply cE;(focus assumption)) | refine ⟨by first | decide | omega,?_⟩);((conv=>whnf))) | ((conv in (_[_]?)=>tactic=>first | exact oL | exact gS (by assumption));(conv=>whnf))))
 exact ⟨rfl,e2⟩
theorem o3 {A:Prop} (h:A:=by
 (conv=>whnf);apply And.intro
 ·exact oN
 ·(conv=>whnf);apply And.intro
  ·exact oN
  ·exact oN):A:=h
theorem o2x {A:Prop} (h:A:=by
 (conv=>whnf);apply And.intro
 ·exact oN
 ·exact oN):A:=h
theorem dX {O R:PV→Prop} {v:PV} (k:R v) (h:O v:=by first | exact oR | exact o2x | exact o3):∃v,O v∧R v:=⟨v,h,k⟩
theorem wX {A:Prop} (h:A:=by
 repeat (first | (first | ((first | (apply exA;(focus exact oN)) | refine bT ?_ | refine bF ?_ | refine bW (bT ?_) | refine bW (bF ?_) | (apply cP;(focus assumption)) | (apply cE;(focus assumption)) | refine ⟨by first | decide | omega,?_⟩);((conv=>whnf))) | ((conv in (_[_]?)=>tactic=>first | exact oL | exact gS (by assumption));(conv=>whnf))) | (refine dX ?_;(conv=>whnf)))
 exact ⟨rfl,rfl⟩):A:=h
theorem wR {A:Prop} (h:A:=by
 repeat (first | (first | ((first | (apply exA;(focus exact oN)) | refine bT ?_ | refine bF ?_ | refine bW (bT ?_) | refine bW (bF ?_) | (apply cP;(focus assumption)) | (apply cE;(focus assumption)) | refine ⟨by first | decide | omega,?_⟩);((conv=>whnf))) | ((conv in (_[_]?)=>tactic=>first | exact oL | exact gS (by assumption));(conv=>whnf))) | (refine dX ?_;(conv=>whnf)))
 rfl):A:=h
theorem newBox (H:PH) {k:List UInt8} (hk:k.length=32):BoxAt (H++[speckO (k.take 16),boxO k H.length]) (H.length+1) k:=by
 refine ⟨hk,H.length,0,0,0,0,speckO (k.take 16),?_,?_,speck_key _⟩
 ·rw [zqi (by omega),show H.length+1 - H.length=1 by omega];rfl
 ·rw [zqi (by omega),show H.length - H.length=0 by omega];rfl
def D43:Draw:={ imp:=[10,13],win:=[(0,0,2),(1,0,2),(2,0,2),(3,0,2),(4,0,2),(5,0,1),(11,1,1),(12,0,1),(13,1,1),(14,2,2),(15,2,2)] }
theorem c43 {H:PH} {cid mid:Nat} {c:Cs} {L:List Crd} (hC:Cl H cid mid c L) (now:Int) (hn0:0≤now) (hn1:now≤1073741824) (hr:c.r.length≤1000000) (hm:msgOk (asM c.r c.n (tillI now) (c.nn+1)).d)
  (h0:0≤c.nn) (h1:c.nn≤100000) (h2:0≤c.se) (h3:c.se≤100000) :
  ∃H1 bid,BoxAt H1 bid (keyB c.k)∧Cl H1 cid mid (c.out (.ptr (some (bid,0))) 3 true) L∧Evo (·=cid) H H1∧CK prog 43 [.ptr (some (cid,0)),.int .i64 now] H fun r H'=>r=.tup [.str c.r,sl (laidB (asM c.r c.n (tillI now) (c.nn+1)))]∧H'=H1:=by
 obtain ⟨v,ho⟩:=hC.o
 have e1:=(Xt.refl H).app [speckO ((keyB c.k).take 16),boxO (keyB c.k) H.length]
 have hb:=newBox H (keyB_len c.k)
 have k70:=c70 (keyB c.k) (keyB_len c.k) H
 have ho1:=e1.get ho
 obtain ⟨H1,g1,g2,g3⟩:=c82 (hC.xt e1) (H.length+1) 3 true 85 [.elem [.ptr (some (cid,0))],.elem [.int .i64 now]] (asM c.r c.n (tillI now) (c.nn+1)).d hm h0 h1 h2 h3 rfl
  (fun H' ⟨v,ho⟩ _=>c85 (c:=c.out (.ptr (some (H.length+1,0))) 3 true) ho hr now (c.nn+1) hn0 hn1)
 refine ⟨H1,H.length+1,g2.box _ _ hb,g1,(Evo.xt e1).trans g2,?_⟩
 obtain ⟨v2,ho2⟩:=g1.o
 clear g1 g2 hm hC e1 hb
 generalize hX:H++[speckO ((keyB c.k).take 16),boxO (keyB c.k) H.length]=X at *
 (refine fnS (imm:=imm43) ttK_ok func43 ?_;(conv=>whnf))
 refine drawK_of3 D43 [H,X,H1] _ (by kernel_rfl) rfl trivial rfl ?_
 conv=>whnf
 exact wX
def visP:List (List UInt8)→PV
 | []=>.nilS
 | x::l=>.slice (l.length+1) (.str x::l.map .str) (some 9)
structure RepI where
 r1:List UInt8
 r2:List UInt8
 r3:List UInt8
 r4:List UInt8
 kv:Int
 b:List UInt8
 bl:List UInt8
def RepI.cells (q:RepI):List PV:=[.str q.r1,.str q.r2,.str q.r3,.str q.r4,.int .i64 q.kv,sl q.b,sl q.bl]
def D46a:Draw:={ imp:=[12],win:=[(13,1,1),(14,1,1),(15,1,1),(16,1,1),(17,1,1)] }
def D46b:Draw:={ imp:=[10,11],win:=[(2,0,1),(3,0,1),(4,0,1),(5,0,1),(6,0,1),(7,0,1),(8,0,1),(9,0,2),(11,1,1),(12,2,2)] }
theorem n36:36≠keyT∧36≠boxT:=by decide
theorem n83:83≠keyT∧83≠boxT:=by decide
theorem c46c {H:PH} {cid:Nat} {c:Cs} {v:Nat} (ho:H[cid]? = some (cliO c v)) (q:RepI) (hq:¬(q.r1=c.r∧q.r2=c.n)) :
  CK prog 46 [.ptr (some (cid,0)),.agg q.cells] H fun x H'=>x=.tup [.agg [.str [],.str []],.agg zCrd.cells,.bool false]∧Evo (fun _=>False) H H':=by
 have hne:¬([PV.str q.r1,.str q.r2]=[PV.str c.r,.str c.n]):=fun h=>by
  injection h with h1 h2
  injection h1 with h1
  injection h2 with h2 _
  injection h2 with h2
  exact hq ⟨h1,h2⟩
 have e1:=((Xt.refl H).app [z36o]).app [z83c]
 have ho1:=e1.get ho
 have gA:=gA2 H z36o z83c
 have gB:=gB2 H z36o z83c z36o
 have gC:((H++[z36o]++[z83c]).set H.length (⟨36,z36o.cs,1⟩:PObj))[(H++[z36o]).length]? = some z83c:=by rw [zqj (by simp)];exact gB
 have gD:(((H++[z36o]++[z83c]).set H.length (⟨36,z36o.cs,1⟩:PObj)).set (H++[z36o]).length (⟨83,z83c.cs,1⟩:PObj))[H.length]? = some ⟨36,z36o.cs,1⟩:=by rw [zqj (by simp)];exact gS gA
 have e4:=(e1.set (zqn _) (⟨36,z36o.cs,1⟩:PObj)).set (show H.length≤(H++[z36o]).length by simp) (⟨83,z83c.cs,1⟩:PObj)
 (refine fnS (imm:=imm46) ttK_ok func46 ?_;(conv=>whnf))
 repeat (first | (first | ((first | (apply exA;(focus exact oN)) | refine bT ?_ | refine bF ?_ | refine bW (bT ?_) | refine bW (bF ?_) | (apply cP;(focus assumption)) | (apply cE;(focus assumption)) | refine ⟨by first | decide | omega,?_⟩);((conv=>whnf))) | ((conv in (_[_]?)=>tactic=>first | exact oL | exact gS (by assumption));(conv=>whnf))) | (refine dX ?_;(conv=>whnf)) | (refine dP2 (by kernel_rfl) ?_;(conv=>whnf)))
 exact ⟨rfl,Evo.xt e4⟩
theorem c46o {H:PH} {cid:Nat} {c:Cs} {v:Nat} (ho:H[cid]? = some (cliO c v)) {bid:Nat} {okey:List UInt8} (hob:c.ob=.ptr (some (bid,0))) (hb:BoxAt H bid okey) (hu:isUseB c.ou=true) (q:RepI) (h1:q.r1=c.r) (h2:q.r2=c.n) (hop:openK okey c.ou q.bl=none) :
  CK prog 46 [.ptr (some (cid,0)),.agg q.cells] H fun x H'=>x=.tup [.agg [.str [],.str []],.agg zCrd.cells,.bool false]∧Evo (fun _=>False) H H':=by
 have e1:=((Xt.refl H).app [z36o]).app [z83c]
 have ho1:=e1.get ho
 have gA:=gA2 H z36o z83c
 have gB:=gB2 H z36o z83c z36o
 have hXl:(H++[z36o]++[z83c]).length=H.length+2:=by simp
 have hYl:(H++[z36o]).length=H.length+1:=by simp
 have hb1:=(Evo.xt (S:=fun _=>False) e1).box _ _ hb
 have hO:=openAt hb1 c.ou hu q.bl
 generalize hX:H++[z36o]++[z83c]=X at *
 obtain ⟨r1,r2,r3,r4,kv,tb,bl⟩:=q
 simp only at h1 h2 hO hop
 subst h1
 subst h2
 have ho1:X[cid]? = some (cliO { c with ob:=.ptr (some (bid,0)) } v):=by rw [←hob];exact ho1
 unfold openV at hO
 rw [hop] at hO
 (refine fnS (imm:=imm46) ttK_ok func46 ?_;(conv=>whnf))
 refine drawK_at hX ?_
 refine dP2 (by kernel_rfl) ?_
 conv=>whnf
 repeat (first | (first | ((first | (apply exA;(focus exact oN)) | refine bT ?_ | refine bF ?_ | refine bW (bT ?_) | refine bW (bF ?_) | (apply cP;(focus assumption)) | (apply cE;(focus assumption)) | refine ⟨by first | decide | omega,?_⟩);((conv=>whnf))) | ((conv in (_[_]?)=>tactic=>first | exact oL | exact gS (by assumption));(conv=>whnf))) | (refine dX ?_;(conv=>whnf)))
 refine drawK_call 12 D46a _ X (by kernel_rfl) rfl rfl trivial ?_
 conv=>whnf
 repeat (first | (first | ((first | (apply exA;(focus exact oN)) | refine bT ?_ | refine bF ?_ | refine bW (bT ?_) | refine bW (bF ?_) | (apply cP;(focus assumption)) | (apply cE;(focus assumption)) | refine ⟨by first | decide | omega,?_⟩);((conv=>whnf))) | ((conv in (_[_]?)=>tactic=>first | exact oL | exact gS (by assumption));(conv=>whnf))) | (refine dX ?_;(conv=>whnf)))
 refine cO hO ?_
 rintro _ H3 ⟨rfl,e3,hl3⟩
 have gA3:=e3.same _ _ gA id n36.1 n36.2
 have gB3:=e3.same _ _ gB id n83.1 n83.2
 have ho3:=e3.same _ _ ho1 id (cliT ..).1 (cliT ..).2
 have gC:(H3.set H.length (⟨36,z36o.cs,1⟩:PObj))[(H++[z36o]).length]? = some z83c:=by rw [zqj (by omega)];exact gB3
 have gD:((H3.set H.length (⟨36,z36o.cs,1⟩:PObj)).set (H++[z36o]).length (⟨83,z83c.cs,1⟩:PObj))[H.length]? = some ⟨36,z36o.cs,1⟩:=by rw [zqj (by omega)];exact gS gA3
 refine ⟨[X,H3],rfl,?_⟩
 conv=>whnf
 repeat (first | (first | ((first | (apply exA;(focus exact oN)) | refine bT ?_ | refine bF ?_ | refine bW (bT ?_) | refine bW (bF ?_) | (apply cP;(focus assumption)) | (apply cE;(focus assumption)) | refine ⟨by first | decide | omega,?_⟩);((conv=>whnf))) | ((conv in (_[_]?)=>tactic=>first | exact oL | exact gS (by assumption));(conv=>whnf))) | (refine dX ?_;(conv=>whnf)))
 exact ⟨rfl,(((Evo.xt e1).trans e3).own gA3 n36.1 n36.2 (zqn _) _).own gC n83.1 n83.2 (by omega) _⟩
def imm46x:List Nat:=[3,1000007]
def z123o:PObj:=⟨123,zRpt.cells,0⟩
theorem c46d {H:PH} {cid:Nat} {c:Cs} {v:Nat} (ho:H[cid]? = some (cliO c v)) {bid:Nat} {okey:List UInt8} (hob:c.ob=.ptr (some (bid,0))) (hb:BoxAt H bid okey) (hu:isUseB c.ou=true) (q:RepI) (h1:q.r1=c.r) (h2:q.r2=c.n) {p:List UInt8} (hop:openK okey c.ou q.bl=some p) (g:Rpt) (e:Int) (k89:Pure prog 89 [sl p] (.tup [.agg g.cells,.int .i64 e])) :
  CK prog 46 [.ptr (some (cid,0)),.agg q.cells] H fun x H'=>x=.tup [.agg [.str g.r,.str g.n],.agg (Crd.cells ⟨q.r3,q.r4,q.kv,q.b,g.k,g.en⟩),.bool (decide (e=0)&&decide (g.nc=c.on)&&(decide (g.r=q.r3)&&decide (g.n=q.r4)))]∧Evo (fun _=>False) H H':=by
 have e1:=((Xt.refl H).app [z36o]).app [z83c]
 have ho1:=e1.get ho
 have gA:=gA2 H z36o z83c
 have gB:=gB2 H z36o z83c z36o
 have hXl:(H++[z36o]++[z83c]).length=H.length+2:=by simp
 have hYl:(H++[z36o]).length=H.length+1:=by simp
 have hb1:=(Evo.xt (S:=fun _=>False) e1).box _ _ hb
 have hO:=openAt hb1 c.ou hu q.bl
 generalize hX:H++[z36o]++[z83c]=X at *
 obtain ⟨r1,r2,r3,r4,kv,tb,bl⟩:=q
 simp only at h1 h2 hO hop ⊢
 subst h1
 subst h2
 have ho1:X[cid]? = some (cliO { c with ob:=.ptr (some (bid,0)) } v):=by rw [←hob];exact ho1
 unfold openV at hO
 rw [hop] at hO
 (refine fnS (imm:=imm46x) ttK_ok func46 ?_;(conv=>whnf))
 refine drawK_at hX ?_
 refine dP2 (by kernel_rfl) ?_
 conv=>whnf
 repeat (first | (first | ((first | (apply exA;(focus exact oN)) | refine bT ?_ | refine bF ?_ | refine bW (bT ?_) | refine bW (bF ?_) | (apply cP;(focus assumption)) | (apply cE;(focus assumption)) | refine ⟨by first | decide | omega,?_⟩);((conv=>whnf))) | ((conv in (_[_]?)=>tactic=>first | exact oL | exact gS (by assumption));(conv=>whnf))) | (refine dX ?_;(conv=>whnf)))
 refine drawK_call 12 D46a _ X (by kernel_rfl) rfl rfl trivial ?_
 conv=>whnf
 repeat (first | (first | ((first | (apply exA;(focus exact oN)) | refine bT ?_ | refine bF ?_ | refine bW (bT ?_) | refine bW (bF ?_) | (apply cP;(focus assumption)) | (apply cE;(focus assumption)) | refine ⟨by first | decide | omega,?_⟩);((conv=>whnf))) | ((conv in (_[_]?)=>tactic=>first | exact oL | exact gS (by assumption));(conv=>whnf))) | (refine dX ?_;(conv=>whnf)))
 refine cO hO ?_
 rintro _ H3 ⟨rfl,e3,hl3⟩
 have gA3:=e3.same _ _ gA id n36.1 n36.2
 have gB3:=e3.same _ _ gB id n83.1 n83.2
 have ho3:=e3.same _ _ ho1 id (cliT ..).1 (cliT ..).2
 have hl3':H3.length=H.length+2:=by rw [hl3,←hX];simp
 have e4:=((Xt.refl H3).app [z123o]).set (zqn _) (⟨123,g.cells,1⟩:PObj)
 have gT0:=gL H3 z123o
 have gT:((H3++[z123o]).set H3.length (⟨123,g.cells,1⟩:PObj))[H3.length]? = some ⟨123,g.cells,1⟩:=gS gT0
 have gA4:=e4.get gA3
 have gB4:=e4.get gB3
 have ho4:=e4.get ho3
 have gA5:(((H3++[z123o]).set H3.length (⟨123,g.cells,1⟩:PObj)).set H.length (⟨36,[.str g.r,.str g.n],1⟩:PObj))[H.length]? = some ⟨36,[.str g.r,.str g.n],1⟩:=gS gA4
 have gB5:(((H3++[z123o]).set H3.length (⟨123,g.cells,1⟩:PObj)).set H.length (⟨36,[.str g.r,.str g.n],1⟩:PObj))[(H++[z36o]).length]? = some z83c:=by rw [zqj (by omega)];exact gB4
 have gT5:(((H3++[z123o]).set H3.length (⟨123,g.cells,1⟩:PObj)).set H.length (⟨36,[.str g.r,.str g.n],1⟩:PObj))[H3.length]? = some ⟨123,g.cells,1⟩:=by rw [zqj (by omega)];exact gT
 have gA6:((((H3++[z123o]).set H3.length (⟨123,g.cells,1⟩:PObj)).set H.length (⟨36,[.str g.r,.str g.n],1⟩:PObj)).set (H++[z36o]).length (⟨83,Crd.cells ⟨r3,r4,kv,tb,g.k,g.en⟩,1⟩:PObj))[H.length]? = some ⟨36,[.str g.r,.str g.n],1⟩:=by rw [zqj (by omega)];exact gA5
 have fin:Evo (fun _=>False) H ((((H3++[z123o]).set H3.length (⟨123,g.cells,1⟩:PObj)).set H.length (⟨36,[.str g.r,.str g.n],1⟩:PObj)).set (H++[z36o]).length (⟨83,Crd.cells ⟨r3,r4,kv,tb,g.k,g.en⟩,1⟩:PObj)):=((((Evo.xt e1).trans e3).trans (Evo.xt e4)).own gA4 n36.1 n36.2 (zqn _) _).own gB5 n83.1 n83.2 (by omega) _
 refine ⟨[X,H3],rfl,?_⟩
 conv=>whnf
 repeat (first | (first | ((first | (apply exA;(focus exact oN)) | refine bT ?_ | refine bF ?_ | refine bW (bT ?_) | refine bW (bF ?_) | (apply cP;(focus assumption)) | (apply cE;(focus assumption)) | refine ⟨by first | decide | omega,?_⟩);((conv=>whnf))) | ((conv in (_[_]?)=>tactic=>first | exact oL | exact gS (by assumption));(conv=>whnf))) | (refine dX ?_;(conv=>whnf)))
 refine cutK_of [(0,.ptr (some (cid,0))),(3,.elem [.str c.r,.str c.n,.str r3,.str r4,.int .i64 kv,sl tb,sl bl]),(4,.ptr (some (H.length,0))),(5,.ptr (some ((H++[z36o]).length,0))),(9,.ptr (some (H3.length,0))),(10,.bool (decide (e=0)&&decide (g.nc=c.on)&&(decide (g.r=r3)&&decide (g.n=r4))))] ((H3++[z123o]).set H3.length (⟨123,g.cells,1⟩:PObj)) ?_ ?_
 ·conv=>whnf
  refine drawK_of3 D46b [((H3++[z123o]).set H3.length (⟨123,g.cells,1⟩:PObj)),(((H3++[z123o]).set H3.length (⟨123,g.cells,1⟩:PObj)).set H.length (⟨36,[.str g.r,.str g.n],1⟩:PObj)),((((H3++[z123o]).set H3.length (⟨123,g.cells,1⟩:PObj)).set H.length (⟨36,[.str g.r,.str g.n],1⟩:PObj)).set (H++[z36o]).length (⟨83,Crd.cells ⟨r3,r4,kv,tb,g.k,g.en⟩,1⟩:PObj))] _ (by kernel_rfl) rfl trivial rfl ?_
  conv=>whnf
  repeat (first | (first | ((first | (apply exA;(focus exact oN)) | refine bT ?_ | refine bF ?_ | refine bW (bT ?_) | refine bW (bF ?_) | (apply cP;(focus assumption)) | (apply cE;(focus assumption)) | refine ⟨by first | decide | omega,?_⟩);((conv=>whnf))) | ((conv in (_[_]?)=>tactic=>first | exact oL | exact gS (by assumption));(conv=>whnf))) | (refine dX ?_;(conv=>whnf)))
  exact ⟨rfl,fin⟩
 clear fin gA6 gA5 gB5 gT5 e4 gA4 gB4 gT0 ho3 gB3 gA3 e3 hl3 hl3' hop hO gA gB ho1 e1 hXl hYl hb hb1
 by_cases he:e=0
 ·by_cases hn:g.nc=c.on
  ·by_cases hr:g.r=r3∧g.n=r4
   ·have hP:[PV.str g.r,.str g.n]=[PV.str r3,.str r4]:=by rw [hr.1,hr.2]
    rw [zqe he,zqe hn,zqe hr.1,zqe hr.2]
    refine dP2 (by kernel_rfl) ?_
    conv=>whnf
    repeat (first | (first | ((first | (apply exA;(focus exact oN)) | refine bT ?_ | refine bF ?_ | refine bW (bT ?_) | refine bW (bF ?_) | (apply cP;(focus assumption)) | (apply cE;(focus assumption)) | refine ⟨by first | decide | omega,?_⟩);((conv=>whnf))) | ((conv in (_[_]?)=>tactic=>first | exact oL | exact gS (by assumption));(conv=>whnf))) | (refine dX ?_;(conv=>whnf)))
    exact ⟨(),trivial,⟨rfl,rfl,rfl,rfl,rfl,rfl,zqv⟩,rfl⟩
   ·have hP:¬([PV.str g.r,.str g.n]=[PV.str r3,.str r4]):=fun h=>by
     injection h with h1 h2
     injection h1 with h1
     injection h2 with h2 _
     injection h2 with h2
     exact hr ⟨h1,h2⟩
    have hb2:(decide (g.r=r3)&&decide (g.n=r4))=false:=by
     cases hd:(decide (g.r=r3)&&decide (g.n=r4))
     ·rfl
     ·rw [zqb] at hd
      exact absurd ⟨of_decide_eq_true hd.1,of_decide_eq_true hd.2⟩ hr
    rw [zqe he,zqe hn,hb2]
    refine dP2 (by kernel_rfl) ?_
    conv=>whnf
    repeat (first | (first | ((first | (apply exA;(focus exact oN)) | refine bT ?_ | refine bF ?_ | refine bW (bT ?_) | refine bW (bF ?_) | (apply cP;(focus assumption)) | (apply cE;(focus assumption)) | refine ⟨by first | decide | omega,?_⟩);((conv=>whnf))) | ((conv in (_[_]?)=>tactic=>first | exact oL | exact gS (by assumption));(conv=>whnf))) | (refine dX ?_;(conv=>whnf)))
    exact ⟨(),trivial,⟨rfl,rfl,rfl,rfl,rfl,rfl,zqv⟩,rfl⟩
  ·rw [zqe he,zqd hn]
   refine dP2 (by kernel_rfl) ?_
   conv=>whnf
   repeat (first | (first | ((first | (apply exA;(focus exact oN)) | refine bT ?_ | refine bF ?_ | refine bW (bT ?_) | refine bW (bF ?_) | (apply cP;(focus assumption)) | (apply cE;(focus assumption)) | refine ⟨by first | decide | omega,?_⟩);((conv=>whnf))) | ((conv in (_[_]?)=>tactic=>first | exact oL | exact gS (by assumption));(conv=>whnf))) | (refine dX ?_;(conv=>whnf)))
   exact ⟨(),trivial,⟨rfl,rfl,rfl,rfl,rfl,rfl,zqv⟩,rfl⟩
 ·rw [zqd he]
  refine dP2 (by kernel_rfl) ?_
  conv=>whnf
  repeat (first | (first | ((first | (apply exA;(focus exact oN)) | refine bT ?_ | refine bF ?_ | refine bW (bT ?_) | refine bW (bF ?_) | (apply cP;(focus assumption)) | (apply cE;(focus assumption)) | refine ⟨by first | decide | omega,?_⟩);((conv=>whnf))) | ((conv in (_[_]?)=>tactic=>first | exact oL | exact gS (by assumption));(conv=>whnf))) | (refine dX ?_;(conv=>whnf)))
  exact ⟨(),trivial,⟨rfl,rfl,rfl,rfl,rfl,rfl,zqv⟩,rfl⟩
def noAns (m:Msg) (e:Int) (c:Cs):Prop:=e≠0∨(m.kind≠5∧m.kind≠3)∨(m.kind=5∧m.fNonce≠c.on)
theorem c17n {H:PH} {cid mid:Nat} {c:Cs} {L:List Crd} (hC:Cl H cid mid c L) (hst:c.st=1) (b:List UInt8) (m:Msg) (e:Int) (hd:Pure prog 44 [sl b] (.tup [.agg m.d.cells,.int .i64 e])) (now:Int) (h0:0≤now) (h1:now≤1073741824) (hno:noAns m e c) :
  CK prog 17 [.ptr (some (cid,0)),sl b,.int .i64 now] H fun r H'=>r=.tup [.str [],.slice 0 [] (some 5)]∧Evo (fun _=>False) H H':=by
 obtain ⟨v,ho⟩:=hC.o
 have hss:¬c.st≠1:=fun h=>h hst
 have k39:Pure prog 39 [.int .i64 now] (.bool true):=(c39 now).of_eq (by rw [inZ_of h0 h1])
 have e1:=((Xt.refl H).app [z63o]).set (zqn _) (⟨63,m.d.cells,1⟩:PObj)
 have g0:=gL H z63o
 have g1:((H++[z63o]).set H.length (⟨63,m.d.cells,1⟩:PObj))[H.length]? = some ⟨63,m.d.cells,1⟩:=gS g0
 have ho1:=e1.get ho
 rcases hno with he | ⟨hk5,hk3⟩ | ⟨hk,hn⟩
 ·(refine fnS (imm:=imm17) ttK_ok func17 ?_;(conv=>whnf))
  repeat (first | (first | ((first | (apply exA;(focus exact oN)) | refine bT ?_ | refine bF ?_ | refine bW (bT ?_) | refine bW (bF ?_) | (apply cP;(focus assumption)) | (apply cE;(focus assumption)) | refine ⟨by first | decide | omega,?_⟩);((conv=>whnf))) | ((conv in (_[_]?)=>tactic=>first | exact oL | exact gS (by assumption));(conv=>whnf))) | (refine dX ?_;(conv=>whnf)))
  exact ⟨rfl,Evo.xt e1⟩
 ·by_cases he:e=0
  ·(refine fnS (imm:=imm17) ttK_ok func17 ?_;(conv=>whnf))
   repeat (first | (first | ((first | (apply exA;(focus exact oN)) | refine bT ?_ | refine bF ?_ | refine bW (bT ?_) | refine bW (bF ?_) | (apply cP;(focus assumption)) | (apply cE;(focus assumption)) | refine ⟨by first | decide | omega,?_⟩);((conv=>whnf))) | ((conv in (_[_]?)=>tactic=>first | exact oL | exact gS (by assumption));(conv=>whnf))) | (refine dX ?_;(conv=>whnf)))
   exact ⟨rfl,Evo.xt e1⟩
  ·(refine fnS (imm:=imm17) ttK_ok func17 ?_;(conv=>whnf))
   repeat (first | (first | ((first | (apply exA;(focus exact oN)) | refine bT ?_ | refine bF ?_ | refine bW (bT ?_) | refine bW (bF ?_) | (apply cP;(focus assumption)) | (apply cE;(focus assumption)) | refine ⟨by first | decide | omega,?_⟩);((conv=>whnf))) | ((conv in (_[_]?)=>tactic=>first | exact oL | exact gS (by assumption));(conv=>whnf))) | (refine dX ?_;(conv=>whnf)))
   exact ⟨rfl,Evo.xt e1⟩
 ·by_cases he:e=0
  ·(refine fnS (imm:=imm17) ttK_ok func17 ?_;(conv=>whnf))
   repeat (first | (first | ((first | (apply exA;(focus exact oN)) | refine bT ?_ | refine bF ?_ | refine bW (bT ?_) | refine bW (bF ?_) | (apply cP;(focus assumption)) | (apply cE;(focus assumption)) | refine ⟨by first | decide | omega,?_⟩);((conv=>whnf))) | ((conv in (_[_]?)=>tactic=>first | exact oL | exact gS (by assumption));(conv=>whnf))) | (refine dX ?_;(conv=>whnf)) | (refine dP2 (by kernel_rfl) ?_;(conv=>whnf)))
   exact ⟨rfl,Evo.xt e1⟩
  ·(refine fnS (imm:=imm17) ttK_ok func17 ?_;(conv=>whnf))
   repeat (first | (first | ((first | (apply exA;(focus exact oN)) | refine bT ?_ | refine bF ?_ | refine bW (bT ?_) | refine bW (bF ?_) | (apply cP;(focus assumption)) | (apply cE;(focus assumption)) | refine ⟨by first | decide | omega,?_⟩);((conv=>whnf))) | ((conv in (_[_]?)=>tactic=>first | exact oL | exact gS (by assumption));(conv=>whnf))) | (refine dX ?_;(conv=>whnf)))
   exact ⟨rfl,Evo.xt e1⟩
def Msg.repI (m:Msg):RepI:=⟨m.r1,m.r2,m.r3,m.r4,m.rKv,m.rB,m.rBl⟩
theorem c17o {H:PH} {cid mid:Nat} {c:Cs} {L:List Crd} (hC:Cl H cid mid c L) (hst:c.st=1) (b:List UInt8) (m:Msg) (hd:Pure prog 44 [sl b] (.tup [.agg m.d.cells,.int .i64 0])) (now:Int) (h0:0≤now) (h1:now≤1073741824) (hk:m.kind=3)
  (sr sn:List UInt8) (x:Crd) (hg:∀X,Evo (fun _=>False) H X→CK prog 46 [.ptr (some (cid,0)),.agg m.repI.cells] X fun r H'=>r=.tup [.agg [.str sr,.str sn],.agg x.cells,.bool false]∧Evo (fun _=>False) X H') :
  CK prog 17 [.ptr (some (cid,0)),sl b,.int .i64 now] H fun r H'=>r=.tup [.str [],.slice 0 [] (some 5)]∧Evo (fun _=>False) H H':=by
 obtain ⟨v,ho⟩:=hC.o
 have k39:Pure prog 39 [.int .i64 now] (.bool true):=(c39 now).of_eq (by rw [inZ_of h0 h1])
 have e1:=((Xt.refl H).app [z63o]).set (zqn _) (⟨63,m.d.cells,1⟩:PObj)
 have g0:=gL H z63o
 have g1:((H++[z63o]).set H.length (⟨63,m.d.cells,1⟩:PObj))[H.length]? = some ⟨63,m.d.cells,1⟩:=gS g0
 have ho1:=e1.get ho
 have kg:=hg _ (Evo.xt e1)
 have hk5:m.kind≠5:=by omega
 (refine fnS (imm:=imm17) ttK_ok func17 ?_;(conv=>whnf))
 repeat (first | (first | ((first | (apply exA;(focus exact oN)) | refine bT ?_ | refine bF ?_ | refine bW (bT ?_) | refine bW (bF ?_) | (apply cP;(focus assumption)) | (apply cE;(focus assumption)) | refine ⟨by first | decide | omega,?_⟩);((conv=>whnf))) | ((conv in (_[_]?)=>tactic=>first | exact oL | exact gS (by assumption));(conv=>whnf))) | (refine dX ?_;(conv=>whnf)))
 refine cO kg ?_
 rintro _ H3 ⟨rfl,e3⟩
 have e4:=(((Xt.refl H3).app [z36o]).app [z83c])
 have gA:=gA2 H3 z36o z83c
 have gB:((H3++[z36o]++[z83c]).set H3.length (⟨36,[.str sr,.str sn],1⟩:PObj))[(H3++[z36o]).length]? = some z83c:=by rw [zqj (by simp)];exact gB2 H3 z36o z83c z36o
 have e5:=(e4.set (zqn _) (⟨36,[.str sr,.str sn],1⟩:PObj)).set (show H3.length≤(H3++[z36o]).length by simp) (⟨83,x.cells,1⟩:PObj)
 conv=>whnf
 repeat (first | (first | ((first | (apply exA;(focus exact oN)) | refine bT ?_ | refine bF ?_ | refine bW (bT ?_) | refine bW (bF ?_) | (apply cP;(focus assumption)) | (apply cE;(focus assumption)) | refine ⟨by first | decide | omega,?_⟩);((conv=>whnf))) | ((conv in (_[_]?)=>tactic=>first | exact oL | exact gS (by assumption));(conv=>whnf))) | (refine dX ?_;(conv=>whnf)))
 exact ⟨rfl,(Evo.xt e1).trans (e3.trans (Evo.xt e5))⟩
theorem o4 {A:Prop} (h:A:=by
 (conv=>whnf);apply And.intro
 ·exact oN
 ·exact o3):A:=h
theorem o5 {A:Prop} (h:A:=by
 (conv=>whnf);apply And.intro
 ·exact oN
 ·exact o4):A:=h
theorem dY {O R:PV→Prop} {v:PV} (k:R v) (h:O v:=by first | exact o4 | exact o5):∃v,O v∧R v:=⟨v,h,k⟩
def D14a:Draw:={ imp:=[8,11,14,17,20],win:=[(1,0,1),(2,0,2),(3,0,3),(4,0,4),(5,0,3),(9,1,1),(10,1,1),(11,1,1),(12,2,2),(13,2,2),(14,2,2),(15,3,3),(16,3,3),(17,3,3),(18,4,4),(19,4,4),(20,4,4)] }
def D14b (b:Nat):Draw:={ imp:=[12],win:=[(10,0,1),(13,1,1)],robs:=[z83c],res:=[(11,0)],base:=b }
def Cs.beg (c:Cs) (tr tn:List UInt8):Cs:={ c with st:=1,er:=0,se:=0,tr:=tr,tn:=tn,vis:=.nilS }
theorem c14f {H:PH} {cid mid:Nat} {c:Cs} {L:List Crd} (hC:Cl H cid mid c L) (hst:c.st≠1) (hr:c.r.length≤1000000) (tr tn:List UInt8) (h1:tr.length≤1000000) (h2:tn.length≤1000000) (hu:isUserB tr tn=true) (now:Int) (hn0:0≤now) (hn1:now≤1073741824)
  (hf:findL c.r (krb c.r) L=none∨∃y,findL c.r (krb c.r) L=some y∧y.en<now)
  (hm:msgOk (asM c.r c.n (tillI now) (c.nn+1)).d) (h0:0≤c.nn) (h3:c.nn≤100000) :
  ∃H1 bid,BoxAt H1 bid (keyB c.k)∧Cl H1 cid mid ((c.beg tr tn).out (.ptr (some (bid,0))) 3 true) L∧Evo (Wc cid mid) H H1∧CK prog 14 [.ptr (some (cid,0)),.agg [.str tr,.str tn],.int .i64 now] H fun r H'=>r=.tup [.str c.r,sl (laidB (asM c.r c.n (tillI now) (c.nn+1))),.int .i64 0]∧H'=H1:=by
 obtain ⟨v,ho⟩:=hC.o
 have k38:Pure prog 38 [.agg [.str tr,.str tn]] (.bool true):=(c38 tr tn (by omega) (by omega)).of_eq (by rw [hu])
 have k39:Pure prog 39 [.int .i64 now] (.bool true):=(c39 now).of_eq (by rw [inZ_of hn0 hn1])
 obtain ⟨hC1,e1⟩:=hC.put { c with st:=1 } rfl (v+1)
 have ho1:=gS (o':=cliO { c with st:=1 } (v+1)) ho
 obtain ⟨hC2,e2⟩:=hC1.put { c with st:=1,er:=0 } rfl (v+2)
 have ho2:=gS (o':=cliO { c with st:=1,er:=0 } (v+2)) ho1
 obtain ⟨hC3,e3⟩:=hC2.put { c with st:=1,er:=0,se:=0 } rfl (v+3)
 have ho3:=gS (o':=cliO { c with st:=1,er:=0,se:=0 } (v+3)) ho2
 obtain ⟨hC4,e4⟩:=hC3.put { c with st:=1,er:=0,se:=0,tr:=tr,tn:=tn } rfl (v+4)
 have ho4:=gS (o':=cliO { c with st:=1,er:=0,se:=0,tr:=tr,tn:=tn } (v+4)) ho3
 obtain ⟨hC5,e5⟩:=hC4.put (c.beg tr tn) rfl (v+5)
 have ho5:=gS (o':=cliO (c.beg tr tn) (v+5)) ho4
 have E5:=(((e1.trans e2).trans e3).trans e4).trans e5
 generalize hY5:(((((H.set cid (cliO { c with st:=1 } (v+1))).set cid (cliO { c with st:=1,er:=0 } (v+2))).set cid (cliO { c with st:=1,er:=0,se:=0 } (v+3))).set cid (cliO { c with st:=1,er:=0,se:=0,tr:=tr,tn:=tn } (v+4))).set cid (cliO (c.beg tr tn) (v+5)))=Y5 at hC5 E5 ho5
 clear hC1 hC2 hC3 hC4 e1 e2 e3 e4 e5
 have x6:=(Xt.refl Y5).app [z83c]
 have hC6:=hC5.xt x6
 have g6:=gL Y5 z83c
 obtain ⟨v6,ho6⟩:=hC6.o
 obtain ⟨w6,ha6⟩:=hC6.a
 obtain ⟨u6,hm6⟩:=hC6.m.ex
 have k41:=c41 ho6 hr
 have k40:CK prog 40 [.ptr (some (c.ca,0)),.agg [.str c.r,.str (krb c.r)],.int .i64 now] (Y5++[z83c]) fun x H'=>x=.tup [.agg zCrd.cells,.bool false]∧H'=Y5++[z83c]:=by
  rcases hf with hf | ⟨y,hf,hy⟩
  ·exact c40n now ha6 hm6 hf
  ·exact c40o now ha6 hm6 hf hy
 have x7:=x6.set (zqn _) (⟨83,zCrd.cells,1⟩:PObj)
 generalize hY7:(Y5++[z83c]).set Y5.length (⟨83,zCrd.cells,1⟩:PObj)=Y7 at *
 have hC7:=hC5.xt x7
 obtain ⟨H1,bid,hb,hC8,e8,k43⟩:=c43 hC7 now hn0 hn1 hr hm h0 h3 (Int.le_refl _) (by show (0:Int)≤100000;omega)
 refine ⟨H1,bid,hb,hC8,(E5.trans ((Evo.xt x7).trans e8)).c,?_⟩
 clear hb hC8 e8 hC7 x7 hm6 ha6 hC6 x6 E5 hC5 hf hm hC
 (refine fnS (imm:=imm14) ttK_ok func14 ?_;(conv=>whnf))
 repeat (first | (first | ((first | (apply exA;(focus exact oN)) | refine bT ?_ | refine bF ?_ | refine bW (bT ?_) | refine bW (bF ?_) | (apply cP;(focus assumption)) | (apply cE;(focus assumption)) | refine ⟨by first | decide | omega,?_⟩);((conv=>whnf))) | ((conv in (_[_]?)=>tactic=>first | exact oL | exact gS (by assumption));(conv=>whnf))) | (refine dX ?_;(conv=>whnf)))
 refine drawK_of3 D14a [H,(H.set cid (cliO { c with st:=1 } (v+1))),((H.set cid (cliO { c with st:=1 } (v+1))).set cid (cliO { c with st:=1,er:=0 } (v+2))),(((H.set cid (cliO { c with st:=1 } (v+1))).set cid (cliO { c with st:=1,er:=0 } (v+2))).set cid (cliO { c with st:=1,er:=0,se:=0 } (v+3))),((((H.set cid (cliO { c with st:=1 } (v+1))).set cid (cliO { c with st:=1,er:=0 } (v+2))).set cid (cliO { c with st:=1,er:=0,se:=0 } (v+3))).set cid (cliO { c with st:=1,er:=0,se:=0,tr:=tr,tn:=tn } (v+4))),(((((H.set cid (cliO { c with st:=1 } (v+1))).set cid (cliO { c with st:=1,er:=0 } (v+2))).set cid (cliO { c with st:=1,er:=0,se:=0 } (v+3))).set cid (cliO { c with st:=1,er:=0,se:=0,tr:=tr,tn:=tn } (v+4))).set cid (cliO (c.beg tr tn) (v+5)))] _ (by kernel_rfl) rfl trivial hY5 ?_
 conv=>whnf
 repeat (first | (first | ((first | (apply exA;(focus exact oN)) | refine bT ?_ | refine bF ?_ | refine bW (bT ?_) | refine bW (bF ?_) | (apply cP;(focus assumption)) | (apply cE;(focus assumption)) | refine ⟨by first | decide | omega,?_⟩);((conv=>whnf))) | ((conv in (_[_]?)=>tactic=>first | exact oL | exact gS (by assumption));(conv=>whnf))) | (refine dX ?_;(conv=>whnf)) | (refine dY ?_;(conv=>whnf)))
 refine drawK_of3 (D14b Y5.length) [Y5++[z83c],(Y5++[z83c]).set Y5.length (⟨83,zCrd.cells,1⟩:PObj)] _ (by kernel_rfl) ⟨rfl,rfl⟩ trivial hY7 ?_
 conv=>whnf
 exact wX
theorem c14s {H:PH} {cid:Nat} {c:Cs} {v:Nat} (ho:H[cid]? = some (cliO c v)) (hst:c.st=1) (tr tn:List UInt8) (now:Int) :
  CK prog 14 [.ptr (some (cid,0)),.agg [.str tr,.str tn],.int .i64 now] H fun r H'=>r=.tup [.str [],.slice 0 [] (some 5),.int .i64 16]∧H'=H:=by
 (refine fnS (imm:=imm14) ttK_ok func14 ?_;(conv=>whnf))
 exact wX
theorem c20 {H:PH} {cid:Nat} {c:Cs} {v:Nat} (ho:H[cid]? = some (cliO c v)) :
  CK prog 20 [.ptr (some (cid,0))] H fun r H'=>r=.tup [.int .i64 c.st,.int .i64 c.er,.int .i64 c.se]∧H'=H:=by
 (refine fnS (imm:=imm20) ttK_ok func20 ?_;(conv=>whnf))
 repeat (first | (first | ((first | (apply exA;(focus exact oN)) | refine bT ?_ | refine bF ?_ | refine bW (bT ?_) | refine bW (bF ?_) | (apply cP;(focus assumption)) | (apply cE;(focus assumption)) | refine ⟨by first | decide | omega,?_⟩);((conv=>whnf))) | ((conv in (_[_]?)=>tactic=>first | exact oL | exact gS (by assumption));(conv=>whnf))) | (refine dX ?_;(conv=>whnf)) | (refine dP2 (by kernel_rfl) ?_;(conv=>whnf)))
 exact ⟨rfl,rfl⟩
theorem c77 (H:PH):CK prog 77 [] H fun r H'=>r=.ptr (some (H.length+1,0))∧H'=H++[mapO [] 0]++[cacheO H.length 0]:=by
 have hl:(H++[mapO [] 0]).length=H.length+1:=by simp
 (refine fnS (imm:=imm77) ttK_ok func77 ?_;(conv=>whnf))
 exact ⟨zqm (fun i=>PV.ptr (some (i,0))) hl,rfl⟩
def cli0 (r n:List UInt8) (k:Nat→UInt8) (ca:Nat):Cs:=⟨r,n,k,ca,0,0,0,0,0,0,[],[],.slice 0 [] (some 9),0,.ptr none,0,false⟩
def D34:Draw:={ imp:=[2,4],win:=[(0,0,1),(1,0,1),(3,1,1),(4,1,1),(5,2,2),(6,2,2)] }
theorem c34 (H:PH) (r n:List UInt8) (k:Nat→UInt8) (h1:r.length≤1000000) (h2:n.length≤1000000) (hu:isUserB r n=true) :
  ∃H1 cid mid,Cl H1 cid mid (cli0 r n k (mid+1)) []∧Evo (fun _=>False) H H1∧H.length≤mid∧H.length≤cid∧CK prog 34 [.agg [.str r,.str n],.agg (keyC k)] H fun x H'=>x=.tup [.ptr (some (cid,0)),.int .i64 0]∧H'=H1:=by
 have k38:Pure prog 38 [.agg [.str r,.str n]] (.bool true):=(c38 r n (by omega) (by omega)).of_eq (by rw [hu])
 have k77:=c77 H
 have e1:=((Xt.refl H).app [mapO [] 0]).app [cacheO H.length 0]
 have ga:=gA2 H (mapO [] 0) (cacheO H.length 0)
 have gb:=gL (H++[mapO [] 0]) (cacheO H.length 0)
 have hl:(H++[mapO [] 0]).length=H.length+1:=by simp
 rw [hl] at gb
 have hl2:(H++[mapO [] 0]++[cacheO H.length 0]).length=H.length+2:=by simp
 generalize hX:H++[mapO [] 0]++[cacheO H.length 0]=X at *
 have e2:=(Xt.refl X).app [cliO (cli0 r n k (H.length+1)) 0]
 refine ⟨X++[cliO (cli0 r n k (H.length+1)) 0],X.length,H.length,⟨⟨0,gL _ _⟩,⟨0,e2.get gb⟩,⟨0,e2.get ga⟩⟩,(Evo.xt e1).trans (Evo.xt e2),zqn _,by omega,?_⟩
 (refine fnS (imm:=imm34) ttK_ok func34 ?_;(conv=>whnf))
 repeat (first | (first | ((first | (apply exA;(focus exact oN)) | refine bT ?_ | refine bF ?_ | refine bW (bT ?_) | refine bW (bF ?_) | (apply cP;(focus assumption)) | (apply cE;(focus assumption)) | refine ⟨by first | decide | omega,?_⟩);((conv=>whnf))) | ((conv in (_[_]?)=>tactic=>first | exact oL | exact gS (by assumption));(conv=>whnf))) | (refine dX ?_;(conv=>whnf)))
 refine drawK_of3 D34 [H,X,X++[cliO (cli0 r n k (H.length+1)) 0]] _ (by kernel_rfl) rfl trivial rfl ?_
 conv=>whnf
 exact wX
/-! The laws' own: ann, mail, what is out. -/
def aR:List UInt8:=[65]
def aN:List UInt8:=[97,110,110]
def sR:List UInt8:=[83]
def mN:List UInt8:=[109,97,105,108]
def k9:Nat→UInt8:=fun i=>if i=0 then 9 else 0
def sesF (n:Int):Nat→UInt8:=fun i=>if i=0 then byteI n else if i=1 then byteI (ishr .i64 n 8) else if i=2 then 3 else 0
theorem c25:Pure prog 25 [] (.agg [.str aR,.str aN]):=by
 refine Pure.of_gc rfl fun H=>?_
 have e1:=((Xt.refl H).app [z36o]).set (zqn _) (⟨36,[.str aR,.str aN],1⟩:PObj)
 have g1:=gL H z36o
 (refine fnS (imm:=imm25) ttK_ok func25 ?_;(conv=>whnf))
 repeat (first | (first | ((first | (apply exA;(focus exact oN)) | refine bT ?_ | refine bF ?_ | refine bW (bT ?_) | refine bW (bF ?_) | (apply cP;(focus assumption)) | (apply cE;(focus assumption)) | refine ⟨by first | decide | omega,?_⟩);((conv=>whnf))) | ((conv in (_[_]?)=>tactic=>first | exact oL | exact gS (by assumption));(conv=>whnf))) | (refine dX ?_;(conv=>whnf)))
 exact ⟨rfl,e1⟩
theorem c15:Pure prog 15 [] (.agg [.str sR,.str mN]):=by
 refine Pure.of_gc rfl fun H=>?_
 have e1:=((Xt.refl H).app [z36o]).set (zqn _) (⟨36,[.str sR,.str mN],1⟩:PObj)
 have g1:=gL H z36o
 (refine fnS (imm:=imm15) ttK_ok func15 ?_;(conv=>whnf))
 repeat (first | (first | ((first | (apply exA;(focus exact oN)) | refine bT ?_ | refine bF ?_ | refine bW (bT ?_) | refine bW (bF ?_) | (apply cP;(focus assumption)) | (apply cE;(focus assumption)) | refine ⟨by first | decide | omega,?_⟩);((conv=>whnf))) | ((conv in (_[_]?)=>tactic=>first | exact oL | exact gS (by assumption));(conv=>whnf))) | (refine dX ?_;(conv=>whnf)))
 exact ⟨rfl,e1⟩
def z31o:PObj:=⟨31,List.replicate 32 (.int .u8 0),0⟩
def sesC (n:Int):List PV:=[.int .u8 (IntKind.u8.wrap n),.int .u8 (IntKind.u8.wrap (ishr .i64 n 8)),.int .u8 3]++List.replicate 29 (.int .u8 0)
theorem sesC_eq (n:Int):sesC n=keyC (sesF n):=by
 unfold sesC
 rw [byteC_I,byteC_I];rfl
theorem c26 (n:Int):Pure prog 26 [.int .i64 n] (.agg (keyC (sesF n))):=by
 rw [←sesC_eq]
 refine Pure.of_gc rfl fun H=>?_
 have e1:=((Xt.refl H).app [z31o]).set (zqn _) (⟨31,sesC n,1⟩:PObj)
 have g1:=gL H z31o
 (refine fnS (imm:=imm26) ttK_ok func26 ?_;(conv=>whnf))
 repeat (first | (first | ((first | (apply exA;(focus exact oN)) | refine bT ?_ | refine bF ?_ | refine bW (bT ?_) | refine bW (bF ?_) | (apply cP;(focus assumption)) | (apply cE;(focus assumption)) | refine ⟨by first | decide | omega,?_⟩);((conv=>whnf))) | ((conv in (_[_]?)=>tactic=>first | exact oL | exact gS (by assumption));(conv=>whnf))) | (refine dX ?_;(conv=>whnf)))
 exact ⟨rfl,e1⟩
theorem c37 (H:PH) (r n:List UInt8) (k:Nat→UInt8) (h1:r.length≤1000000) (h2:n.length≤1000000) (hu:isUserB r n=true) :
  ∃o:PObj,o.T=90∧CK prog 37 [.agg [.str r,.str n],.agg (keyC k)] H fun x H'=>x=.tup [.ptr (some (H.length,0)),.int .i64 0]∧H'=H++[o]:=by
 have k35:=c35 n (by omega)
 have k36:=c36 r n (by omega) (by omega)
 unfold isUserB at hu
 rw [zqb,Bool.not_eq_true'] at hu
 rw [hu.1] at k36
 rw [hu.2] at k35
 refine ⟨⟨90,[.str r,.str n]++keyC k++([.slice 0 [] (some 156)]++List.replicate 6 (.int .i64 0)++[.str [],.str [],.slice 0 [] (some 9)]++List.replicate 32 (.int .u8 0)++[.int .i64 0,.bool false]),0⟩,rfl,?_⟩
 (refine fnS (imm:=imm37) ttK_ok func37 ?_;(conv=>whnf))
 exact wX
def pairO (cid xid:Nat) (n:Int) (k:Nat→UInt8) (u:Int) (v:Nat):PObj:=⟨33,[.ptr (some (cid,0)),.ptr (some (xid,0)),.int .i64 n]++keyC k++[.int .i64 u],v⟩
theorem pairT (cid xid:Nat) (n:Int) (k:Nat→UInt8) (u:Int) (v:Nat):(pairO cid xid n k u v).T≠keyT∧(pairO cid xid n k u v).T≠boxT:=⟨fun h=>absurd (show 33=keyT from h) (by decide),fun h=>absurd (show 33=boxT from h) (by decide)⟩
structure Pr (H:PH) (pid xid cid mid:Nat) (n:Int) (k:Nat→UInt8) (u:Int) (c:Cs) (L:List Crd):Prop where
 p:∃v,H[pid]? = some (pairO cid xid n k u v)
 cl:Cl H cid mid c L
theorem Pr.ne {H:PH} {pid xid cid mid:Nat} {n:Int} {k:Nat→UInt8} {u:Int} {c:Cs} {L:List Crd} (h:Pr H pid xid cid mid n k u c L):pid≠cid∧pid≠c.ca∧pid≠mid:=by
 obtain ⟨⟨v,h0⟩,⟨⟨w,h1⟩,⟨x,h2⟩,⟨y,h3⟩⟩⟩:=h
 exact ⟨ne_of_T h0 h1 (show 33≠110 by decide),ne_of_T h0 h2 (show 33≠160 by decide),ne_of_T h0 h3 (show 33≠158 by decide)⟩
theorem Pr.go {H H':PH} {pid xid cid mid:Nat} {n:Int} {k:Nat→UInt8} {u:Int} {c c':Cs} {L L':List Crd} (h:Pr H pid xid cid mid n k u c L) (e:Evo (Wc cid mid) H H') (hc:Cl H' cid mid c' L'):Pr H' pid xid cid mid n k u c' L':=by
 obtain ⟨h1,h2,h3⟩:=h.ne
 obtain ⟨v,h0⟩:=h.p
 exact ⟨⟨v,e.same _ _ h0 (fun h=>h.elim h1 h3) (pairT ..).1 (pairT ..).2⟩,hc⟩
theorem Pr.stay {H H':PH} {pid xid cid mid:Nat} {n:Int} {k:Nat→UInt8} {u:Int} {c:Cs} {L:List Crd} (h:Pr H pid xid cid mid n k u c L) (e:Evo (fun _=>False) H H'):Pr H' pid xid cid mid n k u c L :=
 h.go e.no (h.cl.evo e id id id)
theorem Pr.put {H:PH} {pid xid cid mid:Nat} {n:Int} {k:Nat→UInt8} {u:Int} {c:Cs} {L:List Crd} (h:Pr H pid xid cid mid n k u c L) (n':Int) (k':Nat→UInt8) (u':Int) (v:Nat) :
  Pr (H.set pid (pairO cid xid n' k' u' v)) pid xid cid mid n' k' u' c L∧Evo (·=pid) H (H.set pid (pairO cid xid n' k' u' v)):=by
 obtain ⟨h1,h2,h3⟩:=h.ne
 obtain ⟨w,h0⟩:=h.p
 have e:Evo (·=pid) H (H.set pid (pairO cid xid n' k' u' v)):=Evo.setOther h0 rfl (pairT ..).1 (pairT ..).2
 exact ⟨⟨⟨v,gS h0⟩,h.cl.evo e (Ne.symm h1) (Ne.symm h2) (Ne.symm h3)⟩,e⟩
theorem uAnn:isUserB aR aN=true:=by kernel_rfl
theorem uMail:isUserB sR mN=true:=by kernel_rfl
theorem c13 (H:PH):∃H1 pid xid cid mid,Pr H1 pid xid cid mid 0 k9 3 (cli0 aR aN k9 (mid+1)) []∧H.length≤H1.length∧CK prog 13 [] H fun r H'=>r=.ptr (some (pid,0))∧H'=H1:=by
 have k25:=c25
 obtain ⟨H1,cid,mid,hC,e1,_,_,k34⟩:=c34 H aR aN k9 (by decide) (by decide) uAnn
 obtain ⟨o,ho,k37⟩:=c37 H1 aR aN k9 (by decide) (by decide) uAnn
 have e2:=((Xt.refl H1).app [o]).app [pairO cid H1.length 0 k9 3 0]
 refine ⟨H1++[o]++[pairO cid H1.length 0 k9 3 0],(H1++[o]).length,H1.length,cid,mid,⟨⟨0,gL _ _⟩,hC.xt e2⟩,Nat.le_trans e1.len e2.len,?_⟩
 clear hC e1 e2
 have k34':CK prog 34 [.agg [.str aR,.str aN],.agg ([.int .u8 9]++List.replicate 31 (.int .u8 0))] H fun x H'=>x=.tup [.ptr (some (cid,0)),.int .i64 0]∧H'=H1:=k34
 have k37':CK prog 37 [.agg [.str aR,.str aN],.agg ([.int .u8 9]++List.replicate 31 (.int .u8 0))] H1 fun x H'=>x=.tup [.ptr (some (H1.length,0)),.int .i64 0]∧H'=H1++[o]:=k37
 clear k34 k37
 (refine fnS (imm:=imm13) ttK_ok func13 ?_;(conv=>whnf))
 exact wX
theorem isB_d (m:Msg):isB m.d=isB m:=rfl
theorem laidB_d (m:Msg):laidB m.d=laidB m:=rfl
theorem msgOk_d {m:Msg} (h:msgOk m):msgOk m.d:=h
theorem dec_ok {m:Msg} (h:msgOk m):decV (laidB m)=.tup [.agg m.d.cells,.int .i64 0]:=by
 have hd:=taken_laid m h.1
 have hok:okM (takenB (laidB m)) (laidB m)=true:=by
  rw [okM_iff,←isB_d,←laidB_d (takenB _),hd,isB_d,laidB_d]
  exact ⟨h.1,h.2.1,rfl⟩
 unfold decV
 rw [agM_yes hok,hd]
theorem c44m {m:Msg} (h:msgOk m):Pure prog 44 [sl (laidB m)] (.tup [.agg m.d.cells,.int .i64 0]):=(c44 _ (by have:=h.2.1;omega)).of_eq (dec_ok h)
theorem c22m {m:Msg} (h:msgOk m):Pure prog 22 [sl (laidB m)] (.tup [.agg m.d.cells,.int .i64 0]):=(c22 _ (by have:=h.2.1;omega)).of_eq ((refDec_eq _).trans (dec_ok h))
theorem asOk {r n:List UInt8} {till nonce:Int} (h1:isPrincB r n=true) (h2:isPrincB r (krb r)=true) (h3:inZ till 0 1073741824=true) (h4:inZ nonce 0 1073741824=true):msgOk (asM r n till nonce):=by
 have g1:=princ_len h1
 have g2:=princ_len h2
 refine ⟨?_,?_,?_⟩
 ·show (isPrincB r n&&isPrincB r (krb r)&&inZ till 0 1073741824&&inZ nonce 0 1073741824&&othersB (asM r n till nonce))=true
  rw [h1,h2,h3,h4,show othersB (asM r n till nonce)=true from rfl];rfl
 ·have a0:=wrapB_len 106 [princE r n,princE r (krb r),intE till,intE nonce].flatten
  have a1:=princE_len r n
  have a2:=princE_len r (krb r)
  have a3:=intE_len till
  have a4:=intE_len nonce
  show (wrapB 106 [princE r n,princE r (krb r),intE till,intE nonce].flatten).length≤2000
  simp only [zqk,zql,zqf,List.length_nil] at a0 ⊢
  omega
 ·refine ⟨?_,?_,?_,?_,Nat.zero_le _,Nat.zero_le _,Nat.zero_le _,Nat.zero_le _,Nat.zero_le _,Nat.zero_le _,Nat.zero_le _,Nat.zero_le _,Nat.zero_le _,Nat.zero_le _⟩
  ·show r.length≤_;omega
  ·show n.length≤_;omega
  ·show r.length≤_;omega
  ·show (krb r).length≤_;omega
def rpM (r n:List UInt8) (sr sn:List UInt8) (kv:Int) (tb bl:List UInt8):Msg:={ mZ with kind:=3,r1:=r,r2:=n,r3:=sr,r4:=sn,rKv:=kv,rB:=tb,rBo:=none,rBl:=bl,rBlo:=none }
theorem rpOk {r n sr sn tb bl:List UInt8} {kv:Int} (h1:isPrincB r n=true) (h2:tickB sr sn kv tb.length=true) (h3:inZ bl.length 1 800=true):msgOk (rpM r n sr sn kv tb bl):=by
 have g1:=princ_len h1
 have g2:=tick_len h2
 have g3:=inZ_le h3
 refine ⟨?_,?_,?_⟩
 ·show (isPrincB r n&&tickB sr sn kv tb.length&&inZ bl.length 1 800&&othersB (rpM r n sr sn kv tb bl))=true
  rw [h1,h2,h3,show othersB (rpM r n sr sn kv tb bl)=true from rfl];rfl
 ·have a0:=wrapB_len 107 [princE r n,ticketE sr sn kv tb,wrapB 4 bl].flatten
  have a1:=princE_len r n
  have a2:=ticketE_len sr sn kv tb
  have a3:=wrapB_len 4 bl
  show (wrapB 107 [princE r n,ticketE sr sn kv tb,wrapB 4 bl].flatten).length≤2000
  simp only [zqk,zql,zqf,List.length_nil] at a0 ⊢
  omega
 ·refine ⟨Nat.zero_le _,Nat.zero_le _,Nat.zero_le _,Nat.zero_le _,Nat.zero_le _,Nat.zero_le _,Nat.zero_le _,Nat.zero_le _,?_,?_,?_,?_,Nat.zero_le _,Nat.zero_le _⟩
  ·show r.length≤_;omega
  ·show n.length≤_;omega
  ·show sr.length≤_;omega
  ·show sn.length≤_;omega
theorem tgt_krb {r:List UInt8} (h:isRealmB r=true):targetB (krb r)=(r,true):=by
 unfold targetB krb
 rw [show (krbB.isPrefixOf (krbB++r))=true from by simp [krbB],show (krbB++r).drop 7=r from rfl,h];rfl
theorem prKrb {r x:List UInt8} (h1:isRealmB r=true) (h2:isRealmB x=true):isPrincB r (krb x)=true:=by
 unfold isPrincB;rw [h1,tgt_krb h2];rfl
theorem user_princ {r n:List UInt8} (h:isUserB r n=true):isPrincB r n=true:=by
 unfold isUserB at h;rw [zqb] at h;exact h.1
theorem rA:isRealmB aR=true:=by kernel_rfl
theorem tillZ {now:Int} (h0:0≤now):inZ (tillI now) 0 1073741824=true:=inZ_of (by unfold tillI;omega) (by unfold tillI;omega)
theorem c16a {H:PH} {pid xid cid mid:Nat} {n:Int} {k:Nat→UInt8} {u:Int} {c:Cs} {L:List Crd} (hP:Pr H pid xid cid mid n k u c L) (m:Msg) (hm:msgOk m) (hk:m.kind=1) :
  ∃H1,Pr H1 pid xid cid mid m.aNonce k9 3 c L∧Evo (·=pid) H H1∧CK prog 16 [.ptr (some (pid,0)),sl (laidB m)] H fun r H'=>r=.tup []∧H'=H1:=by
 obtain ⟨v,hp⟩:=hP.p
 have hlt:=(zq1.1 hp).1
 have k22:=c22m hm
 have e1:=((Xt.refl H).app [z63o]).set (zqn _) (⟨63,m.d.cells,1⟩:PObj)
 have g0:=gL H z63o
 have g1:((H++[z63o]).set H.length (⟨63,m.d.cells,1⟩:PObj))[H.length]? = some ⟨63,m.d.cells,1⟩:=gS g0
 have hp1:=e1.get hp
 have hP1:=hP.stay (Evo.xt e1)
 obtain ⟨hP2,e2⟩:=hP1.put m.aNonce k u (v+1)
 have hp2:(((H++[z63o]).set H.length (⟨63,m.d.cells,1⟩:PObj)).set pid (pairO cid xid m.aNonce k u (v+1)))[pid]? = some (pairO cid xid m.aNonce k u (v+1)):=gS hp1
 have g2:(((H++[z63o]).set H.length (⟨63,m.d.cells,1⟩:PObj)).set pid (pairO cid xid m.aNonce k u (v+1)))[H.length]? = some ⟨63,m.d.cells,1⟩:=by rw [zqj (by omega)];exact g1
 obtain ⟨hP3,e3⟩:=hP2.put m.aNonce k9 u (v+2)
 have hp3:((((H++[z63o]).set H.length (⟨63,m.d.cells,1⟩:PObj)).set pid (pairO cid xid m.aNonce k u (v+1))).set pid (pairO cid xid m.aNonce k9 u (v+2)))[pid]? = some (pairO cid xid m.aNonce k9 u (v+2)):=gS hp2
 obtain ⟨hP4,e4⟩:=hP3.put m.aNonce k9 3 (v+3)
 have g4:(((((H++[z63o]).set H.length (⟨63,m.d.cells,1⟩:PObj)).set pid (pairO cid xid m.aNonce k u (v+1))).set pid (pairO cid xid m.aNonce k9 u (v+2))).set pid (pairO cid xid m.aNonce k9 3 (v+3)))[H.length]? = some ⟨63,m.d.cells,1⟩:=by rw [zqj (by omega),zqj (by omega)];exact g2
 refine ⟨_,hP4,(((Evo.xt e1).trans e2).trans e3).trans e4,?_⟩
 clear e4 e3 e2 hP4 hP3 hP2 hP1 e1 hP
 have hk2:m.kind≠2:=by omega
 generalize laidB m=b at *
 (refine fnS (imm:=imm16) ttK_ok func16 ?_;(conv=>whnf))
 exact wX
/-! What is answered. -/
theorem rptL_784 {p:Rpt} (h:isRptB p=true):(rptL p).length≤784:=by
 have h0:=rpt_len p
 unfold isRptB at h
 simp only [zqb] at h
 have gp:=princ_len h.1.1
 omega
theorem eBRpt_784 (p:Rpt):(eBRpt p).length≤784:=by
 unfold eBRpt
 split
 ·rename_i h;exact rptL_784 (by first | exact h | exact h.1)
 ·exact Nat.zero_le _
def D18a (b:Nat):Draw:={ imp:=[7],robs:=[z36o],res:=[(6,0)],base:=b }
def D18b (b:Nat):Draw:={ imp:=[7],robs:=[z36o],res:=[(5,0)],base:=b }
def okey (u:Int):Prop:=u=3∨u=8
structure Out (H:PH) (pid xid cid mid:Nat) (n:Int) (k:Nat→UInt8) (u:Int) (c:Cs) (l:List (List UInt8)) (L:List Crd):Prop where
 pr:Pr H pid xid cid mid n k u c L
 box:∃bid,c.ob=.ptr (some (bid,0))∧BoxAt H bid (keyB k)
 st:c.st=1
 hr:c.r=aR
 hn:c.n=aN
 tr:c.tr=sR
 tn:c.tn=mN
 on:c.on=n
 nn:c.nn=n
 ou:c.ou=u
 hu:okey u
 vis:c.vis=visP l
 n0:0≤n
 n1:n≤1000
 se0:0≤c.se
 se1:c.se≤1000
 sn0:0≤c.sn
 sn1:c.sn≤1000
 L:∀y∈L,y.en=500∧y.b=[1,2]
theorem okey.use {u:Int} (h:okey u):isUseB u=true:=by rcases h with rfl | rfl <;> rfl
theorem Out.stay {H H':PH} {pid xid cid mid:Nat} {n:Int} {k:Nat→UInt8} {u:Int} {c:Cs} {l:List (List UInt8)} {L:List Crd} (o:Out H pid xid cid mid n k u c l L) (e:Evo (fun _=>False) H H'):Out H' pid xid cid mid n k u c l L :=
 { o with pr:=o.pr.stay e,box:=by obtain ⟨b,h1,h2⟩:=o.box;exact ⟨b,h1,e.box _ _ h2⟩ }
def C1 (ca bid:Nat) (q:Int):Cs:=⟨aR,aN,k9,ca,q,0,0,1,0,1,sR,mN,.nilS,q,.ptr (some (bid,0)),3,true⟩
theorem prAnn:isPrincB aR aN=true:=user_princ uAnn
theorem prMail:isPrincB sR mN=true:=user_princ uMail
theorem prTgt:isPrincB aR (krb aR)=true:=prKrb rA rA
def m1 (now q:Int):Msg:=asM aR aN (tillI now) q
theorem m1Ok {now q:Int} (h0:0≤now) (h1:0≤q) (h2:q≤1000):msgOk (m1 now q):=asOk prAnn prTgt (tillZ h0) (inZ_of h1 (by omega))
theorem chase1 {H:PH} {pid xid cid mid ca:Nat} (hP:Pr H pid xid cid mid 0 k9 3 (cli0 aR aN k9 ca) []) (now:Int) (h0:0≤now) (h1:now≤1073741824) :
  ∃H1 bid,BoxAt H1 bid (keyB k9)∧Pr H1 pid xid cid mid 0 k9 3 (C1 ca bid 1) []∧CK prog 14 [.ptr (some (cid,0)),.agg [.str sR,.str mN],.int .i64 now] H fun r H'=>r=.tup [.str aR,sl (laidB (m1 now 1)),.int .i64 0]∧H'=H1:=by
 obtain ⟨H1,bid,hb,hC,e,k⟩:=c14f hP.cl (show (0:Int)≠1 by decide) (show aR.length≤1000000 by decide) sR mN (by decide) (by decide) uMail now h0 h1 (.inl rfl) (msgOk_d (m1Ok (q:=1) h0 (by decide) (by decide))) (Int.le_refl _) (show (0:Int)≤100000 by decide)
 exact ⟨H1,bid,hb,hP.go e hC,k⟩
theorem sent1 {H:PH} {pid xid cid mid ca bid:Nat} (hb:BoxAt H bid (keyB k9)) (hP:Pr H pid xid cid mid 0 k9 3 (C1 ca bid 1) []) (now:Int) (h0:0≤now) :
  ∃H1,Out H1 pid xid cid mid 1 k9 3 (C1 ca bid 1) [] []∧Evo (·=pid) H H1∧CK prog 16 [.ptr (some (pid,0)),sl (laidB (m1 now 1))] H fun r H'=>r=.tup []∧H'=H1:=by
 obtain ⟨H1,hP1,e1,k⟩:=c16a hP (m1 now 1) (m1Ok h0 (by decide) (by decide)) rfl
 exact ⟨H1,⟨hP1,⟨bid,rfl,e1.box _ _ hb⟩,rfl,rfl,rfl,rfl,rfl,rfl,rfl,rfl,(.inl rfl:okey 3),rfl,by decide,by decide,show (0:Int)≤1 by decide,show (1:Int)≤1000 by decide,show (0:Int)≤0 by decide,show (0:Int)≤1000 by decide,fun y h=>by cases h⟩,e1,k⟩
def D21:Draw:={ imp:=[5],win:=[(6,1,1),(7,1,1),(8,1,1),(9,1,1),(10,1,1),(11,1,1),(12,1,1)] }
theorem c21 (H:PH):∃H1,CK prog 21 [] H fun r H'=>r=.bool true∧H'=H1:=by
 obtain ⟨H1,pid,xid,cid,mid,hP,_,k13⟩:=c13 H
 obtain ⟨H2,bid,hb,hP2,k14⟩:=chase1 hP 1 (by decide) (by decide)
 obtain ⟨v,ho⟩:=hP2.cl.o
 obtain ⟨w,hp⟩:=hP.p
 obtain ⟨w2,hp2⟩:=hP2.p
 have k14b:=c14s ho rfl sR mN 1
 have k20:=c20 ho
 have k15:=c15
 have hl:0<(laidB (m1 1 1)).length:=by
  show 0<(wrapB 106 _).length
  simp [wrapB]
 have hl':((0:Int)<((laidB (m1 1 1)).length:Nat)):=by omega
 refine ⟨H2,?_⟩
 clear hP2 hb hP ho
 generalize laidB (m1 1 1)=b at *
 (refine fnS (imm:=imm21) ttK_ok func21 ?_;(conv=>whnf))
 repeat (first | (first | ((first | (apply exA;(focus exact oN)) | refine bT ?_ | refine bF ?_ | refine bW (bT ?_) | refine bW (bF ?_) | (apply cP;(focus assumption)) | (apply cE;(focus assumption)) | refine ⟨by first | decide | omega,?_⟩);((conv=>whnf))) | ((conv in (_[_]?)=>tactic=>first | exact oL | exact gS (by assumption));(conv=>whnf))) | (refine dX ?_;(conv=>whnf)))
 refine drawK_of3 D21 [H1,H2] _ (by kernel_rfl) rfl trivial rfl ?_
 conv=>whnf
 repeat (first | (first | ((first | (apply exA;(focus exact oN)) | refine bT ?_ | refine bF ?_ | refine bW (bT ?_) | refine bW (bF ?_) | (apply cP;(focus assumption)) | (apply cE;(focus assumption)) | refine ⟨by first | decide | omega,?_⟩);((conv=>whnf))) | ((conv in (_[_]?)=>tactic=>first | exact oL | exact gS (by assumption));(conv=>whnf))) | (refine dX ?_;(conv=>whnf)) | (refine dP2 (by kernel_rfl) ?_;(conv=>whnf)))
 exact ⟨rfl,rfl⟩
theorem tick12 {sr sn:List UInt8} (h:isPrincB sr sn=true):tickB sr sn 1 2=true:=by unfold tickB;rw [h];rfl
section
variable {H : PH} {pid xid cid mid : Nat} {n : Int} {k : Nat → UInt8} {u : Int} {c : Cs} {l : List (List UInt8)} {L : List Crd}
theorem takeN (o:Out H pid xid cid mid n k u c l L) (b:List UInt8) (m:Msg) (e:Int) (hd:Pure prog 44 [sl b] (.tup [.agg m.d.cells,.int .i64 e])) (hno:noAns m e c) (now:Int) (hn0:0≤now) (hn1:now≤500) :
  CK prog 17 [.ptr (some (cid,0)),sl b,.int .i64 now] H fun r H'=>r=.tup [.str [],.slice 0 [] (some 5)]∧Evo (fun _=>False) H H' :=
 c17n o.pr.cl o.st b m e hd now hn0 (by omega) hno
end
open Go.Proofs.YtldfjimgfnjdjaaGreatDoor (rows_ints bytes_of)
theorem rdBytes1 {B n:Nat} {ps:List PV} (h:RdP prog B (n+2) 25 ps):∃b:List UInt8,ps=[sl b]∧b.length≤B:=by
 obtain ⟨rs,rfl,hb,_,hr⟩:∃rs:List (List PV),ps=[.slice rs.length rs.flatten none]∧rs.length*prog.bytesOf 5≤B∧rs.length≤9223372036854775807∧∀r∈rs,r.length=prog.cellsOf 5∧RdP prog B (n+1) 5 r:=h
 obtain ⟨xs,e1,e2,e3⟩:=rows_ints (k:=.u8) fun r hr'=>(hr r hr').2
 obtain ⟨bs,e4,e5⟩:=bytes_of e3
 refine ⟨bs,by unfold sl;rw [e1,e2,e4,e5],?_⟩
 have hb:rs.length*1≤B:=hb
 omega
open Go Ps
def ttF:TT:=[(3,⟨.int .i64,1,8,[.int .i64 0]⟩),(4,⟨.bool,1,1,[.bool false]⟩),(5,⟨.int .u8,1,1,[.int .u8 0]⟩),(9,⟨.str,1,16,[.str []]⟩),(22,⟨.slice 9,1,24,[.slice 0 [] (some 9)]⟩),(23,⟨.ptr,1,8,[.ptr none]⟩),(25,⟨.slice 5,1,24,[.slice 0 [] (some 5)]⟩),(26,⟨.int .i64,1,8,[.int .i64 0]⟩),(28,⟨.ptr,1,8,[.ptr none]⟩),(29,⟨.ptr,1,8,[.ptr none]⟩),(31,⟨.arr 32 5,32,32,List.replicate 32 (.int .u8 0)⟩),(33,⟨.strct [(28,0),(29,1),(3,2),(31,3),(3,35)],36,64,[.ptr none,.ptr none,.int .i64 0]++List.replicate 32 (.int .u8 0)++[.int .i64 0]⟩),(36,⟨.strct [(9,0),(9,1)],2,32,[.str [],.str []]⟩),(43,⟨.strct [(3,0),(3,1),(9,2),(9,3),(3,4),(25,5),(3,6)],7,88,[.int .i64 0,.int .i64 0,.str [],.str [],.int .i64 0,.slice 0 [] (some 5),.int .i64 0]⟩),(51,⟨.strct [(36,0),(36,2),(3,4),(3,5)],6,80,[.str [],.str [],.str [],.str [],.int .i64 0,.int .i64 0]⟩),(53,⟨.strct [(36,0),(3,2),(25,3)],4,64,[.str [],.str [],.int .i64 0,.slice 0 [] (some 5)]⟩),(55,⟨.strct [(53,0),(25,4),(36,5),(3,7),(3,8)],9,136,[.str [],.str [],.int .i64 0,.slice 0 [] (some 5),.slice 0 [] (some 5),.str [],.str [],.int .i64 0,.int .i64 0]⟩),(57,⟨.strct [(36,0),(53,2),(25,6)],7,120,[.str [],.str [],.str [],.str [],.int .i64 0,.slice 0 [] (some 5),.slice 0 [] (some 5)]⟩),(59,⟨.strct [(53,0),(25,4)],5,88,[.str [],.str [],.int .i64 0,.slice 0 [] (some 5),.slice 0 [] (some 5)]⟩),(61,⟨.strct [(26,0),(3,1)],2,16,[.int .i64 0,.int .i64 0]⟩),(63,⟨.strct [(3,0),(51,1),(55,7),(57,16),(59,23),(61,28)],30,448,[.int .i64 0,.str [],.str [],.str [],.str [],.int .i64 0,.int .i64 0,.str [],.str [],.int .i64 0,.slice 0 [] (some 5),.slice 0 [] (some 5),.str [],.str [],.int .i64 0,.int .i64 0,.str [],.str [],.str [],.str [],.int .i64 0,.slice 0 [] (some 5),.slice 0 [] (some 5),.str [],.str [],.int .i64 0,.slice 0 [] (some 5),.slice 0 [] (some 5),.int .i64 0,.int .i64 0]⟩),(73,⟨.strct [(36,0),(3,2),(3,3)],4,48,[.str [],.str [],.int .i64 0,.int .i64 0]⟩),(83,⟨.strct [(53,0),(31,4),(3,36)],37,104,[.str [],.str [],.int .i64 0,.slice 0 [] (some 5)]++List.replicate 32 (.int .u8 0)++[.int .i64 0]⟩)]
theorem ttF_ok:ttOk prog ttF=true:=by kernel_rfl
def imm5:List Nat:=[]
def Dbeg:Draw:={ imp:=[5],win:=[(6,1,1),(7,1,1),(8,1,1),(9,1,1),(10,1,1),(11,1,1),(12,1,1)] }
theorem start (H:PH) (now:Int) (h0:0≤now) (h1:now≤1073741824):∃H1 H2 H3 pid xid cid mid ca bid w w2,CK prog 13 [] H (fun r H'=>r=.ptr (some (pid,0))∧H'=H1)∧H1[pid]? = some (pairO cid xid 0 k9 3 w) ∧
  CK prog 14 [.ptr (some (cid,0)),.agg [.str sR,.str mN],.int .i64 now] H1 (fun r H'=>r=.tup [.str aR,sl (laidB (m1 now 1)),.int .i64 0]∧H'=H2)∧H2[pid]? = some (pairO cid xid 0 k9 3 w2) ∧
  CK prog 16 [.ptr (some (pid,0)),sl (laidB (m1 now 1))] H2 (fun r H'=>r=.tup []∧H'=H3)∧Out H3 pid xid cid mid 1 k9 3 (C1 ca bid 1) [] []:=by
 obtain ⟨H1,pid,xid,cid,mid,hP,_,k13⟩:=c13 H
 obtain ⟨w,hp⟩:=hP.p
 obtain ⟨H2,bid,hb,hP2,k14⟩:=chase1 hP now h0 h1
 obtain ⟨w2,hp2⟩:=hP2.p
 obtain ⟨H3,o,_,k16⟩:=sent1 hb hP2 now h0
 exact ⟨H1,H2,H3,pid,xid,cid,mid,mid+1,bid,w,w2,k13,hp,k14,hp2,k16,o⟩
theorem c18_4 {H:PH} {pid xid cid:Nat} {n:Int} {k:Nat→UInt8} {u:Int} {v:Nat} (hp:H[pid]? = some (pairO cid xid n k u v)) (nn:Int) (b:List UInt8) :
  CK prog 18 [.ptr (some (pid,0)),.agg [.int .i64 0,.int .i64 4,.str aR,.str aR,.int .i64 nn,sl b,.int .i64 0]] H fun x H'=>x=sl b∧H'=H:=by
 refine (CK.gc (Q:=fun x H'=>x=sl b∧Xt H H') ?_ (fun r H' h=>⟨(by rw [h.1];exact oldPs_bytes _),h.2⟩)).mono (fun x H' h=>⟨h.2.choose_spec.1,h.1⟩)
 have k49:=c49 aR (by decide)
 have g0:=gL H z36o
 have eX:=((Xt.refl H).app [z36o]).set (zqn _) (⟨36,[.str aR,.str (krb aR)],1⟩:PObj)
 have pX:=eX.get hp
 (refine fnS (imm:=imm18) ttK_ok func18 ?_;(conv=>whnf))
 refine drawK_of3 (D18a H.length) [H++[z36o],(H++[z36o]).set H.length (⟨36,[.str aR,.str (krb aR)],1⟩:PObj)] _ (by kernel_rfl) ⟨rfl,rfl⟩ trivial rfl ?_
 conv=>whnf
 repeat (first | (first | ((first | (apply exA;(focus exact oN)) | refine bT ?_ | refine bF ?_ | refine bW (bT ?_) | refine bW (bF ?_) | (apply cP;(focus assumption)) | (apply cE;(focus assumption)) | refine ⟨by first | decide | omega,?_⟩);((conv=>whnf))) | ((conv in (_[_]?)=>tactic=>first | exact oL | exact gS (by assumption));(conv=>whnf))) | (refine dX ?_;(conv=>whnf)))
 exact ⟨rfl,eX⟩
theorem c23p (k:Nat→UInt8) (u:Int) (hu:isUseB u=true) (b:List UInt8) (h16:16≤b.length) (h800:b.length≤800) {p:List UInt8} (h:openK (keyB k) u b=some p):Pure prog 23 [.agg (keyC k),.int .i64 u,sl b] (.tup [sl p,.int .i64 0]):=by
 intro H
 refine (c23o (keyB k) (keyB_len k) u hu b h16 h800 H).mono ?_
 rintro x H' ⟨h1,rfl⟩
 refine ⟨?_,rfl⟩
 unfold openK at h
 cases ho:openB ((keyB k).drop 16) u b
 ·rw [ho] at h;cases h
 ·rw [ho] at h h1
  cases h
  exact h1
theorem c23n (k:Nat→UInt8) (u:Int) (hu:isUseB u=true) (b:List UInt8) (h16:16≤b.length) (h800:b.length≤800) (h:openK (keyB k) u b=none):Pure prog 23 [.agg (keyC k),.int .i64 u,sl b] (.tup [ow [],.int .i64 3]):=by
 intro H
 refine (c23o (keyB k) (keyB_len k) u hu b h16 h800 H).mono ?_
 rintro x H' ⟨h1,rfl⟩
 refine ⟨?_,rfl⟩
 unfold openK at h
 cases ho:openB ((keyB k).drop 16) u b
 ·rw [ho] at h1
  exact h1
 ·rw [ho] at h;cases h
theorem c23z (k:Nat→UInt8) (b:List UInt8) (h:b.length<16∨800<b.length):Pure prog 23 [.agg (keyC k),.int .i64 3,sl b] (.tup [ow [],.int .i64 3]):=by
 intro H
 by_cases h1:b.length<16
 ·have h1':((b.length:Nat):Int)<16:=by omega
  (refine fnS (imm:=imm23) ttQ4_ok func23 ?_;(conv=>whnf))
  exact wX
 ·have h1':¬((b.length:Nat):Int)<16:=by omega
  have h2':(800:Int)<((b.length:Nat):Int):=by omega
  (refine fnS (imm:=imm23) ttQ4_ok func23 ?_;(conv=>whnf))
  exact wX
theorem openK_len {key:List UInt8} {u:Int} {b p:List UInt8} (h:openK key u b=some p):16≤b.length∧b.length≤800:=by
 unfold openK at h
 cases ho:openB (key.drop 16) u b
 ·rw [ho] at h;cases h
 ·unfold openB at ho
  simp only [zqb,decide_eq_true_eq] at ho
  omega
theorem c23N (k:Nat→UInt8) (b:List UInt8) (h:openK (keyB k) 3 b=none):Pure prog 23 [.agg (keyC k),.int .i64 3,sl b] (.tup [ow [],.int .i64 3]):=by
 by_cases h1:16≤b.length∧b.length≤800
 ·exact c23n k 3 rfl b h1.1 h1.2 h
 ·exact c23z k b (by omega)
theorem c23P (k:Nat→UInt8) (b:List UInt8) {p:List UInt8} (h:openK (keyB k) 3 b=some p):Pure prog 23 [.agg (keyC k),.int .i64 3,sl b] (.tup [sl p,.int .i64 0]) :=
 c23p k 3 rfl b (openK_len h).1 (openK_len h).2 h
theorem takeO {H:PH} {pid xid cid mid:Nat} {n:Int} {k:Nat→UInt8} {u:Int} {c:Cs} {l:List (List UInt8)} {L:List Crd} (o:Out H pid xid cid mid n k u c l L) (b:List UInt8) (m:Msg) (hd:Pure prog 44 [sl b] (.tup [.agg m.d.cells,.int .i64 0])) (hk:m.kind=3)
  (hop:m.r1=aR∧m.r2=aN→openK (keyB k) u m.rBl=none) :
  CK prog 17 [.ptr (some (cid,0)),sl b,.int .i64 1] H fun r H'=>r=.tup [.str [],.slice 0 [] (some 5)]∧Evo (fun _=>False) H H':=by
 refine c17o o.pr.cl o.st b m hd 1 (by decide) (by decide) hk [] [] zCrd (fun X e=>?_)
 have o1:=o.stay e
 obtain ⟨v,ho⟩:=o1.pr.cl.o
 obtain ⟨bid,hb1,hb2⟩:=o1.box
 by_cases hn:m.r1=aR∧m.r2=aN
 ·exact c46o ho hb1 hb2 (by rw [o.ou];exact o.hu.use) m.repI (hn.1.trans o.hr.symm) (hn.2.trans o.hn.symm) (by rw [o.ou];exact hop hn)
 ·exact c46c ho m.repI (fun h=>hn ⟨h.1.trans o.hr,h.2.trans o.hn⟩)
theorem c5_4 (n:Int) (b:List UInt8) (hb:b.length≤500) (H:PH):CK prog 5 [.int .i64 4,.int .i64 n,sl b] H fun x _=>x=.bool true:=by
 have hb':¬(500:Int)<(b.length:Nat):=by omega
 obtain ⟨H1,H2,H3,pid,xid,cid,mid,ca,bid,w,w2,k13,hp1,k14,hp2,k16,o⟩:=start H 1 (by decide) (by decide)
 have k15:=c15
 obtain ⟨w3,hp3⟩:=o.pr.p
 generalize laidB (m1 1 1)=b1 at *
 have k18:=c18_4 hp3 n b
 have hnb:b.length≤140737488355328:=by omega
 have k22:=(c22 b hnb).of_eq (refDec_eq b)
 have k44:=c44 b hnb
 cases hok:okM (takenB b) b
 ·have hdv:decV b=.tup [.agg mZ.d.cells,.int .i64 2]:=agM_no hok
  rw [hdv] at k22 k44
  have x4:Xt H3 ((H3++[z63o]).set H3.length (⟨63,mZ.d.cells,1⟩:PObj)):=((Xt.refl H3).app [z63o]).set (zqn _) _
  have g0:=gL H3 z63o
  have g1:((H3++[z63o]).set H3.length (⟨63,mZ.d.cells,1⟩:PObj))[H3.length]? = some (⟨63,mZ.d.cells,1⟩:PObj):=gS g0
  have hp4:=x4.get hp3
  have o4:=o.stay (Evo.xt x4)
  have k17:=takeN o4 b mZ 2 k44 (.inl (by decide)) 1 (by decide) (by decide)
  have k23:=c23N k9 mZ.rBl (by kernel_rfl)
  clear k44
  (refine fnS (imm:=imm5) ttF_ok func5 ?_;(conv=>whnf))
  repeat (first | (first | ((first | (apply exA;(focus exact oN)) | refine bT ?_ | refine bF ?_ | refine bW (bT ?_) | refine bW (bF ?_) | (apply cP;(focus assumption)) | (apply cE;(focus assumption)) | refine ⟨by first | decide | omega,?_⟩);((conv=>whnf))) | ((conv in (_[_]?)=>tactic=>first | exact oL | exact gS (by assumption));(conv=>whnf))) | (refine dX ?_;(conv=>whnf)))
  refine drawK_of3 Dbeg [H1,H2] _ (by kernel_rfl) rfl trivial rfl ?_
  conv=>whnf
  repeat (first | (first | ((first | (apply exA;(focus exact oN)) | refine bT ?_ | refine bF ?_ | refine bW (bT ?_) | refine bW (bF ?_) | (apply cP;(focus assumption)) | (apply cE;(focus assumption)) | refine ⟨by first | decide | omega,?_⟩);((conv=>whnf))) | ((conv in (_[_]?)=>tactic=>first | exact oL | exact gS (by assumption));(conv=>whnf))) | (refine dX ?_;(conv=>whnf)))
  refine dP2 (by kernel_rfl) ?_
  conv=>whnf
  repeat (first | (first | ((first | (apply exA;(focus exact oN)) | refine bT ?_ | refine bF ?_ | refine bW (bT ?_) | refine bW (bF ?_) | (apply cP;(focus assumption)) | (apply cE;(focus assumption)) | refine ⟨by first | decide | omega,?_⟩);((conv=>whnf))) | ((conv in (_[_]?)=>tactic=>first | exact oL | exact gS (by assumption));(conv=>whnf))) | (refine dX ?_;(conv=>whnf)))
  refine cO k17 ?_
  rintro _ H5 ⟨rfl,e5⟩
  obtain ⟨v5,ho5⟩:=(o4.stay e5).pr.cl.o
  obtain ⟨w5,hp5⟩:=(o4.stay e5).pr.p
  have k20:=c20 ho5
  obtain ⟨H9,k21⟩:=c21 H5
  conv=>whnf
  exact wR
 ·have hdv:decV b=.tup [.agg (takenB b).d.cells,.int .i64 0]:=agM_yes hok
  rw [hdv] at k22 k44
  clear hdv hok hnb
  generalize takenB b=m at *
  have x4:Xt H3 ((H3++[z63o]).set H3.length (⟨63,m.d.cells,1⟩:PObj)):=((Xt.refl H3).app [z63o]).set (zqn _) _
  have g0:=gL H3 z63o
  have g1:((H3++[z63o]).set H3.length (⟨63,m.d.cells,1⟩:PObj))[H3.length]? = some (⟨63,m.d.cells,1⟩:PObj):=gS g0
  have hp4:=x4.get hp3
  have o4:=o.stay (Evo.xt x4)
  by_cases h5:m.kind=5
  ·have h5':m.d.kind=5:=h5
   clear k44
   (refine fnS (imm:=imm5) ttF_ok func5 ?_;(conv=>whnf))
   repeat (first | (first | ((first | (apply exA;(focus exact oN)) | refine bT ?_ | refine bF ?_ | refine bW (bT ?_) | refine bW (bF ?_) | (apply cP;(focus assumption)) | (apply cE;(focus assumption)) | refine ⟨by first | decide | omega,?_⟩);((conv=>whnf))) | ((conv in (_[_]?)=>tactic=>first | exact oL | exact gS (by assumption));(conv=>whnf))) | (refine dX ?_;(conv=>whnf)))
   refine drawK_of3 Dbeg [H1,H2] _ (by kernel_rfl) rfl trivial rfl ?_
   conv=>whnf
   exact wR
  have h5':¬m.d.kind=5:=h5
  cases hop:openK (keyB k9) 3 m.rBl with
  | none =>
   have k23:=c23N k9 m.rBl hop
   by_cases h3:m.kind=3
   ·have h3':m.d.kind=3:=h3
    have k17:=takeO o4 b m k44 h3 (fun _=>hop)
    clear k44
    (refine fnS (imm:=imm5) ttF_ok func5 ?_;(conv=>whnf))
    repeat (first | (first | ((first | (apply exA;(focus exact oN)) | refine bT ?_ | refine bF ?_ | refine bW (bT ?_) | refine bW (bF ?_) | (apply cP;(focus assumption)) | (apply cE;(focus assumption)) | refine ⟨by first | decide | omega,?_⟩);((conv=>whnf))) | ((conv in (_[_]?)=>tactic=>first | exact oL | exact gS (by assumption));(conv=>whnf))) | (refine dX ?_;(conv=>whnf)))
    refine drawK_of3 Dbeg [H1,H2] _ (by kernel_rfl) rfl trivial rfl ?_
    conv=>whnf
    repeat (first | (first | ((first | (apply exA;(focus exact oN)) | refine bT ?_ | refine bF ?_ | refine bW (bT ?_) | refine bW (bF ?_) | (apply cP;(focus assumption)) | (apply cE;(focus assumption)) | refine ⟨by first | decide | omega,?_⟩);((conv=>whnf))) | ((conv in (_[_]?)=>tactic=>first | exact oL | exact gS (by assumption));(conv=>whnf))) | (refine dX ?_;(conv=>whnf)))
    refine dP2 (by kernel_rfl) ?_
    conv=>whnf
    repeat (first | (first | ((first | (apply exA;(focus exact oN)) | refine bT ?_ | refine bF ?_ | refine bW (bT ?_) | refine bW (bF ?_) | (apply cP;(focus assumption)) | (apply cE;(focus assumption)) | refine ⟨by first | decide | omega,?_⟩);((conv=>whnf))) | ((conv in (_[_]?)=>tactic=>first | exact oL | exact gS (by assumption));(conv=>whnf))) | (refine dX ?_;(conv=>whnf)))
    refine cO k17 ?_
    rintro _ H5 ⟨rfl,e5⟩
    obtain ⟨v5,ho5⟩:=(o4.stay e5).pr.cl.o
    obtain ⟨w5,hp5⟩:=(o4.stay e5).pr.p
    have k20:=c20 ho5
    obtain ⟨H9,k21⟩:=c21 H5
    conv=>whnf
    exact wR
   ·have h3':¬m.d.kind=3:=h3
    have k17:=takeN o4 b m 0 k44 (.inr (.inl ⟨h5,h3⟩)) 1 (by decide) (by decide)
    clear k44
    (refine fnS (imm:=imm5) ttF_ok func5 ?_;(conv=>whnf))
    repeat (first | (first | ((first | (apply exA;(focus exact oN)) | refine bT ?_ | refine bF ?_ | refine bW (bT ?_) | refine bW (bF ?_) | (apply cP;(focus assumption)) | (apply cE;(focus assumption)) | refine ⟨by first | decide | omega,?_⟩);((conv=>whnf))) | ((conv in (_[_]?)=>tactic=>first | exact oL | exact gS (by assumption));(conv=>whnf))) | (refine dX ?_;(conv=>whnf)))
    refine drawK_of3 Dbeg [H1,H2] _ (by kernel_rfl) rfl trivial rfl ?_
    conv=>whnf
    repeat (first | (first | ((first | (apply exA;(focus exact oN)) | refine bT ?_ | refine bF ?_ | refine bW (bT ?_) | refine bW (bF ?_) | (apply cP;(focus assumption)) | (apply cE;(focus assumption)) | refine ⟨by first | decide | omega,?_⟩);((conv=>whnf))) | ((conv in (_[_]?)=>tactic=>first | exact oL | exact gS (by assumption));(conv=>whnf))) | (refine dX ?_;(conv=>whnf)))
    refine dP2 (by kernel_rfl) ?_
    conv=>whnf
    repeat (first | (first | ((first | (apply exA;(focus exact oN)) | refine bT ?_ | refine bF ?_ | refine bW (bT ?_) | refine bW (bF ?_) | (apply cP;(focus assumption)) | (apply cE;(focus assumption)) | refine ⟨by first | decide | omega,?_⟩);((conv=>whnf))) | ((conv in (_[_]?)=>tactic=>first | exact oL | exact gS (by assumption));(conv=>whnf))) | (refine dX ?_;(conv=>whnf)))
    refine cO k17 ?_
    rintro _ H5 ⟨rfl,e5⟩
    obtain ⟨v5,ho5⟩:=(o4.stay e5).pr.cl.o
    obtain ⟨w5,hp5⟩:=(o4.stay e5).pr.p
    have k20:=c20 ho5
    obtain ⟨H9,k21⟩:=c21 H5
    conv=>whnf
    exact wR
  | some p =>
   have k23:=c23P k9 m.rBl hop
   by_cases h3:m.kind=3
   ·have h3':m.d.kind=3:=h3
    clear k44
    (refine fnS (imm:=imm5) ttF_ok func5 ?_;(conv=>whnf))
    repeat (first | (first | ((first | (apply exA;(focus exact oN)) | refine bT ?_ | refine bF ?_ | refine bW (bT ?_) | refine bW (bF ?_) | (apply cP;(focus assumption)) | (apply cE;(focus assumption)) | refine ⟨by first | decide | omega,?_⟩);((conv=>whnf))) | ((conv in (_[_]?)=>tactic=>first | exact oL | exact gS (by assumption));(conv=>whnf))) | (refine dX ?_;(conv=>whnf)))
    refine drawK_of3 Dbeg [H1,H2] _ (by kernel_rfl) rfl trivial rfl ?_
    conv=>whnf
    repeat (first | (first | ((first | (apply exA;(focus exact oN)) | refine bT ?_ | refine bF ?_ | refine bW (bT ?_) | refine bW (bF ?_) | (apply cP;(focus assumption)) | (apply cE;(focus assumption)) | refine ⟨by first | decide | omega,?_⟩);((conv=>whnf))) | ((conv in (_[_]?)=>tactic=>first | exact oL | exact gS (by assumption));(conv=>whnf))) | (refine dX ?_;(conv=>whnf)))
    refine dP2 (by kernel_rfl) ?_
    conv=>whnf
    exact wR
   ·have h3':¬m.d.kind=3:=h3
    have k17:=takeN o4 b m 0 k44 (.inr (.inl ⟨h5,h3⟩)) 1 (by decide) (by decide)
    clear k44
    (refine fnS (imm:=imm5) ttF_ok func5 ?_;(conv=>whnf))
    repeat (first | (first | ((first | (apply exA;(focus exact oN)) | refine bT ?_ | refine bF ?_ | refine bW (bT ?_) | refine bW (bF ?_) | (apply cP;(focus assumption)) | (apply cE;(focus assumption)) | refine ⟨by first | decide | omega,?_⟩);((conv=>whnf))) | ((conv in (_[_]?)=>tactic=>first | exact oL | exact gS (by assumption));(conv=>whnf))) | (refine dX ?_;(conv=>whnf)))
    refine drawK_of3 Dbeg [H1,H2] _ (by kernel_rfl) rfl trivial rfl ?_
    conv=>whnf
    repeat (first | (first | ((first | (apply exA;(focus exact oN)) | refine bT ?_ | refine bF ?_ | refine bW (bT ?_) | refine bW (bF ?_) | (apply cP;(focus assumption)) | (apply cE;(focus assumption)) | refine ⟨by first | decide | omega,?_⟩);((conv=>whnf))) | ((conv in (_[_]?)=>tactic=>first | exact oL | exact gS (by assumption));(conv=>whnf))) | (refine dX ?_;(conv=>whnf)))
    refine dP2 (by kernel_rfl) ?_
    conv=>whnf
    repeat (first | (first | ((first | (apply exA;(focus exact oN)) | refine bT ?_ | refine bF ?_ | refine bW (bT ?_) | refine bW (bF ?_) | (apply cP;(focus assumption)) | (apply cE;(focus assumption)) | refine ⟨by first | decide | omega,?_⟩);((conv=>whnf))) | ((conv in (_[_]?)=>tactic=>first | exact oL | exact gS (by assumption));(conv=>whnf))) | (refine dX ?_;(conv=>whnf)))
    refine cO k17 ?_
    rintro _ H5 ⟨rfl,e5⟩
    obtain ⟨v5,ho5⟩:=(o4.stay e5).pr.cl.o
    obtain ⟨w5,hp5⟩:=(o4.stay e5).pr.p
    have k20:=c20 ho5
    obtain ⟨H9,k21⟩:=c21 H5
    conv=>whnf
    exact wR
theorem c18_5b {H:PH} {pid xid cid:Nat} {n:Int} {k:Nat→UInt8} {u:Int} {v:Nat} (hp:H[pid]? = some (pairO cid xid n k u v)) (hu:isUseB u=true) (realm next:List UInt8) (hr1:realm.length≤100000) (hr2:next.length≤100000) 
  (kd nn now:Int) (br:List UInt8) (hm:msgOk (rpM sR mN realm (krb next) 1 [1,2] (sealK (keyB k) u 55 (eBRpt ⟨sesF n,realm,(krb next),0,500,n⟩)))) :
  CK prog 18 [.ptr (some (pid,0)),.agg [.int .i64 kd,.int .i64 5,.str realm,.str next,.int .i64 nn,sl br,.int .i64 now]] H fun x H'=>x=sl (laidB (rpM sR mN realm (krb next) 1 [1,2] (sealK (keyB k) u 55 (eBRpt ⟨sesF n,realm,(krb next),0,500,n⟩))))∧H'=H:=by
 refine (CK.gc (Q:=fun x H'=>x=sl (laidB (rpM sR mN realm (krb next) 1 [1,2] (sealK (keyB k) u 55 (eBRpt ⟨sesF n,realm,(krb next),0,500,n⟩))))∧Xt H H') ?_ (fun r H' h=>⟨(by rw [h.1];exact oldPs_bytes _),h.2⟩)).mono (fun x H' h=>⟨h.2.choose_spec.1,h.1⟩)
 have k49:=c49 next (by omega)
 have k15:=c15
 have k25:=c25
 have k26:=c26 n
 have hkl:(krb next).length≤200000:=by show (krbB++next).length≤_;rw [zqf];show 7+next.length≤_;omega
 have k50:=c50s ⟨sesF n,realm,(krb next),0,500,n⟩ (by first | (show realm.length≤_;omega) | (show sR.length≤_;decide)) (by first | (show (krb next).length≤_;omega) | (show mN.length≤_;decide))
 have k51:Pure prog 51 [.agg (keyC k),.int .i64 u,.int .i64 55,sl (eBRpt ⟨sesF n,realm,(krb next),0,500,n⟩)] (.tup [ow (sealK (keyB k) u 55 (eBRpt ⟨sesF n,realm,(krb next),0,500,n⟩)),.int .i64 0]):=c51 (keyB k) (keyB_len k) u 55 hu (by decide) (by decide) _ (eBRpt_784 _)
 have k24:=c24 (rpM sR mN realm (krb next) 1 [1,2] (sealK (keyB k) u 55 (eBRpt ⟨sesF n,realm,(krb next),0,500,n⟩))) hm.2.2
 rw [encV_yes ⟨hm.1,hm.2.1⟩] at k24
 generalize eERpt ⟨sesF n,realm,(krb next),0,500,n⟩=er at *
 generalize eBRpt ⟨sesF n,realm,(krb next),0,500,n⟩=rb at *
 generalize sealK (keyB k) u 55 rb=sb at *
 have eX:Xt H ((H++[z36o]).set H.length (⟨36,[.str realm,.str (krb next)],1⟩:PObj)):=((Xt.refl H).app [z36o]).set (zqn _) (⟨36,[.str realm,.str (krb next)],1⟩:PObj)
 have g0:=gL H z36o
 have g1:((H++[z36o]).set H.length (⟨36,[.str realm,.str (krb next)],1⟩:PObj))[H.length]? = some (⟨36,[.str realm,.str (krb next)],1⟩:PObj):=gS g0
 have hlx:H.length<((H++[z36o]).set H.length (⟨36,[.str realm,.str (krb next)],1⟩:PObj)).length:=by simp
 obtain ⟨X,hX⟩:∃X,((H++[z36o]).set H.length (⟨36,[.str realm,.str (krb next)],1⟩:PObj))=X:=⟨_,rfl⟩
 rw [hX] at g1 hlx eX
 have f0:=gL X z36o
 have f1:((X++[z36o]).set X.length (⟨36,[.str aR,.str aN],1⟩:PObj))[X.length]? = some (⟨36,[.str aR,.str aN],1⟩:PObj):=gS f0
 have h1:((X++[z36o]).set X.length (⟨36,[.str aR,.str aN],1⟩:PObj))[H.length]? = some (⟨36,[.str realm,.str (krb next)],1⟩:PObj):=by rw [zqj (by omega),zq2 hlx];exact g1
 have f2:(((X++[z36o]).set X.length (⟨36,[.str aR,.str aN],1⟩:PObj)).set X.length (⟨36,[.str sR,.str mN],2⟩:PObj))[X.length]? = some (⟨36,[.str sR,.str mN],2⟩:PObj):=gS f1
 have h2:(((X++[z36o]).set X.length (⟨36,[.str aR,.str aN],1⟩:PObj)).set X.length (⟨36,[.str sR,.str mN],2⟩:PObj))[H.length]? = some (⟨36,[.str realm,.str (krb next)],1⟩:PObj):=by rw [zqj (by omega)];exact h1
 have eY:Xt H (((X++[z36o]).set X.length (⟨36,[.str aR,.str aN],1⟩:PObj)).set X.length (⟨36,[.str sR,.str mN],2⟩:PObj)):=((eX.app [z36o]).set (by omega) (⟨36,[.str aR,.str aN],1⟩:PObj)).set (by omega) (⟨36,[.str sR,.str mN],2⟩:PObj)
 have pX:=eX.get hp
 have pX0:=(eX.app [z36o]).get hp
 have pY:=eY.get hp
 (refine fnS (imm:=imm18) ttK_ok func18 ?_;(conv=>whnf))
 refine drawK_of3 (D18a H.length) [(H++[z36o]),((H++[z36o]).set H.length (⟨36,[.str realm,.str (krb next)],1⟩:PObj))] _ (by kernel_rfl) ⟨rfl,rfl⟩ trivial rfl ?_
 conv=>whnf
 repeat (first | (first | ((first | (apply exA;(focus exact oN)) | refine bT ?_ | refine bF ?_ | refine bW (bT ?_) | refine bW (bF ?_) | (apply cP;(focus assumption)) | (apply cE;(focus assumption)) | refine ⟨by first | decide | omega,?_⟩);((conv=>whnf))) | ((conv in (_[_]?)=>tactic=>first | exact oL | exact gS (by assumption));(conv=>whnf))) | (refine dX ?_;(conv=>whnf)))
 refine drawK_at hX ?_
 refine drawK_of3 (D18b X.length) [X++[z36o],((X++[z36o]).set X.length (⟨36,[.str aR,.str aN],1⟩:PObj))] _ (by kernel_rfl) ⟨rfl,rfl⟩ trivial rfl ?_
 conv=>whnf
 repeat (first | (first | ((first | (apply exA;(focus exact oN)) | refine bT ?_ | refine bF ?_ | refine bW (bT ?_) | refine bW (bF ?_) | (apply cP;(focus assumption)) | (apply cE;(focus assumption)) | refine ⟨by first | decide | omega,?_⟩);((conv=>whnf))) | ((conv in (_[_]?)=>tactic=>first | exact oL | exact gS (by assumption));(conv=>whnf))) | (refine dX ?_;(conv=>whnf)))
 refine dP2 (by kernel_rfl) ?_
 conv=>whnf
 repeat (first | (first | ((first | (apply exA;(focus exact oN)) | refine bT ?_ | refine bF ?_ | refine bW (bT ?_) | refine bW (bF ?_) | (apply cP;(focus assumption)) | (apply cE;(focus assumption)) | refine ⟨by first | decide | omega,?_⟩);((conv=>whnf))) | ((conv in (_[_]?)=>tactic=>first | exact oL | exact gS (by assumption));(conv=>whnf))) | (refine dX ?_;(conv=>whnf)))
 refine dP2 (by kernel_rfl) ?_
 conv=>whnf
 repeat (first | (first | ((first | (apply exA;(focus exact oN)) | refine bT ?_ | refine bF ?_ | refine bW (bT ?_) | refine bW (bF ?_) | (apply cP;(focus assumption)) | (apply cE;(focus assumption)) | refine ⟨by first | decide | omega,?_⟩);((conv=>whnf))) | ((conv in (_[_]?)=>tactic=>first | exact oL | exact gS (by assumption));(conv=>whnf))) | (refine dX ?_;(conv=>whnf)))
 exact ⟨rfl,eY⟩
theorem c18_6b {H:PH} {pid xid cid:Nat} {n:Int} {k:Nat→UInt8} {u:Int} {v:Nat} (hp:H[pid]? = some (pairO cid xid n k u v)) (hu:isUseB u=true) (realm next:List UInt8) (hr1:realm.length≤100000) (hr2:next.length≤100000) (hn0:0≤n) (hn1:n≤1000000) 
  (kd nn now:Int) (br:List UInt8) (hm:msgOk (rpM aR aN realm (krb next) 1 [1,2] (sealK (keyB k) u 55 (eBRpt ⟨sesF n,realm,(krb next),0,500,(n+1)⟩)))) :
  CK prog 18 [.ptr (some (pid,0)),.agg [.int .i64 kd,.int .i64 6,.str realm,.str next,.int .i64 nn,sl br,.int .i64 now]] H fun x H'=>x=sl (laidB (rpM aR aN realm (krb next) 1 [1,2] (sealK (keyB k) u 55 (eBRpt ⟨sesF n,realm,(krb next),0,500,(n+1)⟩))))∧H'=H:=by
 refine (CK.gc (Q:=fun x H'=>x=sl (laidB (rpM aR aN realm (krb next) 1 [1,2] (sealK (keyB k) u 55 (eBRpt ⟨sesF n,realm,(krb next),0,500,(n+1)⟩))))∧Xt H H') ?_ (fun r H' h=>⟨(by rw [h.1];exact oldPs_bytes _),h.2⟩)).mono (fun x H' h=>⟨h.2.choose_spec.1,h.1⟩)
 have k49:=c49 next (by omega)
 have k15:=c15
 have k25:=c25
 have k26:=c26 n
 have hkl:(krb next).length≤200000:=by show (krbB++next).length≤_;rw [zqf];show 7+next.length≤_;omega
 have k50:=c50s ⟨sesF n,realm,(krb next),0,500,(n+1)⟩ (by first | (show realm.length≤_;omega) | (show sR.length≤_;decide)) (by first | (show (krb next).length≤_;omega) | (show mN.length≤_;decide))
 have k51:Pure prog 51 [.agg (keyC k),.int .i64 u,.int .i64 55,sl (eBRpt ⟨sesF n,realm,(krb next),0,500,(n+1)⟩)] (.tup [ow (sealK (keyB k) u 55 (eBRpt ⟨sesF n,realm,(krb next),0,500,(n+1)⟩)),.int .i64 0]):=c51 (keyB k) (keyB_len k) u 55 hu (by decide) (by decide) _ (eBRpt_784 _)
 have k24:=c24 (rpM aR aN realm (krb next) 1 [1,2] (sealK (keyB k) u 55 (eBRpt ⟨sesF n,realm,(krb next),0,500,(n+1)⟩))) hm.2.2
 rw [encV_yes ⟨hm.1,hm.2.1⟩] at k24
 have hw:IntKind.i64.wrap (n+1)=n+1:=w64 (by omega) (by omega)
 generalize eERpt ⟨sesF n,realm,(krb next),0,500,(n+1)⟩=er at *
 generalize eBRpt ⟨sesF n,realm,(krb next),0,500,(n+1)⟩=rb at *
 generalize sealK (keyB k) u 55 rb=sb at *
 have k50x:Pure prog 50 [.agg (Rpt.cells ⟨sesF n,realm,(krb next),0,500,IntKind.i64.wrap (n+1)⟩)] (.tup [sl rb,.int .i64 er]):=by rw [hw];exact k50
 clear k50
 have eX:Xt H ((H++[z36o]).set H.length (⟨36,[.str realm,.str (krb next)],1⟩:PObj)):=((Xt.refl H).app [z36o]).set (zqn _) (⟨36,[.str realm,.str (krb next)],1⟩:PObj)
 have g0:=gL H z36o
 have g1:((H++[z36o]).set H.length (⟨36,[.str realm,.str (krb next)],1⟩:PObj))[H.length]? = some (⟨36,[.str realm,.str (krb next)],1⟩:PObj):=gS g0
 have hlx:H.length<((H++[z36o]).set H.length (⟨36,[.str realm,.str (krb next)],1⟩:PObj)).length:=by simp
 obtain ⟨X,hX⟩:∃X,((H++[z36o]).set H.length (⟨36,[.str realm,.str (krb next)],1⟩:PObj))=X:=⟨_,rfl⟩
 rw [hX] at g1 hlx eX
 have f0:=gL X z36o
 have f1:((X++[z36o]).set X.length (⟨36,[.str aR,.str aN],1⟩:PObj))[X.length]? = some (⟨36,[.str aR,.str aN],1⟩:PObj):=gS f0
 have h1:((X++[z36o]).set X.length (⟨36,[.str aR,.str aN],1⟩:PObj))[H.length]? = some (⟨36,[.str realm,.str (krb next)],1⟩:PObj):=by rw [zqj (by omega),zq2 hlx];exact g1
 have eY:Xt H ((X++[z36o]).set X.length (⟨36,[.str aR,.str aN],1⟩:PObj)):=(eX.app [z36o]).set (by omega) (⟨36,[.str aR,.str aN],1⟩:PObj)
 have pX:=eX.get hp
 have pX0:=(eX.app [z36o]).get hp
 have pY:=eY.get hp
 (refine fnS (imm:=imm18) ttK_ok func18 ?_;(conv=>whnf))
 refine drawK_of3 (D18a H.length) [(H++[z36o]),((H++[z36o]).set H.length (⟨36,[.str realm,.str (krb next)],1⟩:PObj))] _ (by kernel_rfl) ⟨rfl,rfl⟩ trivial rfl ?_
 conv=>whnf
 repeat (first | (first | ((first | (apply exA;(focus exact oN)) | refine bT ?_ | refine bF ?_ | refine bW (bT ?_) | refine bW (bF ?_) | (apply cP;(focus assumption)) | (apply cE;(focus assumption)) | refine ⟨by first | decide | omega,?_⟩);((conv=>whnf))) | ((conv in (_[_]?)=>tactic=>first | exact oL | exact gS (by assumption));(conv=>whnf))) | (refine dX ?_;(conv=>whnf)))
 refine drawK_at hX ?_
 refine drawK_of3 (D18b X.length) [X++[z36o],((X++[z36o]).set X.length (⟨36,[.str aR,.str aN],1⟩:PObj))] _ (by kernel_rfl) ⟨rfl,rfl⟩ trivial rfl ?_
 conv=>whnf
 repeat (first | (first | ((first | (apply exA;(focus exact oN)) | refine bT ?_ | refine bF ?_ | refine bW (bT ?_) | refine bW (bF ?_) | (apply cP;(focus assumption)) | (apply cE;(focus assumption)) | refine ⟨by first | decide | omega,?_⟩);((conv=>whnf))) | ((conv in (_[_]?)=>tactic=>first | exact oL | exact gS (by assumption));(conv=>whnf))) | (refine dX ?_;(conv=>whnf)))
 refine dP2 (by kernel_rfl) ?_
 conv=>whnf
 repeat (first | (first | ((first | (apply exA;(focus exact oN)) | refine bT ?_ | refine bF ?_ | refine bW (bT ?_) | refine bW (bF ?_) | (apply cP;(focus assumption)) | (apply cE;(focus assumption)) | refine ⟨by first | decide | omega,?_⟩);((conv=>whnf))) | ((conv in (_[_]?)=>tactic=>first | exact oL | exact gS (by assumption));(conv=>whnf))) | (refine dX ?_;(conv=>whnf)))
 refine dP2 (by kernel_rfl) ?_
 conv=>whnf
 repeat (first | (first | ((first | (apply exA;(focus exact oN)) | refine bT ?_ | refine bF ?_ | refine bW (bT ?_) | refine bW (bF ?_) | (apply cP;(focus assumption)) | (apply cE;(focus assumption)) | refine ⟨by first | decide | omega,?_⟩);((conv=>whnf))) | ((conv in (_[_]?)=>tactic=>first | exact oL | exact gS (by assumption));(conv=>whnf))) | (refine dX ?_;(conv=>whnf)))
 exact ⟨rfl,eY⟩
theorem rpt_open {k:Nat→UInt8} {u:Int} {g:Rpt} (hP:isRptB g=true) :
  openK (keyB k) u (sealK (keyB k) u 55 (eBRpt g))=some (eBRpt g)∧Pure prog 89 [sl (eBRpt g)] (.tup [.agg g.cells,.int .i64 0]):=by
 refine ⟨open_seal (keyB k) u 55 _ (by decide) (by decide) (eBRpt_784 _),?_⟩
 have k89:=c89s (rptL g) (by have:=rptL_784 hP;omega)
 rw [(backRpt hP).1,(backRpt hP).2] at k89
 rw [(ebRpt hP).1]
 exact k89
theorem takeX {H:PH} {pid xid cid mid:Nat} {n:Int} {k:Nat→UInt8} {u:Int} {c:Cs} {l:List (List UInt8)} {L:List Crd} (o:Out H pid xid cid mid n k u c l L) (b:List UInt8) (g:Rpt) (hP:isRptB g=true) (hnc:¬g.nc=n) (m:Msg) (hd:Pure prog 44 [sl b] (.tup [.agg m.d.cells,.int .i64 0])) (hk:m.kind=3)
  (h1:m.r1=aR) (h2:m.r2=aN) (hbl:m.rBl=sealK (keyB k) u 55 (eBRpt g)) :
  CK prog 17 [.ptr (some (cid,0)),sl b,.int .i64 1] H fun r H'=>r=.tup [.str [],.slice 0 [] (some 5)]∧Evo (fun _=>False) H H':=by
 refine c17o o.pr.cl o.st b m hd 1 (by decide) (by decide) hk g.r g.n ⟨m.r3,m.r4,m.rKv,m.rB,g.k,g.en⟩ (fun X e=>?_)
 have o1:=o.stay e
 obtain ⟨v,ho⟩:=o1.pr.cl.o
 obtain ⟨bid,hb1,hb2⟩:=o1.box
 obtain ⟨g1,g2⟩:=rpt_open (k:=k) (u:=u) hP
 rw [←hbl] at g1
 refine (c46d ho hb1 hb2 (by rw [o.ou];exact o.hu.use) m.repI (h1.trans o.hr.symm) (h2.trans o.hn.symm) (by rw [o.ou];exact g1) g 0 g2).mono ?_
 rintro r H' ⟨rfl,h3⟩
 refine ⟨?_,h3⟩
 have hb:(decide ((0:Int)=0)&&decide (g.nc=c.on)&&(decide (g.r=m.repI.r3)&&decide (g.n=m.repI.r4)))=false:=by
  rw [o.on,zqd hnc,zq3,zq4]
 rw [hb];rfl
def p6:Rpt:=⟨sesF 1,aR,krb aR,0,500,1+1⟩
def m5:Msg:=rpM sR mN aR (krb aR) 1 [1,2] (sealK (keyB k9) 3 55 (eBRpt ⟨sesF 1,aR,krb aR,0,500,1⟩))
def m6:Msg:=rpM aR aN aR (krb aR) 1 [1,2] (sealK (keyB k9) 3 55 (eBRpt p6))
theorem m5_ok:msgOk m5:=rpOk prMail (tick12 prTgt) (by rw [sealK_len];have:=eBRpt_784 ⟨sesF 1,aR,krb aR,0,500,1⟩;exact inZ_of (by omega) (by omega))
theorem m6_ok:msgOk m6:=rpOk prAnn (tick12 prTgt) (by rw [sealK_len];have:=eBRpt_784 p6;exact inZ_of (by omega) (by omega))
theorem p6_ok:isRptB p6=true:=by
 show (isPrincB aR (krb aR)&&(inZ 0 0 1073741824&&inZ 500 0 1073741824)&&inZ (1+1) 0 1073741824)=true
 rw [prTgt];rfl
theorem c5_5 (n:Int) (b:List UInt8) (hb:b.length≤500) (H:PH):CK prog 5 [.int .i64 5,.int .i64 n,sl b] H fun x _=>x=.bool true:=by
 have hb':¬(500:Int)<(b.length:Nat):=by omega
 obtain ⟨H1,H2,H3,pid,xid,cid,mid,ca,bid,w,w2,k13,hp1,k14,hp2,k16,o⟩:=start H 1 (by decide) (by decide)
 have k15:=c15
 obtain ⟨w3,hp3⟩:=o.pr.p
 generalize laidB (m1 1 1)=b1 at *
 have k18:CK prog 18 [.ptr (some (pid,0)),.agg [.int .i64 0,.int .i64 5,.str aR,.str aR,.int .i64 n,sl b,.int .i64 0]] H3 fun x H'=>x=sl (laidB m5)∧H'=H3:=c18_5b hp3 rfl aR aR (by decide) (by decide) 0 n 0 b m5_ok
 have k22:=c22m m5_ok
 have k44:=c44m m5_ok
 have hkd:m5.kind=3:=rfl
 have hT:∀X,Evo (fun _=>False) H3 X→CK prog 17 [.ptr (some (cid,0)),sl (laidB m5),.int .i64 1] X fun r H'=>r=.tup [.str [],.slice 0 [] (some 5)]∧Evo (fun _=>False) X H':=fun X e=>takeO (o.stay e) _ m5 k44 rfl (fun h=>absurd h.1 (by decide:¬sR=aR))
 clear k44
 generalize laidB m5=bm at *
 generalize m5=m at *
 have x4:Xt H3 ((H3++[z63o]).set H3.length (⟨63,m.d.cells,1⟩:PObj)):=((Xt.refl H3).app [z63o]).set (zqn _) _
 have g0:=gL H3 z63o
 have g1:((H3++[z63o]).set H3.length (⟨63,m.d.cells,1⟩:PObj))[H3.length]? = some (⟨63,m.d.cells,1⟩:PObj):=gS g0
 have hp4:=x4.get hp3
 have o4:=o.stay (Evo.xt x4)
 have k17:=hT _ (Evo.xt x4)
 (refine fnS (imm:=imm5) ttF_ok func5 ?_;(conv=>whnf))
 repeat (first | (first | ((first | (apply exA;(focus exact oN)) | refine bT ?_ | refine bF ?_ | refine bW (bT ?_) | refine bW (bF ?_) | (apply cP;(focus assumption)) | (apply cE;(focus assumption)) | refine ⟨by first | decide | omega,?_⟩);((conv=>whnf))) | ((conv in (_[_]?)=>tactic=>first | exact oL | exact gS (by assumption));(conv=>whnf))) | (refine dX ?_;(conv=>whnf)))
 refine drawK_of3 Dbeg [H1,H2] _ (by kernel_rfl) rfl trivial rfl ?_
 conv=>whnf
 repeat (first | (first | ((first | (apply exA;(focus exact oN)) | refine bT ?_ | refine bF ?_ | refine bW (bT ?_) | refine bW (bF ?_) | (apply cP;(focus assumption)) | (apply cE;(focus assumption)) | refine ⟨by first | decide | omega,?_⟩);((conv=>whnf))) | ((conv in (_[_]?)=>tactic=>first | exact oL | exact gS (by assumption));(conv=>whnf))) | (refine dX ?_;(conv=>whnf)))
 refine cO k17 ?_
 rintro _ H5 ⟨rfl,e5⟩
 obtain ⟨v5,ho5⟩:=(o4.stay e5).pr.cl.o
 obtain ⟨w5,hp5⟩:=(o4.stay e5).pr.p
 have k20:=c20 ho5
 obtain ⟨H9,k21⟩:=c21 H5
 conv=>whnf
 exact wR
theorem c5_6 (n:Int) (b:List UInt8) (hb:b.length≤500) (H:PH):CK prog 5 [.int .i64 6,.int .i64 n,sl b] H fun x _=>x=.bool true:=by
 have hb':¬(500:Int)<(b.length:Nat):=by omega
 obtain ⟨H1,H2,H3,pid,xid,cid,mid,ca,bid,w,w2,k13,hp1,k14,hp2,k16,o⟩:=start H 1 (by decide) (by decide)
 have k15:=c15
 obtain ⟨w3,hp3⟩:=o.pr.p
 generalize laidB (m1 1 1)=b1 at *
 have k18:CK prog 18 [.ptr (some (pid,0)),.agg [.int .i64 0,.int .i64 6,.str aR,.str aR,.int .i64 n,sl b,.int .i64 0]] H3 fun x H'=>x=sl (laidB m6)∧H'=H3:=c18_6b hp3 rfl aR aR (by decide) (by decide) (by decide) (by decide) 0 n 0 b m6_ok
 have k22:=c22m m6_ok
 have k44:=c44m m6_ok
 have hkd:m6.kind=3:=rfl
 have hT:∀X,Evo (fun _=>False) H3 X→CK prog 17 [.ptr (some (cid,0)),sl (laidB m6),.int .i64 1] X fun r H'=>r=.tup [.str [],.slice 0 [] (some 5)]∧Evo (fun _=>False) X H':=fun X e=>takeX (o.stay e) _ p6 p6_ok (by decide:¬(1:Int)+1=1) m6 k44 rfl rfl rfl rfl
 clear k44
 generalize laidB m6=bm at *
 generalize m6=m at *
 have x4:Xt H3 ((H3++[z63o]).set H3.length (⟨63,m.d.cells,1⟩:PObj)):=((Xt.refl H3).app [z63o]).set (zqn _) _
 have g0:=gL H3 z63o
 have g1:((H3++[z63o]).set H3.length (⟨63,m.d.cells,1⟩:PObj))[H3.length]? = some (⟨63,m.d.cells,1⟩:PObj):=gS g0
 have hp4:=x4.get hp3
 have o4:=o.stay (Evo.xt x4)
 have k17:=hT _ (Evo.xt x4)
 (refine fnS (imm:=imm5) ttF_ok func5 ?_;(conv=>whnf))
 repeat (first | (first | ((first | (apply exA;(focus exact oN)) | refine bT ?_ | refine bF ?_ | refine bW (bT ?_) | refine bW (bF ?_) | (apply cP;(focus assumption)) | (apply cE;(focus assumption)) | refine ⟨by first | decide | omega,?_⟩);((conv=>whnf))) | ((conv in (_[_]?)=>tactic=>first | exact oL | exact gS (by assumption));(conv=>whnf))) | (refine dX ?_;(conv=>whnf)))
 refine drawK_of3 Dbeg [H1,H2] _ (by kernel_rfl) rfl trivial rfl ?_
 conv=>whnf
 repeat (first | (first | ((first | (apply exA;(focus exact oN)) | refine bT ?_ | refine bF ?_ | refine bW (bT ?_) | refine bW (bF ?_) | (apply cP;(focus assumption)) | (apply cE;(focus assumption)) | refine ⟨by first | decide | omega,?_⟩);((conv=>whnf))) | ((conv in (_[_]?)=>tactic=>first | exact oL | exact gS (by assumption));(conv=>whnf))) | (refine dX ?_;(conv=>whnf)))
 refine cO k17 ?_
 rintro _ H5 ⟨rfl,e5⟩
 obtain ⟨v5,ho5⟩:=(o4.stay e5).pr.cl.o
 obtain ⟨w5,hp5⟩:=(o4.stay e5).pr.p
 have k20:=c20 ho5
 obtain ⟨H9,k21⟩:=c21 H5
 conv=>whnf
 exact wR
inductive Lend (H:PH):PV→PV→Prop
 | same (p:PV) (h:argQ p=true):Lend H p p
 | sref (id n cap:Nat) (ob:PObj) (cs:List PV) (h:H[id]? = some ob) (hc:∀(j:Nat) (c:PV),cs[j]? = some c→ob.cs[j]? = some c) (hf:cs.all flatP=true):Lend H (.sref id 0 n cap) (.slice n cs none)
 | snil (o:Nat):Lend H (.slice 0 [] (some o)) (.slice 0 [] (some o))
 | agg (xs ys:List PV) (hl:xs.length=ys.length) (h:∀(j:Nat) (a b:PV),xs[j]? = some a→ys[j]? = some b→Lend H a b):Lend H (.agg xs) (.agg ys)
inductive LendC (H:PH):List PV→List PV→Prop
 | nil:LendC H [] []
 | cons {a b:PV} {l l':List PV} (h:Lend H a b) (k:LendC H l l'):LendC H (a::l) (b::l')
inductive Lends (H:PH):List PV→List PV→Prop
 | nil:Lends H [] []
 | cons {a b:PV} {l l':List PV} (h:Lend H a b) (ho:isOwn a=false) (k:Lends H l l'):Lends H (a::l) (b::l')
section
variable {P : Program}
def lendG (g:Gh) (w:World) (H:PH):Gh:=⟨[],fun b o=>g.I b o∨∃(id:Nat) (ob:PObj),g.ι[id]? = some (some b)∧H[id]? = some ob∧kindAt w b=1∧o<ob.cs.length⟩
theorem Lend.v {g:Gh} {w:World} {H:PH} (hh:RelH P g w H) {p q:PV} (l:Lend H p q):∀{v:Value},V g w v p→V (lendG g w H) w v q:=by
 induction l with
 | same p h =>
  intro v hv
  exact argQ.v (P:=P) h (g:=g) (g':=lendG g w H) (fun b o k=>.inl k) hv.vc
 | sref id n cap ob cs h hc hf =>
  intro v hv
  obtain ⟨b,rfl,hb,hn,hk⟩:=hv.inv_sref
  obtain ⟨us,o1,o2,o3⟩:=hh.obj id b ob h hb hk
  refine .slice b 0 n cap cs (fun j=>us.getD j undef) hn (fun j c hj=>?_) fun j c hj=>?_
  ·have h1:=hc j c hj
   have hlt:=(zq1.1 h1).1
   refine ⟨.inr ⟨id,ob,hb,h,hk,by omega⟩,?_⟩
   rw [cell?_cells o1,Nat.zero_add]
   have:j<us.size:=by omega
   simp [this]
  ·obtain ⟨u,y1,y2⟩:=o3 j c (hc j c hj)
   have hcf:flatP c=true:=List.all_eq_true.1 hf c (List.mem_of_getElem? hj)
   simp only [Array.getD_eq_getD_getElem?,y1,Option.getD_some]
   exact (y2.flat hcf).flat hcf
 | snil o =>
  intro v hv
  obtain ⟨rfl,_,_⟩:=hv.own_nil
  exact .snil _
 | agg xs ys hl h ih =>
  intro v hv
  cases hv with
  | agg vs _ h1 h2 =>
   refine .agg vs ys (h1.trans hl) fun j c hj=>?_
   have hlt:=(zq1.1 hj).1
   have ha:xs[j]? = some xs[j]:=zqc (by omega)
   exact ih j _ c ha hj (h2 j _ ha)
theorem LendC.len {H:PH} {xs ys:List PV} (h:LendC H xs ys):xs.length=ys.length:=by
 induction h with
 | nil=>rfl
 | cons h k ih=>simp [ih]
theorem Lend.aggL {H:PH} {xs ys:List PV} (h:LendC H xs ys):Lend H (.agg xs) (.agg ys):=by
 refine .agg xs ys h.len ?_
 induction h with
 | nil=>intro j a b h;cases h
 | cons h k ih =>
  intro j a b h1 h2
  cases j with
  | zero=>cases h1;cases h2;exact h
  | succ j=>exact ih j a b h1 h2
theorem Lends.get {H:PH} {l l':List PV} (h:Lends H l l'):∀(i t:Nat),(Lend H ((args0 i l).get t) ((args0 i l').get t)∧isOwn ((args0 i l).get t)=false)∨((args0 i l').get t=.undef):=by
 induction h with
 | nil=>intro i t;exact .inr rfl
 | cons h ho k ih =>
  intro i t
  show (Lend H (Env.get ((i,_)::args0 (i+1) _) t) (Env.get ((i,_)::args0 (i+1) _) t)∧isOwn (Env.get ((i,_)::args0 (i+1) _) t)=false)∨Env.get ((i,_)::args0 (i+1) _) t=.undef
  rw [Env.get_cons,Env.get_cons]
  by_cases e:i=t
  ·rw [zqp e,zqp e];exact .inl ⟨h,ho⟩
  ·rw [zqo e,zqo e];exact ih (i+1) t
theorem Lends.len {H:PH} {l l':List PV} (h:Lends H l l'):l.length=l'.length:=by
 induction h with
 | nil=>rfl
 | cons h ho k ih=>simp [ih]
theorem Lend.V' {g:Gh} {w:World} {H:PH} {p q:PV} (l:Lend H p q) (ho:isOwn p=false) {v:Value} (hv:VC P g w v p):V g w v p:=by
 cases l with
 | same p h =>
  unfold argQ at h
  simp only [zqb,Bool.not_eq_true'] at h
  obtain ⟨⟨h1,h2⟩,h3⟩:=h
  exact hv.V' (fun cs e=>by subst e;cases h3) h2
 | sref id n cap ob cs h hc hf=>exact hv.V' (fun cs e=>by cases e) rfl
 | snil o=>cases ho
 | agg xs ys hl h=>exact hv.V' (fun cs e=>by cases e) rfl
def lendR:PV→Bool
 | .slice _ cs (some _)=>cs.all flatP
 | p=>flatP p
theorem lendR.not_tup {p:PV} (h:lendR p=true):∀cs,p≠.tup cs:=fun cs e=>by subst e;cases h
theorem CallOk_lend {f:Nat} {args args':List PV} {p:PV} {H:PH} (hp:lendR p=true) (ha:Lends H args args') (h:CK P f args' [] fun r _=>r=p):CK P f args H fun r H'=>r=p∧H'=H:=by
 intro g w vs hs hrel
 have hh:=hrel.h
 have h0:∀t,V (lendG g w H) w (Ps.valOf vs t) ((args0 0 args').get t):=fun t=>by
  rcases ha.get 0 t with hc | hu
  ·exact hc.1.v hh (hc.1.V' hc.2 (hrel.e t))
  ·rw [hu];exact .undef _
 have hnil:∀(id:Nat) (x:Option Nat),(lendG g w H).ι[id]? = some x→False:=fun id x k=>by
  have k:([]:List (Option Nat))[id]? = some x:=k
  cases k
 have hr0:Rel P (lendG g w H) w (Ps.valOf vs) (args0 0 args') []:=by
  refine ⟨⟨rfl,fun id id' b k=>(hnil _ _ k).elim,fun id b o k k2=>(hnil _ _ k2).elim,fun id b o k k2=>(hnil _ _ k2).elim,fun b o k=>⟨fun id k2=>(hnil _ _ k2).elim,?_⟩⟩,fun t=>(h0 t).vc,fun t i t' i' b k=>absurd k (no_own (h0 t) i b),fun t i b k=>absurd k (no_own (h0 t) i b),fun id j id' j' b k=>?_⟩
  ·rcases k with k | ⟨id,ob,k1,k2,k3,k4⟩
   ·exact (hh.imm b o k).2
   ·obtain ⟨us,o1,o2,o3⟩:=hh.obj id b ob k2 k1 k3
    exact ⟨us,_,_,o1,by omega⟩
  ·obtain ⟨_,_,_,_,k,_⟩:=k
   cases k
 refine (h _ w vs (by rw [←ha.len];exact hs) hr0).mono ?_
 rintro e w' ⟨v,r,H',g',rfl,rfl,hr',hb,hnew,_⟩
 have hnocell:∀b,¬cellOwn (lendG g w H) w [] b:=fun b ⟨_,_,_,_,_,_,k,_⟩=>by cases k
 have hnew:∀i b,ownAt v r i b→w.heap.size≤b:=fun i b k=>(hnew i b k).resolve_right (hnocell b)
 have heq:∀b,b<w.heap.size→w'.heap[b]? = w.heap[b]?:=fun b hlt=>(hb.far b hlt (fun id k=>(hnil _ _ k).elim) (hnocell b)).1
 obtain ⟨gF,hgF⟩:∃gF:Gh,gF=⟨g.ι,fun b o=>g'.I b o∧(b<w.heap.size→g.I b o)⟩:=⟨_,rfl⟩
 have hFI:∀b o,gF.I b o↔(g'.I b o∧(b<w.heap.size→g.I b o)):=fun b o=>by rw [hgF]
 have hFι:gF.ι=g.ι:=by rw [hgF]
 have hkeep:Keeps g w gF w':=⟨fun _ _ h=>by rw [hFι];exact h,fun b o hi=>⟨(hFI b o).2 ⟨(hb.keeps.I b o (.inl hi)).1,fun _=>hi⟩,(hb.keeps.I b o (.inl hi)).2⟩,fun _ b hi=>kindAt_of_heap (heq b (hh.lt hi))⟩
 have hquiet:∀b,b<w.heap.size→(∀(id:Nat),g.ι[id]?≠some (some b))→Quiet g w gF w' b:=fun b h1 h2=>⟨heq b h1,fun o k=>((hFI b o).1 k).2 h1,by rw [hFι];exact h2⟩
 have hcell:∀id j b,cellOwnAt gF w' H id j b→cellOwnAt g w H id j b:=by
  rintro id j b ⟨o,c,b0,u,k1,k2,k3,k4,k5,k6⟩
  rw [hFι] at k4
  exact ⟨o,c,b0,u,k1,k2,k3,k4,(cell?_of_heap (heq b0 (hh.lt k4)) j).symm.trans k5,k6⟩
 have hι:∀b,w.heap.size≤b→∀(id:Nat),gF.ι[id]?≠some (some b):=fun b hb id k=>by rw [hFι] at k;have:=hh.lt k;omega
 have hRC:VC P gF w' v r:=by
  have h0:VC P g' w' v r:=hr'.e 0
  have hrt:=lendR.not_tup hp
  have h1:VH P g' w' v r:=by
   cases r with
   | tup cs=>exact absurd rfl (hrt cs)
   | _=>exact h0
  have h2:VH P gF w' v r:=by
   rcases h1 with h1 | ⟨n,cs,e,b,rfl,hv,hf⟩
   ·by_cases hfl:flatP r=true
    ·exact .inl (h1.flat hfl)
    ·cases r with
     | slice n cs o =>
      cases o with
      | some e =>
       obtain ⟨rfl,rfl,rfl⟩:=h1.own_nil
       exact .inl (.snil _)
      | none=>exact absurd hp hfl
     | _=>exact absurd hp hfl
   ·have hbn:w.heap.size≤b:=hnew 0 b ⟨rfl,rfl,hf.blk⟩
    refine .inr ⟨n,cs,e,b,rfl,?_,⟨hf.ex,hι b hbn,fun o ho k=>hf.spare o ho ((hFI b o).1 k).1⟩⟩
    obtain ⟨cap,us,rfl,hle,hus,hp0,hcl,huz⟩:=hf.ex
    cases hv with
    | slice _ _ _ _ _ u hn h1 h2 =>
     exact .slice b 0 n cap cs u hn (fun j c hj=>⟨(hFI _ _).2 ⟨(h1 j c hj).1,fun hlt=>absurd hlt (by omega)⟩,(h1 j c hj).2⟩) fun j c hj=>(h2 j c hj).flat (List.all_eq_true.1 hp c (List.mem_of_getElem? hj))
  cases r with
  | tup cs=>exact absurd rfl (hrt cs)
  | _=>exact h2
 refine ⟨v,r,H,gF,rfl,⟨rfl,rfl⟩,⟨⟨by rw [hFι];exact hh.len,by rw [hFι];exact hh.inj,fun id b o k1 k2=>?_,fun id b o k1 k2 hk1=>?_,fun b o k=>?_⟩,fun t=>?_,hr'.ss,fun t i b k k'=>?_,fun id j id' j' b k k'=>hrel.cc id j id' j' b (hcell _ _ _ k) (hcell _ _ _ k')⟩,
  ⟨⟨fun _ o h=>⟨o,h,zqn _⟩,fun _ _ _ _ hi k1 k2 _=>(heq _ (hh.lt hi))⟩,hb.os,hb.tape,hb.output,hb.size,hkeep,fun _ _ h=>.inl (by rw [hFι] at h;exact h),fun b hlt _ _=>⟨heq b hlt,fun o k=>((hFI b o).1 k).2 hlt⟩,fun _ h=>by rw [hFι];exact h⟩,
  fun i b k=>.inl (hnew i b k),fun b ⟨id,j,k⟩=>.inr ⟨id,j,hcell _ _ _ k⟩⟩
 ·rw [hFι] at k2
  exact hh.fullKeep hkeep (heq b (hh.lt k2)) k1 k2
 ·rw [hFι] at k2
  obtain ⟨vs',k3,k4,k5⟩:=hh.obj id b o k1 k2 ((hkeep.kind id b k2).symm.trans hk1)
  refine ⟨vs',(heq b (heap_lt k3)).trans k3,k4,fun j c hj=>?_⟩
  obtain ⟨u,k6,k7⟩:=k5 j c hj
  refine ⟨u,k6,k7.mono hkeep fun b' ho hb'=>?_⟩
  obtain ⟨n,cs,e',_,_,hf⟩:=k7.own ho hb'
  exact hquiet b' (ownF_lt hf) hf.obj
 ·obtain ⟨k1,k2⟩:=(hFI b o).1 k
  refine ⟨fun id hid=>?_,(hr'.h.imm b o k1).2⟩
  rw [hFι] at hid
  exact (hh.imm b o (k2 (hh.lt hid))).1 id hid
 ·rw [Env.get_cons]
  unfold one
  by_cases e:t=0
  ·rw [zqp e,zqp e.symm];exact hRC
  ·rw [zqo e,zqo (Ne.symm e)];exact (V.undef _).vc
 ·obtain ⟨id,j,k'⟩:=k'
  obtain ⟨n,cs,e,u,hf⟩:=hh.cown (hcell _ _ _ k')
  have h1:=ownF_lt hf
  rw [Env.get_cons] at k
  unfold one at k
  by_cases e:t=0
  ·rw [zqp e,zqp e.symm] at k
   have:=hnew i b k;omega
  ·rw [zqo (Ne.symm e)] at k;cases k.2.1
end
section
variable {P : Program}
theorem CallOk_objT {f:Nat} {args:List PV} {H:PH} {n e0 sz:Nat} {cs:List PV} {y:PV} (hy:flatP y=true) (h:CK P f args H fun r H'=>r=.tup [.slice n cs (some e0),y]∧H'=H) (hn:0<n) (hps:psize P e0=sz) (hfl:cs.all flatP=true) :
  CK P f args H fun r H'=>∃cap k,n≤cap∧cs.length+k=cap*sz∧r=.tup [.sref H.length 0 n cap,y]∧H'=H++[⟨e0,cs++List.replicate k .undef,0⟩]:=by
 intro g w vs hs hr
 refine (h g w vs hs hr).mono ?_
 rintro e w' ⟨v,r,H',g',rfl,⟨rfl,rfl⟩,hr',st,ho,hc⟩
 obtain ⟨vs2,rfl,hs2,hV2⟩:∃vs2:Array Value,v=.tuple vs2∧vs2.size=[PV.slice n cs (some e0),y].length∧∀(j:Nat) (c:PV),[PV.slice n cs (some e0),y][j]? = some c→VH P g' w' (vs2.getD j Go.undef) c:=hr'.e 0
 obtain ⟨v0,hv0⟩:∃v0,vs2.getD 0 Go.undef=v0:=⟨_,rfl⟩
 have h0:VH P g' w' v0 (.slice n cs (some e0)):=by rw [←hv0];exact hV2 0 _ rfl
 have hV1:VH P g' w' (vs2.getD 1 Go.undef) y:=hV2 1 _ rfl
 have hyo:isOwn y=false:=by cases y <;> first | rfl | cases hy
 obtain ⟨b,hv,hf⟩:∃b,V g' w' v0 (.slice n cs none)∧OwnF P g' w' v0 n cs e0 b:=by
  rcases h0 with h0 | ⟨n',cs',e',b,he,hv,hf⟩
  ·have:=h0.own_nil.2.1
   omega
  ·cases he
   exact ⟨b,hv,hf⟩
 obtain ⟨cap,us,rfl,hle,hus,hp0,hcl,huz⟩:=hf.ex
 rw [hps] at hp0 hcl huz
 have hlen:g.ι.length=H'.length:=hr.h.len
 have hlen':g'.ι.length=H'.length:=hr'.h.len
 have hown1:ownAt (.tuple vs2) (.tup [.slice n cs (some e0),y]) 0 b:=⟨_,rfl,rfl,vs2,rfl,by rw [hv0];rfl⟩
 have hown:ownAt (one (.tuple vs2) 0) (Env.get [(0,.tup [.slice n cs (some e0),y])] 0) 0 b:=hown1
 have hnc:¬cellOwn g' w' H' b:=hr'.sc 0 0 b hown
 have hheap:∀(id b1:Nat) (o:PObj),g.ι[id]? = some (some b1)→H'[id]? = some o→w'.heap[b1]? = w.heap[b1]?:=fun id b1 o h1 h2=>(st.fr.same id b1 o o h1 h2 h2 rfl)
 have hfull:∀(id b1:Nat),id<H'.length→g'.ι[id]? = some (some b1)→g.ι[id]? = some (some b1):=fun id b1 hl h=>by
  have hlt:id<g.ι.length:=by omega
  cases hx:g.ι[id] with
  | some b0 =>
   have k1:g.ι[id]? = some (some b0):=by rw [zqc hlt,hx]
   have k2:=st.keeps.ι id b0 k1
   rw [h] at k2
   cases k2
   exact k1
  | none =>
   have:=st.nil id (by rw [zqc hlt,hx])
   rw [h] at this;cases this
 have hcellold:∀id j b1,cellOwnAt g w H' id j b1→cellOwnAt g' w' H' id j b1:=fun id j b1 ⟨o,c,b0,u,h1,h2,h3,h4,h5,h6⟩ =>
  ⟨o,c,b0,u,h1,h2,h3,st.keeps.ι _ _ h4,by
   obtain ⟨vs1,k1,_⟩:=hr.h.obj id b0 o h1 h4 (cell_kind h5)
   have k2:=(hheap id b0 o h4 h1).trans k1
   rw [cell?_cells k2,←cell?_cells k1];exact h5,h6⟩
 have hnew:w.heap.size≤b:=by
  rcases ho 0 b hown1 with h | ⟨id,j,h⟩
  ·exact h
  ·exact absurd ⟨id,j,hcellold id j b h⟩ hnc
 let g2:Gh:=⟨g'.ι++[some b],fun b1 o=>g'.I b1 o∧b1≠b⟩
 have hι:∀(id b1:Nat),g2.ι[id]? = some (some b1)→(id<H'.length∧g'.ι[id]? = some (some b1))∨(id=H'.length∧b1=b):=fun id b1 hi=>by
  by_cases hl:id<H'.length
  ·exact .inl ⟨hl,by rw [←hi];exact (zq2 (by omega)).symm⟩
  ·have hlt:=(zq1.1 hi).1
   simp only [g2,zqf,List.length_cons,List.length_nil] at hlt
   have e:id=g'.ι.length:=by omega
   subst e
   have:(g'.ι++[some b])[g'.ι.length]? = some (some b):=by simp
   rw [show g2.ι[g'.ι.length]? = (g'.ι++[some b])[g'.ι.length]? from rfl,this] at hi
   cases hi
   exact .inr ⟨hlen',rfl⟩
 have hold:∀(id b1:Nat),g'.ι[id]? = some (some b1)→g2.ι[id]? = some (some b1):=fun id b1 hi=>by
  have hlt:=(zq1.1 hi).1
  rw [←hi];exact zq2 hlt
 have hat:g2.ι[H'.length]? = some (some b):=by
  show (g'.ι++[some b])[H'.length]? = _
  rw [←hlen'];simp
 have hkeep:Keeps g w g2 w':=⟨fun id b1 hi=>hold _ _ (st.keeps.ι id b1 hi),fun b1 o hi=>⟨⟨(st.keeps.I b1 o hi).1,fun e=>by
  have:=hr.h.ilt hi
  omega⟩,(st.keeps.I b1 o hi).2⟩,fun id b1 hi=>st.keeps.kind id b1 hi⟩
 have hget2:∀(t:Nat) (x:PObj),(H'++[x])[t]? = if t<H'.length then H'[t]? else if t=H'.length then some x else none:=fun t x=>by
  split
  ·exact zq2 (by assumption)
  ·split
   ·rename_i h1 h2;subst h2;simp
   ·rw [List.getElem?_eq_none (by simp;omega)]
 generalize hX:PObj.mk e0 (cs++List.replicate (cap*sz - cs.length) .undef) 0=X
 have hXc:∀(j:Nat) (c:PV),X.cs[j]? = some c→(flatP c=true∧cs[j]? = some c)∨(c=.undef∧j<cap*sz):=fun j c hj=>by
  subst hX
  by_cases hl:j<cs.length
  ·rw [zq2 hl] at hj
   exact .inl ⟨List.all_eq_true.1 hfl c (List.mem_of_getElem? hj),hj⟩
  ·rw [zqi (by omega)] at hj
   have h1:=(zq1.1 hj).1
   rw [List.length_replicate] at h1
   rw [List.getElem?_replicate,zqp h1] at hj
   exact .inr ⟨(Option.some.inj hj).symm,by omega⟩
 have hcc:∀id j b1,cellOwnAt g2 w' (H'++[X]) id j b1→cellOwnAt g' w' H' id j b1:=fun id j b1 ⟨o,c,b0,u,h1,h2,h3,h4,h5,h6⟩=>by
  rcases hι _ _ h4 with ⟨k1,k2⟩ | ⟨k1,k2⟩
  ·rw [zq2 k1] at h1
   exact ⟨o,c,b0,u,h1,h2,h3,k2,h5,h6⟩
  ·subst k1
   have:(H'++[X])[H'.length]? = some X:=by simp
   rw [this] at h1;cases h1
   rcases hXc j c h2 with ⟨q,_⟩ | ⟨rfl,_⟩
   ·cases c <;> first | (cases q;done) | (cases h3;done)
   ·cases h3
 have hno1:∀i b1,¬ownAt (.tuple vs2) (.tup [.sref H'.length 0 n cap,y]) i b1:=fun i b1 ⟨c,k1,k2,_⟩=>by
  match i,k1 with
  | 0,k1=>cases k1;cases k2
  | 1,k1=>cases k1;rw [hyo] at k2;cases k2
  | _+2,k1=>simp at k1
 have hno:∀t i b1,¬ownAt (one (.tuple vs2) t) (Env.get [(0,.tup [.sref H'.length 0 n cap,y])] t) i b1:=fun t i b1 h=>by
  rw [Env.get_cons] at h
  unfold one at h
  by_cases e:t=0
  ·rw [zqp e,zqp e.symm] at h;exact hno1 i b1 h
  ·rw [zqo (Ne.symm e)] at h;cases h.2.1
 have hcs:cs.length≤cap*sz:=by rw [hcl];exact Nat.mul_le_mul_right _ hle
 refine ⟨_,.tup [.sref H'.length 0 n cap,y],H'++[X],g2,rfl,⟨cap,cap*sz - cs.length,hle,by omega,rfl,by rw [hX]⟩,⟨⟨?_,fun id id' b1 h1 h2=>?_,fun id b1 o h1 h2=>?_,fun id b1 o h1 h2 hk1=>?_,fun b1 o hi=>?_⟩,fun t=>?_,fun t i t' i' b1 h _=>absurd h (hno t i b1),fun t i b1 h _=>hno t i b1 h,fun id j id' j' b1 h1 h2=>hr'.cc id j id' j' b1 (hcc _ _ _ h1) (hcc _ _ _ h2)⟩,
  ⟨⟨fun id o h=>⟨o,by rw [zq2 (zq1.1 h).1];exact h,zqn _⟩,fun id b1 o o' hi h1 h2 hv=>?_⟩,st.os,st.tape,st.output,st.size,hkeep,fun id b1 hi=>?_,fun b1 hb h1 h2=>?_,fun id h=>?_⟩,
  fun i b1 h=>?_,fun b1 ⟨id,j,h1⟩=>hc b1 ⟨id,j,hcc _ _ _ h1⟩⟩
 ·show (g'.ι++[some b]).length=_
  simp [hlen']
 ·rcases hι _ _ h1 with ⟨a1,a2⟩ | ⟨a1,a2⟩ <;> rcases hι _ _ h2 with ⟨c1,c2⟩ | ⟨c1,c2⟩
  ·exact hr'.h.inj id id' b1 a2 c2
  ·subst c2;exact absurd a2 (hf.obj id)
  ·subst a2;exact absurd c2 (hf.obj id')
  ·omega
 ·rcases hι _ _ h2 with ⟨a1,a2⟩ | ⟨a1,a2⟩
  ·rw [zq2 a1] at h1
   have hg:=hfull id b1 a1 a2
   exact hr.h.fullKeep hkeep (hheap id b1 o hg h1) h1 hg
  ·subst a2;exact .inl (kindAt_cells hus)
 ·rcases hι _ _ h2 with ⟨a1,a2⟩ | ⟨a1,a2⟩
  ·rw [zq2 a1] at h1
   obtain ⟨us1,k1,k2,k3⟩:=hr'.h.obj id b1 o h1 a2 hk1
   have hg:=hfull id b1 a1 a2
   obtain ⟨us2,z1,z2,z3⟩:=hr.h.obj id b1 o h1 hg ((st.keeps.kind id b1 hg).symm.trans hk1)
   have:=(hheap id b1 o hg h1).trans z1
   rw [k1] at this
   cases this
   refine ⟨us1,k1,k2,fun j c hj=>?_⟩
   obtain ⟨u,y1,y2⟩:=k3 j c hj
   obtain ⟨u',x1,x2⟩:=z3 j c hj
   rw [y1] at x1;cases x1
   refine ⟨u,y1,?_⟩
   rcases x2 with x2 | ⟨nn,cc,ee,bb,rfl,xv,xf⟩
   ·exact .inl (x2.mono hkeep)
   ·rcases y2 with y2 | ⟨_,_,_,bb',he,yv,yf⟩
    ·obtain ⟨rfl,rfl,rfl⟩:=y2.own_nil
     exact .inl (.snil _)
    ·cases he
     refine .inr ⟨nn,cc,ee,bb',rfl,xv.mono hkeep,⟨yf.ex,fun id2 hi=>?_,fun o2 ho2 hi=>yf.spare o2 ho2 hi.1⟩⟩
     rcases hι _ _ hi with ⟨_,q⟩ | ⟨_,q⟩
     ·exact yf.obj id2 q
     ·subst q
      exact hnc ⟨id,j,o,_,b1,u,h1,hj,rfl,a2,by rw [cell?_cells k1];exact y1,yf.blk⟩
  ·subst a1;subst a2
   have:(H'++[X])[H'.length]? = some X:=by simp
   rw [this] at h1;cases h1
   refine ⟨us,by rw [←hX];exact hus,?_,fun j c hj=>?_⟩
   ·rw [←hX]
    simp only [zqf,List.length_replicate]
    omega
   ·rcases hXc j c hj with ⟨q1,q2⟩ | ⟨rfl,q2⟩
    ·obtain ⟨u,x1,x2⟩:=Imm.flatAt hv q2
     rw [Nat.zero_add,cell?_cells hus] at x1
     exact ⟨u,x1,.inl (x2.flat q1)⟩
    ·have hj2:j<us.size:=by omega
     exact ⟨us[j],by simp [hj2],.inl (.undef _)⟩
 ·obtain ⟨k1,k2⟩:=hr'.h.imm b1 o hi.1
  refine ⟨fun id h2=>?_,k2⟩
  rcases hι _ _ h2 with ⟨_,q⟩ | ⟨_,q⟩
  ·exact k1 id q
  ·exact hi.2 q
 ·rw [Env.get_cons]
  unfold one
  by_cases e:t=0
  ·rw [zqp e,zqp e.symm]
   refine ⟨vs2,rfl,hs2,fun j c hj=>?_⟩
   match j,hj with
   | 0,hj=>cases hj;rw [hv0];exact .inl (V.sref _ b 0 n cap hat hle (kindAt_cells hus))
   | 1,hj=>cases hj;exact .inl ((hV1.flat hy).flat hy)
   | _+2,hj=>simp at hj
  ·rw [zqo e,zqo (Ne.symm e)];exact (V.undef _).vc
 ·have hl:=(zq1.1 h1).1
  rw [zq2 hl,h1] at h2
  cases h2
  exact hheap id b1 o hi h1
 ·rcases hι _ _ hi with ⟨_,q⟩ | ⟨_,q⟩
  ·exact st.ι id b1 q
  ·subst q;exact .inr hnew
 ·obtain ⟨k1,k2⟩:=st.far b1 hb h1 h2
  exact ⟨k1,fun o hi=>k2 o hi.1⟩
 ·have:=st.nil id h
  have hlt:=(zq1.1 this).1
  rw [←this];exact zq2 hlt
 ·exact absurd h (hno1 _ _)
end
def rpC (r n sr sn:List UInt8) (kv:Int) (tb:List UInt8) (blob:PV):List PV:=(rpM r n sr sn kv tb []).cells.set 22 blob
def rpE (r n sr sn:List UInt8) (kv:Int) (tb:List UInt8) (blob:PV):List PV:=(rpM r n sr sn kv tb []).d.cells.set 22 blob
theorem lend_rp {H:PH} {id cap:Nat} {ob:PObj} (r n sr sn:List UInt8) (kv:Int) (bl:List UInt8) (ho:H[id]? = some ob) (hc:∀(j:Nat) (c:PV),(bl.map bC)[j]? = some c→ob.cs[j]? = some c) :
  Lends H [.agg (rpE r n sr sn kv [1,2] (.sref id 0 bl.length cap))] [.agg (rpM r n sr sn kv [1,2] bl).d.cells]:=by
 have hl:Lend H (.sref id 0 bl.length cap) (sl bl):=.sref id bl.length cap ob (bl.map bC) ho hc (allFlat bl)
 refine .cons (.aggL ?_) rfl .nil
 show LendC H (rpE r n sr sn kv [1,2] (.sref id 0 bl.length cap)) (rpE r n sr sn kv [1,2] (sl bl))
 repeat first
  | exact LendC.nil
  | refine LendC.cons hl ?_
  | refine LendC.cons (Lend.same _ rfl) ?_
theorem c24s {H:PH} {id cap:Nat} {ob:PObj} (r n sr sn:List UInt8) (kv:Int) (bl:List UInt8) (ho:H[id]? = some ob) (hc:∀(j:Nat) (c:PV),(bl.map bC)[j]? = some c→ob.cs[j]? = some c)
  (hm:msgOk (rpM r n sr sn kv [1,2] bl)) :
  CK prog 24 [.agg (rpC r n sr sn kv [1,2] (.sref id 0 bl.length cap))] H fun x H'=>x=.tup [sl (laidB (rpM r n sr sn kv [1,2] bl)),.int .i64 0]∧H'=H:=by
 refine (CK.gc (Q:=fun x H'=>x=.tup [sl (laidB (rpM r n sr sn kv [1,2] bl)),.int .i64 0]∧∃ext,H'=H++ext) ?_ (fun x H' h=>⟨by rw [h.1,←encV_yes ⟨hm.1,hm.2.1⟩];exact encV_old _,h.2⟩)).mono (fun x H' h=>⟨h.2.choose_spec.1,h.1⟩)
 have hb:=hm.1
 have k61:CK prog 61 [.agg (rpE r n sr sn kv [1,2] (.sref id 0 bl.length cap))] H fun x H'=>x=.bool true∧H'=H :=
  CallOk_lend rfl (lend_rp r n sr sn kv bl ho hc) ((c61 (rpM r n sr sn kv [1,2] bl).d hm.2.2 []).mono fun x H' h=>h.1.trans (by rw [show isB (rpM r n sr sn kv [1,2] bl).d=isB (rpM r n sr sn kv [1,2] bl) from rfl,hb]))
 have hi:=hm.1
 unfold isB at hi
 have hi:=(zqb _ _▸hi:_∧_).1
 have hi:(isPrincB r n&&tickB sr sn kv 2&&inZ bl.length 1 800)=true:=hi
 simp only [zqb] at hi
 have g1:=princ_len hi.1.1
 have g2:=tick_len hi.1.2
 have g3:=inZ_le hi.2
 have e0:=princE_len r n
 have e1:=ticketE_len sr sn kv [1,2]
 have e2:=wrapB_len 4 bl
 have hw:=wrapB_len 107 [princE r n,ticketE sr sn kv [1,2],wrapB 4 bl].flatten
 have h2:([1,2]:List UInt8).length=2:=rfl
 rw [h2] at e1
 simp only [zqk,zql,zqf,List.length_nil] at hw
 have hlen:(wrapB 107 [princE r n,ticketE sr sn kv [1,2],wrapB 4 bl].flatten).length≤2000:=by simp only [zqk,zql];omega
 have hl:laidB (rpM r n sr sn kv [1,2] bl)=wrapB 107 [princE r n,ticketE sr sn kv [1,2],wrapB 4 bl].flatten:=rfl
 have k67:CK prog 67 [.sref id 0 bl.length cap] H fun x H'=>x=slo (wrapB 4 bl) (some 5)∧H'=H :=
  CallOk_lend (allFlat _) (.cons (.sref id bl.length cap ob (bl.map bC) ho hc (allFlat bl)) rfl .nil) ((c67 bl none (by omega) []).mono fun x H' h=>h.1)
 have k64:=c64 r n (by omega) (by omega)
 have k66:=c66 sr sn kv [1,2] none (by omega) (by omega) (by rw [h2];omega)
 have k63:=c63 107 [princE r n,ticketE sr sn kv [1,2],wrapB 4 bl] (by simp) (by simp only [zqk,zql,zqf,List.length_nil];omega)
 have k62:=c62 _ hlen
 rw [hl]
 (refine fnS (imm:=imm24) ttL_ok func24 ?_;(conv=>whnf))
 clear hw e0 e1 e2 g1 g2 g3 hlen hl h2 hi
 have n1:¬(rpM r n sr sn kv [1,2] []).kind=1:=by show ¬(3:Int)=1;decide
 have n2:¬(rpM r n sr sn kv [1,2] []).kind=2:=by show ¬(3:Int)=2;decide
 have n3:(rpM r n sr sn kv [1,2] []).kind=3:=rfl
 repeat (first | (first | ((first | (apply exA;(focus exact oN)) | refine bT ?_ | refine bF ?_ | refine bW (bT ?_) | refine bW (bF ?_) | (apply cP;(focus assumption)) | (apply cE;(focus assumption)) | refine ⟨by first | decide | omega,?_⟩);((conv=>whnf))) | ((conv in (_[_]?)=>tactic=>first | exact oL | exact gS (by assumption));(conv=>whnf))) | (refine dX ?_;(conv=>whnf)))
 refine dP2 (by kernel_rfl) ?_
 conv=>whnf
 repeat (first | (first | ((first | (apply exA;(focus exact oN)) | refine bT ?_ | refine bF ?_ | refine bW (bT ?_) | refine bW (bF ?_) | (apply cP;(focus assumption)) | (apply cE;(focus assumption)) | refine ⟨by first | decide | omega,?_⟩);((conv=>whnf))) | ((conv in (_[_]?)=>tactic=>first | exact oL | exact gS (by assumption));(conv=>whnf))) | (refine dX ?_;(conv=>whnf)))
 exact ⟨rfl,Ext.refl _⟩
end Go.Proofs.Tryz
