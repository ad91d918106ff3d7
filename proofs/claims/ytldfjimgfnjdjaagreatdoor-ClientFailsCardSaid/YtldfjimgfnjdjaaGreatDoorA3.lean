import Derived.Test.YtldfjimgfnjdjaaGreatDoorA2
import Derived.Below
import Derived.Maps.RangeRun
import Derived.Tactics
import Derived.Tactics2
import Derived.Defers
import Derived.Laws.Pointers
import Derived.Laws.LoneSync
import Derived.RegionTactic
import Derived.RegionCalls
set_option linter.all false
set_option maxRecDepth 100000
set_option maxHeartbeats 2000000
namespace Go.Proofs.Tryz
open Go Ps
theorem c61 (m:Msg) (hm:m.fits):Pure prog 61 [.agg m.cells] (.bool (isB m)):=by
 intro H
 (refine fnS (imm:=imm61) ttGm_ok func61 ?_;(conv=>whnf))
 refine cutK_of [(1,.elem m.cells),(3,.int .i64 m.kind),(4,.bool (noAs m)),(5,.bool (noTgs m))] H ?_ ?_
 rotate_left
 ·refine dP2 (by kernel_rfl) ?_
  conv=>whnf
  iterate 3 (refine dS ?_;(conv=>whnf))
  cases f1:noAs m
  ·refine ⟨.bool false,?_,?_⟩
   ·conv=>whnf
    refine ⟨⟨fitA _ _ _ _ _ _,fitA [] [] [] [] 0 0⟩,?_⟩
    conv=>whnf
    exact ⟨fun h=>(of_decide_eq_false f1 (Iff.mp as_eq h)).elim,fun _=>⟨rfl,rfl,zqv⟩⟩
   conv=>whnf
   iterate 3 (refine dS ?_;(conv=>whnf))
   refine ⟨_,cP (c105 m.t1 m.t2 m.tKv m.tB none) ⟨rfl,rfl,zqv⟩,?_⟩
   conv=>whnf
   cases f2:noTk m.t1 m.t2 m.tKv m.tB.length
   ·skip
    iterate 28 (refine dS ?_;(conv=>whnf))
    exact ⟨(),trivial,⟨rfl,rfl,rfl,zqm PV.bool (by unfold noTgs;simp only [f2,zq6,zq5,zq3,zq4]),zqv⟩,rfl⟩
   iterate 5 (refine dS ?_;(conv=>whnf))
   cases f3:decide (m.tAu.length=0)
   ·refine ⟨.bool false,?_,?_⟩
    ·conv=>whnf
     exact ⟨fun h=>(of_decide_eq_false f3 (Iff.mp nat0 h)).elim,fun _=>⟨rfl,rfl,zqv⟩⟩
    conv=>whnf
    iterate 22 (refine dS ?_;(conv=>whnf))
    exact ⟨(),trivial,⟨rfl,rfl,rfl,zqm PV.bool (by unfold noTgs;simp only [f2,f3,zq6,zq5,zq3,zq4]),zqv⟩,rfl⟩
   refine ⟨.bool true,?_,?_⟩
   ·conv=>whnf
    exact ⟨fun _=>⟨rfl,rfl,zqv⟩,fun h=>(h (Iff.mpr nat0 (of_decide_eq_true f3))).elim⟩
   conv=>whnf
   iterate 6 (refine dS ?_;(conv=>whnf))
   cases f4:decide (m.t3=[]∧m.t4=[])
   ·refine ⟨.bool false,?_,?_⟩
    ·conv=>whnf
     refine ⟨⟨fitG _ _,fitG [] []⟩,?_⟩
     conv=>whnf
     exact ⟨fun h=>(of_decide_eq_false f4 (Iff.mp pr_eq h)).elim,fun _=>⟨rfl,rfl,zqv⟩⟩
    conv=>whnf
    iterate 15 (refine dS ?_;(conv=>whnf))
    exact ⟨(),trivial,⟨rfl,rfl,rfl,zqm PV.bool (by unfold noTgs;simp only [f2,f3,f4,zq6,zq5,zq3,zq4]),zqv⟩,rfl⟩
   refine ⟨.bool true,?_,?_⟩
   ·conv=>whnf
    refine ⟨⟨fitG _ _,fitG [] []⟩,?_⟩
    conv=>whnf
    exact ⟨fun _=>⟨rfl,rfl,zqv⟩,fun h=>(h (Iff.mpr pr_eq (of_decide_eq_true f4))).elim⟩
   conv=>whnf
   iterate 5 (refine dS ?_;(conv=>whnf))
   cases f5:decide (m.tTill=0)
   ·refine ⟨.bool false,?_,?_⟩
    ·conv=>whnf
     exact ⟨fun h=>(of_decide_eq_false f5 (Iff.mp Iff.rfl h)).elim,fun _=>⟨rfl,rfl,zqv⟩⟩
    conv=>whnf
    iterate 9 (refine dS ?_;(conv=>whnf))
    exact ⟨(),trivial,⟨rfl,rfl,rfl,zqm PV.bool (by unfold noTgs;simp only [f2,f3,f4,f5,zq6,zq5,zq3,zq4]),zqv⟩,rfl⟩
   refine ⟨.bool true,?_,?_⟩
   ·conv=>whnf
    exact ⟨fun _=>⟨rfl,rfl,zqv⟩,fun h=>(h (Iff.mpr Iff.rfl (of_decide_eq_true f5))).elim⟩
   conv=>whnf
   iterate 5 (refine dS ?_;(conv=>whnf))
   cases f6:decide (m.tNonce=0)
   ·refine ⟨.bool false,?_,?_⟩
    ·conv=>whnf
     exact ⟨fun h=>(of_decide_eq_false f6 (Iff.mp Iff.rfl h)).elim,fun _=>⟨rfl,rfl,zqv⟩⟩
    conv=>whnf
    iterate 3 (refine dS ?_;(conv=>whnf))
    exact ⟨(),trivial,⟨rfl,rfl,rfl,zqm PV.bool (by unfold noTgs;simp only [f2,f3,f4,f5,f6,zq6,zq5,zq3,zq4]),zqv⟩,rfl⟩
   refine ⟨.bool true,?_,?_⟩
   ·conv=>whnf
    exact ⟨fun _=>⟨rfl,rfl,zqv⟩,fun h=>(h (Iff.mpr Iff.rfl (of_decide_eq_true f6))).elim⟩
   conv=>whnf
   iterate 3 (refine dS ?_;(conv=>whnf))
   exact ⟨(),trivial,⟨rfl,rfl,rfl,zqm PV.bool (by unfold noTgs;simp only [f2,f3,f4,f5,f6,zq6,zq5,zq3,zq4]),zqv⟩,rfl⟩
  refine ⟨.bool true,?_,?_⟩
  ·conv=>whnf
   refine ⟨⟨fitA _ _ _ _ _ _,fitA [] [] [] [] 0 0⟩,?_⟩
   conv=>whnf
   exact ⟨fun _=>⟨rfl,rfl,zqv⟩,fun h=>(h (Iff.mpr as_eq (of_decide_eq_true f1))).elim⟩
  conv=>whnf
  iterate 3 (refine dS ?_;(conv=>whnf))
  refine ⟨_,cP (c105 m.t1 m.t2 m.tKv m.tB none) ⟨rfl,rfl,zqv⟩,?_⟩
  conv=>whnf
  cases f7:noTk m.t1 m.t2 m.tKv m.tB.length
  ·skip
   iterate 28 (refine dS ?_;(conv=>whnf))
   exact ⟨(),trivial,⟨rfl,rfl,rfl,zqm PV.bool (by unfold noTgs;simp only [f7,zq6,zq5,zq3,zq4]),zqv⟩,rfl⟩
  iterate 5 (refine dS ?_;(conv=>whnf))
  cases f8:decide (m.tAu.length=0)
  ·refine ⟨.bool false,?_,?_⟩
   ·conv=>whnf
    exact ⟨fun h=>(of_decide_eq_false f8 (Iff.mp nat0 h)).elim,fun _=>⟨rfl,rfl,zqv⟩⟩
   conv=>whnf
   iterate 22 (refine dS ?_;(conv=>whnf))
   exact ⟨(),trivial,⟨rfl,rfl,rfl,zqm PV.bool (by unfold noTgs;simp only [f7,f8,zq6,zq5,zq3,zq4]),zqv⟩,rfl⟩
  refine ⟨.bool true,?_,?_⟩
  ·conv=>whnf
   exact ⟨fun _=>⟨rfl,rfl,zqv⟩,fun h=>(h (Iff.mpr nat0 (of_decide_eq_true f8))).elim⟩
  conv=>whnf
  iterate 6 (refine dS ?_;(conv=>whnf))
  cases f9:decide (m.t3=[]∧m.t4=[])
  ·refine ⟨.bool false,?_,?_⟩
   ·conv=>whnf
    refine ⟨⟨fitG _ _,fitG [] []⟩,?_⟩
    conv=>whnf
    exact ⟨fun h=>(of_decide_eq_false f9 (Iff.mp pr_eq h)).elim,fun _=>⟨rfl,rfl,zqv⟩⟩
   conv=>whnf
   iterate 15 (refine dS ?_;(conv=>whnf))
   exact ⟨(),trivial,⟨rfl,rfl,rfl,zqm PV.bool (by unfold noTgs;simp only [f7,f8,f9,zq6,zq5,zq3,zq4]),zqv⟩,rfl⟩
  refine ⟨.bool true,?_,?_⟩
  ·conv=>whnf
   refine ⟨⟨fitG _ _,fitG [] []⟩,?_⟩
   conv=>whnf
   exact ⟨fun _=>⟨rfl,rfl,zqv⟩,fun h=>(h (Iff.mpr pr_eq (of_decide_eq_true f9))).elim⟩
  conv=>whnf
  iterate 5 (refine dS ?_;(conv=>whnf))
  cases f10:decide (m.tTill=0)
  ·refine ⟨.bool false,?_,?_⟩
   ·conv=>whnf
    exact ⟨fun h=>(of_decide_eq_false f10 (Iff.mp Iff.rfl h)).elim,fun _=>⟨rfl,rfl,zqv⟩⟩
   conv=>whnf
   iterate 9 (refine dS ?_;(conv=>whnf))
   exact ⟨(),trivial,⟨rfl,rfl,rfl,zqm PV.bool (by unfold noTgs;simp only [f7,f8,f9,f10,zq6,zq5,zq3,zq4]),zqv⟩,rfl⟩
  refine ⟨.bool true,?_,?_⟩
  ·conv=>whnf
   exact ⟨fun _=>⟨rfl,rfl,zqv⟩,fun h=>(h (Iff.mpr Iff.rfl (of_decide_eq_true f10))).elim⟩
  conv=>whnf
  iterate 5 (refine dS ?_;(conv=>whnf))
  cases f11:decide (m.tNonce=0)
  ·refine ⟨.bool false,?_,?_⟩
   ·conv=>whnf
    exact ⟨fun h=>(of_decide_eq_false f11 (Iff.mp Iff.rfl h)).elim,fun _=>⟨rfl,rfl,zqv⟩⟩
   conv=>whnf
   iterate 3 (refine dS ?_;(conv=>whnf))
   exact ⟨(),trivial,⟨rfl,rfl,rfl,zqm PV.bool (by unfold noTgs;simp only [f7,f8,f9,f10,f11,zq6,zq5,zq3,zq4]),zqv⟩,rfl⟩
  refine ⟨.bool true,?_,?_⟩
  ·conv=>whnf
   exact ⟨fun _=>⟨rfl,rfl,zqv⟩,fun h=>(h (Iff.mpr Iff.rfl (of_decide_eq_true f11))).elim⟩
  conv=>whnf
  iterate 3 (refine dS ?_;(conv=>whnf))
  exact ⟨(),trivial,⟨rfl,rfl,rfl,zqm PV.bool (by unfold noTgs;simp only [f7,f8,f9,f10,f11,zq6,zq5,zq3,zq4]),zqv⟩,rfl⟩
 conv=>whnf
 refine cutK_of [(1,.elem m.cells),(3,.int .i64 m.kind),(4,.bool (noAs m)),(5,.bool (noTgs m)),(6,.bool (noRep m))] H ?_ ?_
 rotate_left
 ·conv=>whnf
  refine ⟨⟨fitG _ _,fitG [] []⟩,?_⟩
  conv=>whnf
  refine ⟨fun h=>?_,fun h=>?_⟩
  rotate_left
  ·have f12:decide (m.r1=[]∧m.r2=[])=false:=zqd fun hh=>h (Iff.mpr pr_eq hh)
   conv=>whnf
   exact ⟨(),trivial,⟨rfl,rfl,rfl,rfl,zqm PV.bool (by unfold noRep;simp only [f12,zq6,zq5,zq3,zq4]),zqv⟩,rfl⟩
  have f12:decide (m.r1=[]∧m.r2=[])=true:=zqe (Iff.mp pr_eq h)
  conv=>whnf
  refine cP (c105 m.r3 m.r4 m.rKv m.rB none) ?_
  cases f13:noTk m.r3 m.r4 m.rKv m.rB.length
  ·conv=>whnf
   exact ⟨(),trivial,⟨rfl,rfl,rfl,rfl,zqm PV.bool (by unfold noRep;simp only [f12,f13,zq6,zq5,zq3,zq4]),zqv⟩,rfl⟩
  conv=>whnf
  refine ⟨fun h=>?_,fun h=>?_⟩
  rotate_left
  ·have f14:decide (m.rBl.length=0)=false:=zqd fun hh=>h (Iff.mpr nat0 hh)
   conv=>whnf
   exact ⟨(),trivial,⟨rfl,rfl,rfl,rfl,zqm PV.bool (by unfold noRep;simp only [f12,f13,f14,zq6,zq5,zq3,zq4]),zqv⟩,rfl⟩
  have f14:decide (m.rBl.length=0)=true:=zqe (Iff.mp nat0 h)
  conv=>whnf
  exact ⟨(),trivial,⟨rfl,rfl,rfl,rfl,zqm PV.bool (by unfold noRep;simp only [f12,f13,f14,zq6,zq5,zq3,zq4]),zqv⟩,rfl⟩
 conv=>whnf
 refine cutK_of [(1,.elem m.cells),(3,.int .i64 m.kind),(4,.bool (noAs m)),(5,.bool (noTgs m)),(6,.bool (noRep m)),(7,.bool (noAp m)),(8,.bool (noFail m))] H ?_ ?_
 rotate_left
 ·refine dP2 (by kernel_rfl) ?_
  conv=>whnf
  iterate 3 (refine dS ?_;(conv=>whnf))
  refine ⟨_,cP (c105 m.p1 m.p2 m.pKv m.pB none) ⟨rfl,rfl,zqv⟩,?_⟩
  conv=>whnf
  cases f15:noTk m.p1 m.p2 m.pKv m.pB.length
  ·skip
   iterate 10 (refine dS ?_;(conv=>whnf))
   cases f16:decide (m.fErr=0∧m.fNonce=0)
   ·refine ⟨.bool false,?_,?_⟩
    ·conv=>whnf
     refine ⟨⟨fitF _ _,fitF 0 0⟩,?_⟩
     conv=>whnf
     exact ⟨fun h=>(of_decide_eq_false f16 (Iff.mp fl_eq h)).elim,fun _=>⟨rfl,rfl,zqv⟩⟩
    conv=>whnf
    iterate 2 (refine dS ?_;(conv=>whnf))
    exact ⟨(),trivial,⟨rfl,rfl,rfl,rfl,rfl,zqm PV.bool (by unfold noAp;simp only [f15,zq6,zq5,zq3,zq4]),zqm PV.bool f16.symm,zqv⟩,rfl⟩
   refine ⟨.bool true,?_,?_⟩
   ·conv=>whnf
    refine ⟨⟨fitF _ _,fitF 0 0⟩,?_⟩
    conv=>whnf
    exact ⟨fun _=>⟨rfl,rfl,zqv⟩,fun h=>(h (Iff.mpr fl_eq (of_decide_eq_true f16))).elim⟩
   conv=>whnf
   iterate 2 (refine dS ?_;(conv=>whnf))
   exact ⟨(),trivial,⟨rfl,rfl,rfl,rfl,rfl,zqm PV.bool (by unfold noAp;simp only [f15,zq6,zq5,zq3,zq4]),zqm PV.bool f16.symm,zqv⟩,rfl⟩
  iterate 5 (refine dS ?_;(conv=>whnf))
  cases f17:decide (m.pAu.length=0)
  ·refine ⟨.bool false,?_,?_⟩
   ·conv=>whnf
    exact ⟨fun h=>(of_decide_eq_false f17 (Iff.mp nat0 h)).elim,fun _=>⟨rfl,rfl,zqv⟩⟩
   conv=>whnf
   iterate 4 (refine dS ?_;(conv=>whnf))
   cases f18:decide (m.fErr=0∧m.fNonce=0)
   ·refine ⟨.bool false,?_,?_⟩
    ·conv=>whnf
     refine ⟨⟨fitF _ _,fitF 0 0⟩,?_⟩
     conv=>whnf
     exact ⟨fun h=>(of_decide_eq_false f18 (Iff.mp fl_eq h)).elim,fun _=>⟨rfl,rfl,zqv⟩⟩
    conv=>whnf
    iterate 2 (refine dS ?_;(conv=>whnf))
    exact ⟨(),trivial,⟨rfl,rfl,rfl,rfl,rfl,zqm PV.bool (by unfold noAp;simp only [f15,f17,zq6,zq5,zq3,zq4]),zqm PV.bool f18.symm,zqv⟩,rfl⟩
   refine ⟨.bool true,?_,?_⟩
   ·conv=>whnf
    refine ⟨⟨fitF _ _,fitF 0 0⟩,?_⟩
    conv=>whnf
    exact ⟨fun _=>⟨rfl,rfl,zqv⟩,fun h=>(h (Iff.mpr fl_eq (of_decide_eq_true f18))).elim⟩
   conv=>whnf
   iterate 2 (refine dS ?_;(conv=>whnf))
   exact ⟨(),trivial,⟨rfl,rfl,rfl,rfl,rfl,zqm PV.bool (by unfold noAp;simp only [f15,f17,zq6,zq5,zq3,zq4]),zqm PV.bool f18.symm,zqv⟩,rfl⟩
  refine ⟨.bool true,?_,?_⟩
  ·conv=>whnf
   exact ⟨fun _=>⟨rfl,rfl,zqv⟩,fun h=>(h (Iff.mpr nat0 (of_decide_eq_true f17))).elim⟩
  conv=>whnf
  iterate 4 (refine dS ?_;(conv=>whnf))
  cases f19:decide (m.fErr=0∧m.fNonce=0)
  ·refine ⟨.bool false,?_,?_⟩
   ·conv=>whnf
    refine ⟨⟨fitF _ _,fitF 0 0⟩,?_⟩
    conv=>whnf
    exact ⟨fun h=>(of_decide_eq_false f19 (Iff.mp fl_eq h)).elim,fun _=>⟨rfl,rfl,zqv⟩⟩
   conv=>whnf
   iterate 2 (refine dS ?_;(conv=>whnf))
   exact ⟨(),trivial,⟨rfl,rfl,rfl,rfl,rfl,zqm PV.bool (by unfold noAp;simp only [f15,f17,zq6,zq5,zq3,zq4]),zqm PV.bool f19.symm,zqv⟩,rfl⟩
  refine ⟨.bool true,?_,?_⟩
  ·conv=>whnf
   refine ⟨⟨fitF _ _,fitF 0 0⟩,?_⟩
   conv=>whnf
   exact ⟨fun _=>⟨rfl,rfl,zqv⟩,fun h=>(h (Iff.mpr fl_eq (of_decide_eq_true f19))).elim⟩
  conv=>whnf
  iterate 2 (refine dS ?_;(conv=>whnf))
  exact ⟨(),trivial,⟨rfl,rfl,rfl,rfl,rfl,zqm PV.bool (by unfold noAp;simp only [f15,f17,zq6,zq5,zq3,zq4]),zqm PV.bool f19.symm,zqv⟩,rfl⟩
 conv=>whnf
 by_cases h1:m.kind=1
 ·have hk:=h1
  have n2:¬m.kind=2:=by omega
  have n3:¬m.kind=3:=by omega
  have n4:¬m.kind=4:=by omega
  have n5:¬m.kind=5:=by omega
  have e1:decide (m.kind=1)=true:=zqe hk
  have e2:decide (m.kind=2)=false:=zqd n2
  have e3:decide (m.kind=3)=false:=zqd n3
  have e4:decide (m.kind=4)=false:=zqd n4
  have e5:decide (m.kind=5)=false:=zqd n5
  refine ⟨fun h=>?_,fun h=>?_⟩
  rotate_left
  ·exact (h hk).elim
  conv=>whnf
  refine cP (c106 m hm) ?_
  cases f20:asB m
  ·conv=>whnf
   exact ⟨zqm PV.bool (by unfold isB othersB;rw [zqp hk];show _=(asB m&&_);simp only [e1,e2,e3,e4,e5,f20,zq6,zq5,zq3,zq4,zq8,zq7,zq9,zqa]),rfl⟩
  conv=>whnf
  cases f21:noTgs m
  ·conv=>whnf
   exact ⟨zqm PV.bool (by unfold isB othersB;rw [zqp hk];show _=(asB m&&_);simp only [e1,e2,e3,e4,e5,f20,f21,zq6,zq5,zq3,zq4,zq8,zq7,zq9,zqa]),rfl⟩
  conv=>whnf
  cases f22:noRep m
  ·conv=>whnf
   exact ⟨zqm PV.bool (by unfold isB othersB;rw [zqp hk];show _=(asB m&&_);simp only [e1,e2,e3,e4,e5,f20,f21,f22,zq6,zq5,zq3,zq4,zq8,zq7,zq9,zqa]),rfl⟩
  conv=>whnf
  cases f23:noAp m
  ·conv=>whnf
   exact ⟨zqm PV.bool (by unfold isB othersB;rw [zqp hk];show _=(asB m&&_);simp only [e1,e2,e3,e4,e5,f20,f21,f22,f23,zq6,zq5,zq3,zq4,zq8,zq7,zq9,zqa]),rfl⟩
  conv=>whnf
  cases f24:noFail m
  ·conv=>whnf
   exact ⟨zqm PV.bool (by unfold isB othersB;rw [zqp hk];show _=(asB m&&_);simp only [e1,e2,e3,e4,e5,f20,f21,f22,f23,f24,zq6,zq5,zq3,zq4,zq8,zq7,zq9,zqa]),rfl⟩
  conv=>whnf
  exact ⟨zqm PV.bool (by unfold isB othersB;rw [zqp hk];show _=(asB m&&_);simp only [e1,e2,e3,e4,e5,f20,f21,f22,f23,f24,zq6,zq5,zq3,zq4,zq8,zq7,zq9,zqa]),rfl⟩
 by_cases h2:m.kind=2
 ·have hk:=h2
  have n1:¬m.kind=1:=by omega
  have n3:¬m.kind=3:=by omega
  have n4:¬m.kind=4:=by omega
  have n5:¬m.kind=5:=by omega
  have e1:decide (m.kind=1)=false:=zqd n1
  have e2:decide (m.kind=2)=true:=zqe hk
  have e3:decide (m.kind=3)=false:=zqd n3
  have e4:decide (m.kind=4)=false:=zqd n4
  have e5:decide (m.kind=5)=false:=zqd n5
  refine ⟨fun h=>?_,fun h=>?_⟩
  ·exact (n1 h).elim
  conv=>whnf
  refine ⟨fun h=>?_,fun h=>?_⟩
  rotate_left
  ·exact (h hk).elim
  conv=>whnf
  refine cP ((c107 m.d hm).of_eq (show PV.bool (tgsB m.d)=.bool (tgsB m) from rfl)) ?_
  cases f25:tgsB m
  ·conv=>whnf
   exact ⟨zqm PV.bool (by unfold isB othersB;rw [zqo n1];rw [zqp hk];show _=(tgsB m&&_);simp only [e1,e2,e3,e4,e5,f25,zq6,zq5,zq3,zq4,zq8,zq7,zq9,zqa]),rfl⟩
  conv=>whnf
  cases f26:noAs m
  ·conv=>whnf
   exact ⟨zqm PV.bool (by unfold isB othersB;rw [zqo n1];rw [zqp hk];show _=(tgsB m&&_);simp only [e1,e2,e3,e4,e5,f25,f26,zq6,zq5,zq3,zq4,zq8,zq7,zq9,zqa]),rfl⟩
  conv=>whnf
  cases f27:noRep m
  ·conv=>whnf
   exact ⟨zqm PV.bool (by unfold isB othersB;rw [zqo n1];rw [zqp hk];show _=(tgsB m&&_);simp only [e1,e2,e3,e4,e5,f25,f26,f27,zq6,zq5,zq3,zq4,zq8,zq7,zq9,zqa]),rfl⟩
  conv=>whnf
  cases f28:noAp m
  ·conv=>whnf
   exact ⟨zqm PV.bool (by unfold isB othersB;rw [zqo n1];rw [zqp hk];show _=(tgsB m&&_);simp only [e1,e2,e3,e4,e5,f25,f26,f27,f28,zq6,zq5,zq3,zq4,zq8,zq7,zq9,zqa]),rfl⟩
  conv=>whnf
  cases f29:noFail m
  ·conv=>whnf
   exact ⟨zqm PV.bool (by unfold isB othersB;rw [zqo n1];rw [zqp hk];show _=(tgsB m&&_);simp only [e1,e2,e3,e4,e5,f25,f26,f27,f28,f29,zq6,zq5,zq3,zq4,zq8,zq7,zq9,zqa]),rfl⟩
  conv=>whnf
  exact ⟨zqm PV.bool (by unfold isB othersB;rw [zqo n1];rw [zqp hk];show _=(tgsB m&&_);simp only [e1,e2,e3,e4,e5,f25,f26,f27,f28,f29,zq6,zq5,zq3,zq4,zq8,zq7,zq9,zqa]),rfl⟩
 by_cases h3:m.kind=3
 ·have hk:=h3
  have n1:¬m.kind=1:=by omega
  have n2:¬m.kind=2:=by omega
  have n4:¬m.kind=4:=by omega
  have n5:¬m.kind=5:=by omega
  have e1:decide (m.kind=1)=false:=zqd n1
  have e2:decide (m.kind=2)=false:=zqd n2
  have e3:decide (m.kind=3)=true:=zqe hk
  have e4:decide (m.kind=4)=false:=zqd n4
  have e5:decide (m.kind=5)=false:=zqd n5
  refine ⟨fun h=>?_,fun h=>?_⟩
  ·exact (n1 h).elim
  conv=>whnf
  refine ⟨fun h=>?_,fun h=>?_⟩
  ·exact (n2 h).elim
  conv=>whnf
  refine ⟨fun h=>?_,fun h=>?_⟩
  rotate_left
  ·exact (h hk).elim
  conv=>whnf
  refine cP (c36 m.r1 m.r2 (by have:=hm.2.2.2.2.2.2.2.2.1;omega) (by have:=hm.2.2.2.2.2.2.2.2.2.1;omega)) ?_
  cases f30:isPrincB m.r1 m.r2
  ·conv=>whnf
   exact ⟨zqm PV.bool (by unfold isB othersB;rw [zqo n1];rw [zqo n2];rw [zqp hk];simp only [e1,e2,e3,e4,e5,f30,zq6,zq5,zq3,zq4,zq8,zq7,zq9,zqa]),rfl⟩
  conv=>whnf
  refine cP (c108 m.r3 m.r4 m.rKv m.rB none (by have:=hm.2.2.2.2.2.2.2.2.2.2.1;omega) (by have:=hm.2.2.2.2.2.2.2.2.2.2.2.1;omega)) ?_
  cases f31:tickB m.r3 m.r4 m.rKv m.rB.length
  ·conv=>whnf
   exact ⟨zqm PV.bool (by unfold isB othersB;rw [zqo n1];rw [zqo n2];rw [zqp hk];simp only [e1,e2,e3,e4,e5,f30,f31,zq6,zq5,zq3,zq4,zq8,zq7,zq9,zqa]),rfl⟩
  conv=>whnf
  refine cP (c109 m.rBl.length _ _) ?_
  cases f32:inZ m.rBl.length 1 800
  ·conv=>whnf
   exact ⟨zqm PV.bool (by unfold isB othersB;rw [zqo n1];rw [zqo n2];rw [zqp hk];simp only [e1,e2,e3,e4,e5,f30,f31,f32,zq6,zq5,zq3,zq4,zq8,zq7,zq9,zqa]),rfl⟩
  conv=>whnf
  cases f33:noAs m
  ·conv=>whnf
   exact ⟨zqm PV.bool (by unfold isB othersB;rw [zqo n1];rw [zqo n2];rw [zqp hk];simp only [e1,e2,e3,e4,e5,f30,f31,f32,f33,zq6,zq5,zq3,zq4,zq8,zq7,zq9,zqa]),rfl⟩
  conv=>whnf
  cases f34:noTgs m
  ·conv=>whnf
   exact ⟨zqm PV.bool (by unfold isB othersB;rw [zqo n1];rw [zqo n2];rw [zqp hk];simp only [e1,e2,e3,e4,e5,f30,f31,f32,f33,f34,zq6,zq5,zq3,zq4,zq8,zq7,zq9,zqa]),rfl⟩
  conv=>whnf
  cases f35:noAp m
  ·conv=>whnf
   exact ⟨zqm PV.bool (by unfold isB othersB;rw [zqo n1];rw [zqo n2];rw [zqp hk];simp only [e1,e2,e3,e4,e5,f30,f31,f32,f33,f34,f35,zq6,zq5,zq3,zq4,zq8,zq7,zq9,zqa]),rfl⟩
  conv=>whnf
  cases f36:noFail m
  ·conv=>whnf
   exact ⟨zqm PV.bool (by unfold isB othersB;rw [zqo n1];rw [zqo n2];rw [zqp hk];simp only [e1,e2,e3,e4,e5,f30,f31,f32,f33,f34,f35,f36,zq6,zq5,zq3,zq4,zq8,zq7,zq9,zqa]),rfl⟩
  conv=>whnf
  exact ⟨zqm PV.bool (by unfold isB othersB;rw [zqo n1];rw [zqo n2];rw [zqp hk];simp only [e1,e2,e3,e4,e5,f30,f31,f32,f33,f34,f35,f36,zq6,zq5,zq3,zq4,zq8,zq7,zq9,zqa]),rfl⟩
 by_cases h4:m.kind=4
 ·have hk:=h4
  have n1:¬m.kind=1:=by omega
  have n2:¬m.kind=2:=by omega
  have n3:¬m.kind=3:=by omega
  have n5:¬m.kind=5:=by omega
  have e1:decide (m.kind=1)=false:=zqd n1
  have e2:decide (m.kind=2)=false:=zqd n2
  have e3:decide (m.kind=3)=false:=zqd n3
  have e4:decide (m.kind=4)=true:=zqe hk
  have e5:decide (m.kind=5)=false:=zqd n5
  refine ⟨fun h=>?_,fun h=>?_⟩
  ·exact (n1 h).elim
  conv=>whnf
  refine ⟨fun h=>?_,fun h=>?_⟩
  ·exact (n2 h).elim
  conv=>whnf
  refine ⟨fun h=>?_,fun h=>?_⟩
  ·exact (n3 h).elim
  conv=>whnf
  refine ⟨fun h=>?_,fun h=>?_⟩
  rotate_left
  ·exact (h hk).elim
  conv=>whnf
  refine cP (c108 m.p1 m.p2 m.pKv m.pB none (by have:=hm.2.2.2.2.2.2.2.2.2.2.2.2.1;omega) (by have:=hm.2.2.2.2.2.2.2.2.2.2.2.2.2;omega)) ?_
  cases f37:tickB m.p1 m.p2 m.pKv m.pB.length
  ·conv=>whnf
   exact ⟨zqm PV.bool (by unfold isB othersB;rw [zqo n1];rw [zqo n2];rw [zqo n3];rw [zqp hk];simp only [e1,e2,e3,e4,e5,f37,zq6,zq5,zq3,zq4,zq8,zq7,zq9,zqa]),rfl⟩
  conv=>whnf
  refine cP (c109 m.pAu.length _ _) ?_
  cases f38:inZ m.pAu.length 1 800
  ·conv=>whnf
   exact ⟨zqm PV.bool (by unfold isB othersB;rw [zqo n1];rw [zqo n2];rw [zqo n3];rw [zqp hk];simp only [e1,e2,e3,e4,e5,f37,f38,zq6,zq5,zq3,zq4,zq8,zq7,zq9,zqa]),rfl⟩
  conv=>whnf
  cases f39:noAs m
  ·conv=>whnf
   exact ⟨zqm PV.bool (by unfold isB othersB;rw [zqo n1];rw [zqo n2];rw [zqo n3];rw [zqp hk];simp only [e1,e2,e3,e4,e5,f37,f38,f39,zq6,zq5,zq3,zq4,zq8,zq7,zq9,zqa]),rfl⟩
  conv=>whnf
  cases f40:noTgs m
  ·conv=>whnf
   exact ⟨zqm PV.bool (by unfold isB othersB;rw [zqo n1];rw [zqo n2];rw [zqo n3];rw [zqp hk];simp only [e1,e2,e3,e4,e5,f37,f38,f39,f40,zq6,zq5,zq3,zq4,zq8,zq7,zq9,zqa]),rfl⟩
  conv=>whnf
  cases f41:noRep m
  ·conv=>whnf
   exact ⟨zqm PV.bool (by unfold isB othersB;rw [zqo n1];rw [zqo n2];rw [zqo n3];rw [zqp hk];simp only [e1,e2,e3,e4,e5,f37,f38,f39,f40,f41,zq6,zq5,zq3,zq4,zq8,zq7,zq9,zqa]),rfl⟩
  conv=>whnf
  cases f42:noFail m
  ·conv=>whnf
   exact ⟨zqm PV.bool (by unfold isB othersB;rw [zqo n1];rw [zqo n2];rw [zqo n3];rw [zqp hk];simp only [e1,e2,e3,e4,e5,f37,f38,f39,f40,f41,f42,zq6,zq5,zq3,zq4,zq8,zq7,zq9,zqa]),rfl⟩
  conv=>whnf
  exact ⟨zqm PV.bool (by unfold isB othersB;rw [zqo n1];rw [zqo n2];rw [zqo n3];rw [zqp hk];simp only [e1,e2,e3,e4,e5,f37,f38,f39,f40,f41,f42,zq6,zq5,zq3,zq4,zq8,zq7,zq9,zqa]),rfl⟩
 by_cases h5:m.kind=5
 ·have hk:=h5
  have n1:¬m.kind=1:=by omega
  have n2:¬m.kind=2:=by omega
  have n3:¬m.kind=3:=by omega
  have n4:¬m.kind=4:=by omega
  have e1:decide (m.kind=1)=false:=zqd n1
  have e2:decide (m.kind=2)=false:=zqd n2
  have e3:decide (m.kind=3)=false:=zqd n3
  have e4:decide (m.kind=4)=false:=zqd n4
  have e5:decide (m.kind=5)=true:=zqe hk
  refine ⟨fun h=>?_,fun h=>?_⟩
  ·exact (n1 h).elim
  conv=>whnf
  refine ⟨fun h=>?_,fun h=>?_⟩
  ·exact (n2 h).elim
  conv=>whnf
  refine ⟨fun h=>?_,fun h=>?_⟩
  ·exact (n3 h).elim
  conv=>whnf
  refine ⟨fun h=>?_,fun h=>?_⟩
  ·exact (n4 h).elim
  conv=>whnf
  refine ⟨fun h=>?_,fun h=>?_⟩
  rotate_left
  ·exact (h hk).elim
  conv=>whnf
  refine cP (c110 m.fErr 1 255) ?_
  cases f43:inZ m.fErr 1 255
  ·conv=>whnf
   exact ⟨zqm PV.bool (by unfold isB othersB;rw [zqo n1];rw [zqo n2];rw [zqo n3];rw [zqo n4];rw [zqp hk];simp only [e1,e2,e3,e4,e5,f43,zq6,zq5,zq3,zq4,zq8,zq7,zq9,zqa]),rfl⟩
  conv=>whnf
  refine cP (c110 m.fNonce 0 1073741824) ?_
  cases f44:inZ m.fNonce 0 1073741824
  ·conv=>whnf
   exact ⟨zqm PV.bool (by unfold isB othersB;rw [zqo n1];rw [zqo n2];rw [zqo n3];rw [zqo n4];rw [zqp hk];simp only [e1,e2,e3,e4,e5,f43,f44,zq6,zq5,zq3,zq4,zq8,zq7,zq9,zqa]),rfl⟩
  conv=>whnf
  cases f45:noAs m
  ·conv=>whnf
   exact ⟨zqm PV.bool (by unfold isB othersB;rw [zqo n1];rw [zqo n2];rw [zqo n3];rw [zqo n4];rw [zqp hk];simp only [e1,e2,e3,e4,e5,f43,f44,f45,zq6,zq5,zq3,zq4,zq8,zq7,zq9,zqa]),rfl⟩
  conv=>whnf
  cases f46:noTgs m
  ·conv=>whnf
   exact ⟨zqm PV.bool (by unfold isB othersB;rw [zqo n1];rw [zqo n2];rw [zqo n3];rw [zqo n4];rw [zqp hk];simp only [e1,e2,e3,e4,e5,f43,f44,f45,f46,zq6,zq5,zq3,zq4,zq8,zq7,zq9,zqa]),rfl⟩
  conv=>whnf
  cases f47:noRep m
  ·conv=>whnf
   exact ⟨zqm PV.bool (by unfold isB othersB;rw [zqo n1];rw [zqo n2];rw [zqo n3];rw [zqo n4];rw [zqp hk];simp only [e1,e2,e3,e4,e5,f43,f44,f45,f46,f47,zq6,zq5,zq3,zq4,zq8,zq7,zq9,zqa]),rfl⟩
  conv=>whnf
  cases f48:noAp m
  ·conv=>whnf
   exact ⟨zqm PV.bool (by unfold isB othersB;rw [zqo n1];rw [zqo n2];rw [zqo n3];rw [zqo n4];rw [zqp hk];simp only [e1,e2,e3,e4,e5,f43,f44,f45,f46,f47,f48,zq6,zq5,zq3,zq4,zq8,zq7,zq9,zqa]),rfl⟩
  conv=>whnf
  exact ⟨zqm PV.bool (by unfold isB othersB;rw [zqo n1];rw [zqo n2];rw [zqo n3];rw [zqo n4];rw [zqp hk];simp only [e1,e2,e3,e4,e5,f43,f44,f45,f46,f47,f48,zq6,zq5,zq3,zq4,zq8,zq7,zq9,zqa]),rfl⟩
 have n1:¬m.kind=1:=h1
 have n2:¬m.kind=2:=h2
 have n3:¬m.kind=3:=h3
 have n4:¬m.kind=4:=h4
 have n5:¬m.kind=5:=h5
 have e1:decide (m.kind=1)=false:=zqd n1
 have e2:decide (m.kind=2)=false:=zqd n2
 have e3:decide (m.kind=3)=false:=zqd n3
 have e4:decide (m.kind=4)=false:=zqd n4
 have e5:decide (m.kind=5)=false:=zqd n5
 refine ⟨fun h=>?_,fun h=>?_⟩
 ·exact (n1 h).elim
 conv=>whnf
 refine ⟨fun h=>?_,fun h=>?_⟩
 ·exact (n2 h).elim
 conv=>whnf
 refine ⟨fun h=>?_,fun h=>?_⟩
 ·exact (n3 h).elim
 conv=>whnf
 refine ⟨fun h=>?_,fun h=>?_⟩
 ·exact (n4 h).elim
 conv=>whnf
 refine ⟨fun h=>?_,fun h=>?_⟩
 ·exact (n5 h).elim
 conv=>whnf
 exact ⟨zqm PV.bool (by unfold isB othersB;rw [zqo n1];rw [zqo n2];rw [zqo n3];rw [zqo n4];rw [zqo n5];simp only [e1,e2,e3,e4,e5,zq6,zq5,zq3,zq4,zq8,zq7,zq9,zqa]),rfl⟩
theorem splitB_sum (c:UInt8):∀(s:List UInt8),((splitB c s).map (fun x=>x.length+1)).sum=s.length+1
 | []=>by simp [splitB]
 | x::s=>by
  have ih:=splitB_sum c s
  have hne:splitB c s≠[]:=fun e=>by rw [e] at ih;simp at ih
  simp only [splitB]
  split
  ·simp [ih];omega
  ·cases hs:splitB c s with
   | nil=>exact absurd hs hne
   | cons a l=>rw [hs] at ih;simp at ih ⊢;omega
theorem sum_le (k:Nat):∀(l:List (List UInt8)),(∀x∈l,x.length≤k)→(l.map (fun x=>x.length+1)).sum≤l.length*(k+1)
 | [],_=>by simp
 | a::l,h=>by
  have:=sum_le k l fun x hx=>h x (List.mem_cons_of_mem _ hx)
  have:=h a List.mem_cons_self
  simp only [List.map_cons,List.sum_cons,List.length_cons,Nat.add_mul];omega
theorem badL_len {c:UInt8} {s:List UInt8} (h:badL (splitB c s)=false):s.length≤35:=by
 unfold badL at h
 rw [Bool.or_eq_false_iff] at h
 have h1:(splitB c s).length≤4:=by have:=of_decide_eq_false h.1;omega
 have h2:=sum_le 8 (splitB c s) fun x hx=>by
  have:=List.any_eq_false.1 h.2 x hx
  have:isWordB x upperB=true:=by simpa using this
  unfold isWordB at this
  rw [zqb,zqb] at this
  exact of_decide_eq_true this.2.1
 rw [splitB_sum] at h2
 have:(splitB c s).length*(8+1)≤4*(8+1):=Nat.mul_le_mul_right _ h1
 omega
theorem realm_len {r:List UInt8} (h:isRealmB r=true):r.length≤36:=by
 replace h:(labelsB r).1≠0:=of_decide_eq_true h
 unfold labelsB at h
 split at h
 ·split at h
  ·exact absurd rfl h
  ·rename_i t hb
   have:=badL_len (c:=47) (s:=t) (by simpa using hb)
   simp;omega
 ·split at h
  ·exact absurd rfl h
  ·rename_i hb
   have:=badL_len (c:=46) (s:=r) (by simpa using hb)
   omega
theorem princ_len {r n:List UInt8} (h:isPrincB r n=true):r.length≤36∧n.length≤43:=by
 unfold isPrincB at h
 rw [zqb,Bool.or_eq_true] at h
 refine ⟨realm_len h.1,?_⟩
 rcases h.2 with h2 | h2
 ·unfold targetB at h2
  split at h2
  ·rename_i hc
   rw [zqb] at hc
   have:=realm_len hc.2
   rw [List.length_drop] at this
   omega
  ·cases h2
 ·unfold isWordB at h2
  rw [zqb,zqb] at h2
  have:=of_decide_eq_true h2.2.1
  omega
theorem inZ_le {n lo hi:Int} (h:inZ n lo hi=true):lo≤n∧n≤hi:=by
 unfold inZ at h
 rw [zqb] at h
 exact ⟨of_decide_eq_true h.1,of_decide_eq_true h.2⟩
theorem tick_len {r n:List UInt8} {kv:Int} {k:Nat} (h:tickB r n kv k=true):r.length≤36∧n.length≤43∧k≤800:=by
 unfold tickB at h
 rw [zqb,zqb] at h
 have h1:=princ_len h.1.1
 have h2:=inZ_le h.2
 exact ⟨h1.1,h1.2,by omega⟩
theorem wrapB_len (t:UInt8) (b:List UInt8):(wrapB t b).length≤b.length+4:=by
 have:=lenB_len b.length
 unfold wrapB
 simp;omega
def princE (r n:List UInt8):List UInt8:=wrapB 48 [wrapB 27 r,wrapB 27 n].flatten
def intE (n:Int):List UInt8:=wrapB 2 (intB (clampI n))
def ticketE (r n:List UInt8) (kv:Int) (b:List UInt8):List UInt8:=wrapB 97 [princE r n,intE kv,wrapB 4 b].flatten
theorem intE_len (n:Int):(intE n).length≤14:=by
 have h1:=wrapB_len 2 (intB (clampI n))
 have h2:=le_len 9 (clampI n)
 have h3:(intB (clampI n)).length≤10:=by
  unfold intB padB
  rw [List.length_reverse]
  split
  ·rw [zqf,List.length_singleton];omega
  ·omega
 unfold intE;omega
theorem princE_len (r n:List UInt8):(princE r n).length≤r.length+n.length+12:=by
 have h:=wrapB_len 48 [wrapB 27 r,wrapB 27 n].flatten
 have h1:=wrapB_len 27 r
 have h2:=wrapB_len 27 n
 simp only [zqk,zql,zqf,List.length_nil] at h
 unfold princE;simp only [zqk,zql] at h ⊢;omega
theorem ticketE_len (r n:List UInt8) (kv:Int) (b:List UInt8):(ticketE r n kv b).length≤r.length+n.length+b.length+34:=by
 have h:=wrapB_len 97 [princE r n,intE kv,wrapB 4 b].flatten
 have h1:=princE_len r n
 have h2:=intE_len kv
 have h3:=wrapB_len 4 b
 simp only [zqk,zql,zqf,List.length_nil] at h
 unfold ticketE;simp only [zqk,zql] at h ⊢;omega
theorem c156p (tag:UInt8) (ls:List (List UInt8)) (hn:ls.length≤1099511627776) (ht:ls.flatten.length≤1099511627000) :
  Pure prog 156 [bC tag,.slice ls.length (ls.map sl) none] (sl (wrapB tag ls.flatten)):=fun H=>c156 tag ls hn ht (Reps.sl H ls)
theorem c165p (p:List UInt8) (hp:p.length≤1099511627000):Pure prog 165 [sl p] (sl (wrapB 4 p)):=fun H=>c165 p hp H
theorem c181p (p:List UInt8) (hp:p.length≤1099511627000):Pure prog 181 [.str p] (sl (wrapB 27 p)):=fun H=>c181 p hp H
def limV (ok:Bool) (b:List UInt8):PV:=if ok=true∧b.length≤2000 then .tup [sl b,.int .i64 0] else .tup [.slice 0 [] (some 5),.int .i64 1]
theorem c118 (ok:Bool) (b:List UInt8):Pure prog 118 [.bool ok,sl b] (limV ok b):=by
 intro H
 (refine fnS (imm:=imm118) ttGm_ok func118 ?_;(conv=>whnf))
 cases ok
 ·conv=>whnf
  exact ⟨by unfold limV;rw [zqo (by simp)];rfl,rfl⟩
 ·conv=>whnf
  refine ⟨fun h=>?_,fun h=>?_⟩
  ·conv=>whnf
   have h:(2000:Int)<(b.length:Int):=h
   exact ⟨by unfold limV;rw [zqo (by omega)];rfl,rfl⟩
  ·conv=>whnf
   have h:¬(2000:Int)<(b.length:Int):=h
   exact ⟨by unfold limV;rw [zqp ⟨rfl,by omega⟩];rfl,rfl⟩
theorem c157 (r n:List UInt8) (hr:r.length≤1000000) (hn:n.length≤1000000):Pure prog 157 [.agg [.str r,.str n]] (sl (princE r n)):=by
 intro H
 have h1:=wrapB_len 27 r
 have h2:=wrapB_len 27 n
 (refine fnS (imm:=imm157) ttGm_ok func157 ?_;(conv=>whnf))
 refine dP2 (by kernel_rfl) ?_
 conv=>whnf
 iterate 2 (refine dS ?_;(conv=>whnf))
 refine ⟨_,cP (c181p r (by omega)) ⟨rfl,rfl,zqv⟩,?_⟩
 conv=>whnf
 iterate 2 (refine dS ?_;(conv=>whnf))
 refine ⟨_,cP (c181p n (by omega)) ⟨rfl,rfl,zqv⟩,?_⟩
 conv=>whnf
 (refine dS ?_;(conv=>whnf))
 refine ⟨_,cP (c156p 48 [wrapB 27 r,wrapB 27 n] (by simp) (by simp only [zqk,zql,zqf,List.length_nil];omega)) ⟨rfl,rfl,zqv⟩,?_⟩
 conv=>whnf
 (refine dS ?_;(conv=>whnf))
 exact ⟨rfl,rfl⟩
theorem c164 (r n:List UInt8) (kv:Int) (b:List UInt8) (o:Option Nat) (hr:r.length≤1000000) (hn:n.length≤1000000) (hb:b.length≤1000000):Pure prog 164 [.agg [.str r,.str n,.int .i64 kv,slo b o]] (sl (ticketE r n kv b)):=by
 intro H
 have h1:=princE_len r n
 have h2:=intE_len kv
 have h3:=wrapB_len 4 b
 (refine fnS (imm:=imm164) ttGm_ok func164 ?_;(conv=>whnf))
 refine dP2 (by kernel_rfl) ?_
 conv=>whnf
 iterate 2 (refine dS ?_;(conv=>whnf))
 refine ⟨_,cP (c157 r n hr hn) ⟨rfl,rfl,zqv⟩,?_⟩
 conv=>whnf
 iterate 2 (refine dS ?_;(conv=>whnf))
 refine ⟨_,cP (c158 kv) ⟨rfl,rfl,zqv⟩,?_⟩
 conv=>whnf
 iterate 2 (refine dS ?_;(conv=>whnf))
 refine ⟨_,cP (c165p b (by omega)) ⟨rfl,rfl,zqv⟩,?_⟩
 conv=>whnf
 (refine dS ?_;(conv=>whnf))
 refine ⟨_,cP (c156p 97 [princE r n,intE kv,wrapB 4 b] (by simp) (by simp only [zqk,zql,zqf,List.length_nil];omega)) ⟨rfl,rfl,zqv⟩,?_⟩
 conv=>whnf
 (refine dS ?_;(conv=>whnf))
 exact ⟨rfl,rfl⟩
def laidB (m:Msg):List UInt8 :=
 if m.kind=1 then wrapB 106 [princE m.a1 m.a2,princE m.a3 m.a4,intE m.aTill,intE m.aNonce].flatten
 else if m.kind=2 then wrapB 108 [ticketE m.t1 m.t2 m.tKv m.tB,wrapB 4 m.tAu,princE m.t3 m.t4,intE m.tTill,intE m.tNonce].flatten
 else if m.kind=3 then wrapB 107 [princE m.r1 m.r2,ticketE m.r3 m.r4 m.rKv m.rB,wrapB 4 m.rBl].flatten
 else if m.kind=4 then wrapB 110 [ticketE m.p1 m.p2 m.pKv m.pB,wrapB 4 m.pAu].flatten
 else wrapB 126 [intE m.fErr,intE m.fNonce].flatten
theorem c119x (m:Msg) (hm:isB m=true) (H:PH):CK prog 119 [.agg m.cells] H fun r H'=>r=sl (laidB m)∧∃ext,H'=H++ext:=by
 have hm:=(zqb _ _▸hm:_∧_).1
 (refine fnS (imm:=imm119) ttGm_ok func119 ?_;(conv=>whnf))
 conv=>whnf
 by_cases h1:m.kind=1
 ·have hk:=h1
  have n2:¬m.kind=2:=by omega
  have n3:¬m.kind=3:=by omega
  have n4:¬m.kind=4:=by omega
  have n5:¬m.kind=5:=by omega
  rw [zqp hk] at hm
  simp only [zqb] at hm
  have g1:=princ_len hm.1.1.1
  have g2:=princ_len hm.1.1.2
  have g3:=princE_len m.a1 m.a2
  have g4:=princE_len m.a3 m.a4
  have g5:=intE_len m.aTill
  have g6:=intE_len m.aNonce
  refine ⟨fun h=>?_,fun h=>?_⟩
  rotate_left
  ·exact (h hk).elim
  conv=>whnf
  ((conv in (_[_]?)=>tactic=>exact gL _ _);(conv=>whnf))
  refine dP2 (by kernel_rfl) ?_
  conv=>whnf
  (refine dS ?_;(conv=>whnf))
  apply exA
  focus
   conv=>whnf
   ((conv in (_[_]?)=>tactic=>exact gS (gL _ _));(conv=>whnf))
   exact ⟨rfl,rfl,zqv⟩
  conv=>whnf
  refine ⟨_,cP (c157 m.a1 m.a2 (by omega) (by omega)) ⟨rfl,rfl,zqv⟩,?_⟩
  conv=>whnf
  (refine dS ?_;(conv=>whnf))
  apply exA
  focus
   conv=>whnf
   ((conv in (_[_]?)=>tactic=>exact gS (gL _ _));(conv=>whnf))
   exact ⟨rfl,rfl,zqv⟩
  conv=>whnf
  refine ⟨_,cP (c157 m.a3 m.a4 (by omega) (by omega)) ⟨rfl,rfl,zqv⟩,?_⟩
  conv=>whnf
  (refine dS ?_;(conv=>whnf))
  apply exA
  focus
   conv=>whnf
   ((conv in (_[_]?)=>tactic=>exact gS (gL _ _));(conv=>whnf))
   exact ⟨rfl,rfl,zqv⟩
  conv=>whnf
  refine ⟨_,cP (c158 m.aTill) ⟨rfl,rfl,zqv⟩,?_⟩
  conv=>whnf
  (refine dS ?_;(conv=>whnf))
  apply exA
  focus
   conv=>whnf
   ((conv in (_[_]?)=>tactic=>exact gS (gL _ _));(conv=>whnf))
   exact ⟨rfl,rfl,zqv⟩
  conv=>whnf
  refine ⟨_,cP (c158 m.aNonce) ⟨rfl,rfl,zqv⟩,?_⟩
  conv=>whnf
  (refine dS ?_;(conv=>whnf))
  refine ⟨_,cP (c156p 106 [princE m.a1 m.a2,princE m.a3 m.a4,intE m.aTill,intE m.aNonce] (by simp) (by simp only [zqk,zql,zqf,List.length_nil];omega)) ⟨rfl,rfl,zqv⟩,?_⟩
  conv=>whnf
  (refine dS ?_;(conv=>whnf))
  exact ⟨by unfold laidB;rw [zqp hk];rfl,(Ext.refl _).push _ |>.set (Ext.refl _).len _⟩
 by_cases h2:m.kind=2
 ·have hk:=h2
  have n1:¬m.kind=1:=by omega
  have n3:¬m.kind=3:=by omega
  have n4:¬m.kind=4:=by omega
  have n5:¬m.kind=5:=by omega
  rw [zqo n1] at hm
  rw [zqp hk] at hm
  simp only [zqb] at hm
  have g1:=tick_len hm.1.1.1.1
  have g2:=inZ_le hm.1.1.1.2
  have g3:=princ_len hm.1.1.2
  have g4:=ticketE_len m.t1 m.t2 m.tKv m.tB
  have g5:=wrapB_len 4 m.tAu
  have g6:=princE_len m.t3 m.t4
  have g7:=intE_len m.tTill
  have g8:=intE_len m.tNonce
  refine ⟨fun h=>?_,fun h=>?_⟩
  ·exact (n1 h).elim
  conv=>whnf
  refine ⟨fun h=>?_,fun h=>?_⟩
  rotate_left
  ·exact (h hk).elim
  conv=>whnf
  ((conv in (_[_]?)=>tactic=>exact gL _ _);(conv=>whnf))
  refine dP2 (by kernel_rfl) ?_
  conv=>whnf
  (refine dS ?_;(conv=>whnf))
  apply exA
  focus
   conv=>whnf
   ((conv in (_[_]?)=>tactic=>exact gS (gL _ _));(conv=>whnf))
   exact ⟨rfl,rfl,zqv⟩
  conv=>whnf
  refine ⟨_,cP (c164 m.t1 m.t2 m.tKv m.tB none (by omega) (by omega) (by omega)) ⟨rfl,rfl,zqv⟩,?_⟩
  conv=>whnf
  (refine dS ?_;(conv=>whnf))
  apply exA
  focus
   conv=>whnf
   ((conv in (_[_]?)=>tactic=>exact gS (gL _ _));(conv=>whnf))
   exact ⟨rfl,rfl,zqv⟩
  conv=>whnf
  refine ⟨_,cP (c165p m.tAu (by omega)) ⟨rfl,rfl,zqv⟩,?_⟩
  conv=>whnf
  (refine dS ?_;(conv=>whnf))
  apply exA
  focus
   conv=>whnf
   ((conv in (_[_]?)=>tactic=>exact gS (gL _ _));(conv=>whnf))
   exact ⟨rfl,rfl,zqv⟩
  conv=>whnf
  refine ⟨_,cP (c157 m.t3 m.t4 (by omega) (by omega)) ⟨rfl,rfl,zqv⟩,?_⟩
  conv=>whnf
  (refine dS ?_;(conv=>whnf))
  apply exA
  focus
   conv=>whnf
   ((conv in (_[_]?)=>tactic=>exact gS (gL _ _));(conv=>whnf))
   exact ⟨rfl,rfl,zqv⟩
  conv=>whnf
  refine ⟨_,cP (c158 m.tTill) ⟨rfl,rfl,zqv⟩,?_⟩
  conv=>whnf
  (refine dS ?_;(conv=>whnf))
  apply exA
  focus
   conv=>whnf
   ((conv in (_[_]?)=>tactic=>exact gS (gL _ _));(conv=>whnf))
   exact ⟨rfl,rfl,zqv⟩
  conv=>whnf
  refine ⟨_,cP (c158 m.tNonce) ⟨rfl,rfl,zqv⟩,?_⟩
  conv=>whnf
  (refine dS ?_;(conv=>whnf))
  refine ⟨_,cP (c156p 108 [ticketE m.t1 m.t2 m.tKv m.tB,wrapB 4 m.tAu,princE m.t3 m.t4,intE m.tTill,intE m.tNonce] (by simp) (by simp only [zqk,zql,zqf,List.length_nil];omega)) ⟨rfl,rfl,zqv⟩,?_⟩
  conv=>whnf
  (refine dS ?_;(conv=>whnf))
  exact ⟨by unfold laidB;rw [zqo n1];rw [zqp hk];rfl,(Ext.refl _).push _ |>.set (Ext.refl _).len _⟩
 by_cases h3:m.kind=3
 ·have hk:=h3
  have n1:¬m.kind=1:=by omega
  have n2:¬m.kind=2:=by omega
  have n4:¬m.kind=4:=by omega
  have n5:¬m.kind=5:=by omega
  rw [zqo n1] at hm
  rw [zqo n2] at hm
  rw [zqp hk] at hm
  simp only [zqb] at hm
  have g1:=princ_len hm.1.1
  have g2:=tick_len hm.1.2
  have g3:=inZ_le hm.2
  have g4:=princE_len m.r1 m.r2
  have g5:=ticketE_len m.r3 m.r4 m.rKv m.rB
  have g6:=wrapB_len 4 m.rBl
  refine ⟨fun h=>?_,fun h=>?_⟩
  ·exact (n1 h).elim
  conv=>whnf
  refine ⟨fun h=>?_,fun h=>?_⟩
  ·exact (n2 h).elim
  conv=>whnf
  refine ⟨fun h=>?_,fun h=>?_⟩
  rotate_left
  ·exact (h hk).elim
  conv=>whnf
  refine dP2 (by kernel_rfl) ?_
  conv=>whnf
  iterate 3 (refine dS ?_;(conv=>whnf))
  refine ⟨_,cP (c157 m.r1 m.r2 (by omega) (by omega)) ⟨rfl,rfl,zqv⟩,?_⟩
  conv=>whnf
  iterate 3 (refine dS ?_;(conv=>whnf))
  refine ⟨_,cP (c164 m.r3 m.r4 m.rKv m.rB none (by omega) (by omega) (by omega)) ⟨rfl,rfl,zqv⟩,?_⟩
  conv=>whnf
  iterate 3 (refine dS ?_;(conv=>whnf))
  refine ⟨_,cP (c165p m.rBl (by omega)) ⟨rfl,rfl,zqv⟩,?_⟩
  conv=>whnf
  (refine dS ?_;(conv=>whnf))
  refine ⟨_,cP (c156p 107 [princE m.r1 m.r2,ticketE m.r3 m.r4 m.rKv m.rB,wrapB 4 m.rBl] (by simp) (by simp only [zqk,zql,zqf,List.length_nil];omega)) ⟨rfl,rfl,zqv⟩,?_⟩
  conv=>whnf
  (refine dS ?_;(conv=>whnf))
  exact ⟨by unfold laidB;rw [zqo n1];rw [zqo n2];rw [zqp hk];rfl,Ext.refl _⟩
 by_cases h4:m.kind=4
 ·have hk:=h4
  have n1:¬m.kind=1:=by omega
  have n2:¬m.kind=2:=by omega
  have n3:¬m.kind=3:=by omega
  have n5:¬m.kind=5:=by omega
  rw [zqo n1] at hm
  rw [zqo n2] at hm
  rw [zqo n3] at hm
  rw [zqp hk] at hm
  simp only [zqb] at hm
  have g1:=tick_len hm.1
  have g2:=inZ_le hm.2
  have g3:=ticketE_len m.p1 m.p2 m.pKv m.pB
  have g4:=wrapB_len 4 m.pAu
  refine ⟨fun h=>?_,fun h=>?_⟩
  ·exact (n1 h).elim
  conv=>whnf
  refine ⟨fun h=>?_,fun h=>?_⟩
  ·exact (n2 h).elim
  conv=>whnf
  refine ⟨fun h=>?_,fun h=>?_⟩
  ·exact (n3 h).elim
  conv=>whnf
  refine ⟨fun h=>?_,fun h=>?_⟩
  rotate_left
  ·exact (h hk).elim
  conv=>whnf
  refine dP2 (by kernel_rfl) ?_
  conv=>whnf
  iterate 3 (refine dS ?_;(conv=>whnf))
  refine ⟨_,cP (c164 m.p1 m.p2 m.pKv m.pB none (by omega) (by omega) (by omega)) ⟨rfl,rfl,zqv⟩,?_⟩
  conv=>whnf
  iterate 3 (refine dS ?_;(conv=>whnf))
  refine ⟨_,cP (c165p m.pAu (by omega)) ⟨rfl,rfl,zqv⟩,?_⟩
  conv=>whnf
  (refine dS ?_;(conv=>whnf))
  refine ⟨_,cP (c156p 110 [ticketE m.p1 m.p2 m.pKv m.pB,wrapB 4 m.pAu] (by simp) (by simp only [zqk,zql,zqf,List.length_nil];omega)) ⟨rfl,rfl,zqv⟩,?_⟩
  conv=>whnf
  (refine dS ?_;(conv=>whnf))
  exact ⟨by unfold laidB;rw [zqo n1];rw [zqo n2];rw [zqo n3];rw [zqp hk];rfl,Ext.refl _⟩
 have n1:¬m.kind=1:=h1
 have n2:¬m.kind=2:=h2
 have n3:¬m.kind=3:=h3
 have n4:¬m.kind=4:=h4
 have g1:=intE_len m.fErr
 have g2:=intE_len m.fNonce
 refine ⟨fun h=>?_,fun h=>?_⟩
 ·exact (n1 h).elim
 conv=>whnf
 refine ⟨fun h=>?_,fun h=>?_⟩
 ·exact (n2 h).elim
 conv=>whnf
 refine ⟨fun h=>?_,fun h=>?_⟩
 ·exact (n3 h).elim
 conv=>whnf
 refine ⟨fun h=>?_,fun h=>?_⟩
 ·exact (n4 h).elim
 conv=>whnf
 refine dP2 (by kernel_rfl) ?_
 conv=>whnf
 iterate 3 (refine dS ?_;(conv=>whnf))
 refine ⟨_,cP (c158 m.fErr) ⟨rfl,rfl,zqv⟩,?_⟩
 conv=>whnf
 iterate 3 (refine dS ?_;(conv=>whnf))
 refine ⟨_,cP (c158 m.fNonce) ⟨rfl,rfl,zqv⟩,?_⟩
 conv=>whnf
 (refine dS ?_;(conv=>whnf))
 refine ⟨_,cP (c156p 126 [intE m.fErr,intE m.fNonce] (by simp) (by simp only [zqk,zql,zqf,List.length_nil];omega)) ⟨rfl,rfl,zqv⟩,?_⟩
 conv=>whnf
 (refine dS ?_;(conv=>whnf))
 exact ⟨by unfold laidB;rw [zqo n1];rw [zqo n2];rw [zqo n3];rw [zqo n4];rfl,Ext.refl _⟩
theorem c119 (m:Msg) (hm:isB m=true):Pure prog 119 [.agg m.cells] (sl (laidB m)):=Pure.of_gc (oldPs_bytes _) (c119x m hm)
theorem isd {m:Msg}:isB m.d=isB m:=rfl
theorem laidd {m:Msg}:laidB m.d=laidB m:=rfl
def encV (m:Msg):PV:=limV (isB m) (laidB m)
theorem c72 (m:Msg) (hm:m.fits):Pure prog 72 [.agg m.cells] (encV m):=by
 intro H
 (refine fnS (imm:=imm72) ttGm_ok func72 ?_;(conv=>whnf))
 refine cP ((c117 m.d hm).of_eq (show PV.bool (isB m.d)=.bool (isB m) from rfl)) ?_
 unfold encV
 cases hb:isB m
 ·conv=>whnf
  exact ⟨by unfold limV;rw [zqo (by simp)];rfl,rfl⟩
 ·conv=>whnf
  refine cP ((c119 m.d hb).of_eq (show sl (laidB m.d)=sl (laidB m) from rfl)) ?_
  conv=>whnf
  refine cP (c118 true (laidB m)) ?_
  unfold limV
  by_cases hl:(laidB m).length≤2000
  ·rw [zqp ⟨rfl,hl⟩]
   conv=>whnf
   exact ⟨rfl,rfl⟩
  ·rw [zqo (by simp [hl])]
   conv=>whnf
   exact ⟨rfl,rfl⟩
set_option maxHeartbeats 1000000
def ttC:TT:=[(3,⟨.int .i64,1,8,[.int .i64 0]⟩),(4,⟨.bool,1,1,[.bool false]⟩),(5,⟨.int .u8,1,1,[.int .u8 0]⟩),(9,⟨.str,1,16,[.str []]⟩),(36,⟨.strct [(9,0),(9,1)],2,32,[.str [],.str []]⟩),(26,⟨.int .i64,1,8,[.int .i64 0]⟩),(31,⟨.arr 32 5,32,32,List.replicate 32 (.int .u8 0)⟩),(253,⟨.slice 3,1,24,[.slice 0 [] (some 3)]⟩),(25,⟨.slice 5,1,24,[.slice 0 [] (some 5)]⟩),(33,⟨.strct [(28,0),(29,1),(3,2),(31,3),(3,35)],36,64,[.ptr none,.ptr none,.int .i64 0]++List.replicate 32 (.int .u8 0)++[.int .i64 0]⟩),(288,⟨.fn,1,8,[.nilF]⟩),(213,⟨.ptr,1,8,[.ptr none]⟩),(215,⟨.strct [(213,0)],1,8,[.ptr none]⟩),(294,⟨.fn,1,8,[.nilF]⟩),(192,⟨.slice 25,1,24,[.slice 0 [] (some 25)]⟩),(265,⟨.strct [(25,0),(4,1)],2,32,[.slice 0 [] (some 5),.bool false]⟩)]
theorem ttC_ok:ttOk prog ttC=true:=by kernel_rfl
def imm131:List Nat:=[]
def imm170:List Nat:=[]
def imm171:List Nat:=[]
def imm137:List Nat:=[]
def imm173:List Nat:=[1000003]
def imm174:List Nat:=[]
def imm175:List Nat:=[]
def imm132:List Nat:=[]
def imm193:List Nat:=[]
def imm194:List Nat:=[]
def imm133:List Nat:=[]
def imm134:List Nat:=[1]
def imm172:List Nat:=[]
def imm135:List Nat:=[]
theorem c131 (b:List UInt8) (hb:b.length≤140737488355328):Pure prog 131 [sl b] (slo b (some 5)):=by
 intro H
 (refine fnS (imm:=imm131) ttC_ok func131 ?_;(conv=>whnf))
 have ht:∀K:PV→PH→Prop,K (slo b (some 5)) H→K (.slice (0+b.length) ([]++b.map bC) (some 5)) H:=fun K k=>by
  rw [Nat.zero_add,List.nil_append];exact k
 have happ:(0+b.length)*1≤140737488355328∧(b.map bC).length=b.length*1∧(b.map bC).all oneP=true:=⟨by omega,by simp,allOne b⟩
 refine ⟨fun h=>?_,fun h=>⟨?_,?_⟩⟩
 ·conv=>whnf
  refine ⟨happ,?_⟩
  conv=>whnf
  exact ⟨by rw [Nat.zero_add];rfl,rfl⟩
 ·conv=>whnf
  have e:b=[]:=List.length_eq_zero_iff.1 h
  subst e
  exact ⟨rfl,rfl⟩
 ·conv=>whnf
  refine ⟨happ,?_⟩
  conv=>whnf
  exact ⟨by rw [Nat.zero_add];rfl,rfl⟩
def curAt (H:PH) (c:Nat) (s:Option (List UInt8)):Prop:=∃x v,H[c]? = some ⟨265,[x,.bool s.isNone],v⟩∧∀l,s=some l→x=sl l
def Upd (X:Nat→Prop) (H H':PH):Prop:=H.length≤H'.length∧∀i,i<H.length→¬X i→H'[i]? = H[i]?
theorem Upd.refl {X:Nat→Prop} (H:PH):Upd X H H:=⟨zqn _,fun _ _ _=>rfl⟩
theorem Upd.trans {X:Nat→Prop} {H H1 H2:PH} (h:Upd X H H1) (k:Upd X H1 H2):Upd X H H2:=⟨Nat.le_trans h.1 k.1,fun i hi hx=>(k.2 i (Nat.lt_of_lt_of_le hi h.1) hx).trans (h.2 i hi hx)⟩
theorem Upd.mono {X Y:Nat→Prop} {H H1:PH} (h:Upd X H H1) (k:∀i,i<H.length→X i→Y i):Upd Y H H1:=⟨h.1,fun i hi hx=>h.2 i hi fun hX=>hx (k i hi hX)⟩
theorem Upd.set {X:Nat→Prop} {H H1:PH} (h:Upd X H H1) {c:Nat} (hc:X c∨H.length≤c) (o:PObj):Upd X H (H1.set c o):=⟨by rw [List.length_set];exact h.1,fun i hi hx=>by
 rw [zqj (fun e=>by subst e;rcases hc with hc | hc;exact hx hc;omega)];exact h.2 i hi hx⟩
theorem Upd.push {X:Nat→Prop} {H H1:PH} (h:Upd X H H1) (o:PObj):Upd X H (H1++[o]):=⟨by rw [zqf];exact Nat.le_add_right_of_le h.1,fun i hi hx=>by
 rw [zq2 (Nat.lt_of_lt_of_le hi h.1)];exact h.2 i hi hx⟩
theorem Upd.ext {H H':PH} (h:Upd (fun _=>False) H H'):∃ext,H'=H++ext:=by
 refine ⟨H'.drop H.length,?_⟩
 apply List.ext_getElem?
 intro i
 by_cases hi:i<H.length
 ·rw [zq2 hi,h.2 i hi (fun f=>f)]
 ·rw [zqi (by omega),zqt]
  congr 1;omega
theorem curAt.lt {H:PH} {c:Nat} {s:Option (List UInt8)} (h:curAt H c s):c<H.length:=by
 obtain ⟨x,v,h,_⟩:=h
 exact (zq1.1 h).1
theorem curAt.keep {X:Nat→Prop} {H H':PH} {c:Nat} {s:Option (List UInt8)} (h:curAt H c s) (k:Upd X H H') (hc:¬X c):curAt H' c s:=by
 have hl:=h.lt
 obtain ⟨x,v,h,h2⟩:=h
 exact ⟨x,v,(k.2 c hl hc).trans h,h2⟩
theorem c193 (c:Nat) (s:Option (List UInt8)) (H:PH) (hc:curAt H c s):CK prog 193 [.ptr (some (c,0))] H fun r H'=>r=.bool (!s.isNone)∧H'=H:=by
 obtain ⟨x,v,hc,_⟩:=hc
 (refine fnS (imm:=imm193) ttC_ok func193 ?_;(conv=>whnf))
 ((conv in (_[_]?)=>tactic=>exact hc);(conv=>whnf))
 exact ⟨rfl,rfl⟩
theorem c175 (c:Nat) (s:Option (List UInt8)) (H:PH) (hc:curAt H c s):CK prog 175 [.ptr (some (c,0))] H fun r H'=>r=.slice 0 [] (some 5)∧Upd (·=c) H H'∧curAt H' c none∧∀y u,H[c]? = some ⟨265,[y,.bool s.isNone],u⟩→H'=H.set c ⟨265,[.nilS,.bool true],u+2⟩:=by
 obtain ⟨x,v,hc,_⟩:=hc
 (refine fnS (imm:=imm175) ttC_ok func175 ?_;(conv=>whnf))
 ((conv in (_[_]?)=>tactic=>exact hc);(conv=>whnf))
 ((conv in (_[_]?)=>tactic=>exact gS hc);(conv=>whnf))
 exact ⟨rfl,((Upd.refl (X:=(·=c)) H).set (c:=c) (.inl rfl) _).set (c:=c) (.inl rfl) _,⟨.nilS,v+2,gS (gS hc),(fun l h=>by cases h)⟩,fun y u hy=>by
  rw [hc] at hy
  cases hy
  exact List.set_set ..⟩
def headB:List UInt8→Nat×Nat×Bool
 | []=>(0,0,false)
 | [x]=>if x.toNat<128 then (1,x.toNat,true) else (0,0,false)
 | [x,y]=>if x.toNat<128 then (1,x.toNat,true) else if x.toNat=129∧128≤y.toNat then (2,y.toNat,true) else (0,0,false)
 | x::y::z::_=>if x.toNat<128 then (1,x.toNat,true) else if x.toNat=129∧128≤y.toNat then (2,y.toNat,true)
  else if x.toNat=130∧0<y.toNat then (3,y.toNat*256+z.toNat,true) else (0,0,false)
theorem head_0:headB []=(0,0,false):=rfl
theorem head_1 (x:UInt8):headB [x]=if x.toNat<128 then (1,x.toNat,true) else (0,0,false):=rfl
theorem head_2 (x y:UInt8):headB [x,y]=if x.toNat<128 then (1,x.toNat,true) else if x.toNat=129∧128≤y.toNat then (2,y.toNat,true) else (0,0,false):=rfl
theorem head_3 (x y z:UInt8) (r:List UInt8):headB (x::y::z::r)=if x.toNat<128 then (1,x.toNat,true) else if x.toNat=129∧128≤y.toNat then (2,y.toNat,true)
  else if x.toNat=130∧0<y.toNat then (3,y.toNat*256+z.toNat,true) else (0,0,false):=rfl
def headV (h:Nat×Nat×Bool):PV:=.tup [.int .i64 h.1,.int .i64 h.2.1,.bool h.2.2]
theorem at1 {cs:List PV} {k:Nat} {x:PV} (h:cs[k]? = some x):∀(j:Nat) (c:PV),[x][j]? = some c→cs[k+j]? = some c:=by
 intro j c hj
 match j with
 | 0=>simpa using h.trans hj
 | j+1=>simp at hj
theorem wrapB1 (x:UInt8):IntKind.i64.wrap (x.toNat:Int)=(x.toNat:Int):=by
 have:=x.toNat_lt
 rw [w64 (by omega) (by omega)]
theorem wrapB2 (y z:UInt8):IntKind.i64.wrap (ishl .i64 (IntKind.i64.wrap (y.toNat:Int)) 8+IntKind.i64.wrap (z.toNat:Int))=((y.toNat*256+z.toNat:Nat):Int):=by
 have:=y.toNat_lt
 have:=z.toNat_lt
 have h:ishl .i64 (IntKind.i64.wrap (y.toNat:Int)) 8=(y.toNat:Int)*256:=by
  rw [wrapB1]
  unfold ishl
  rw [show (2:Int) ^ (min (Int.toNat 8) IntKind.i64.bits)=256 from rfl,w64 (by omega) (by omega)]
 rw [h,wrapB1,w64 (by omega) (by omega)]
 omega
theorem c194_0 (H:PH):CK prog 194 [sl ([])] H fun r H'=>r=headV (headB ([]))∧H'=H:=by
 (refine fnS (imm:=imm194) ttC_ok func194 ?_;(conv=>whnf))
 refine ⟨fun h=>absurd h (by first | decide | omega | (simp;done) | (simp;omega)),fun _=>?_⟩
 conv=>whnf
 refine ⟨fun h=>absurd h (by first | decide | omega | (simp;done) | (simp;omega)),fun _=>?_⟩
 conv=>whnf
 refine ⟨fun h=>absurd h (by first | decide | omega | (simp;done) | (simp;omega)),fun _=>?_⟩
 conv=>whnf
 refine ⟨?_,rfl⟩
 rw [head_0]
 rfl
theorem c194_1 (x:UInt8) (H:PH):CK prog 194 [sl ([x])] H fun r H'=>r=headV (headB ([x]))∧H'=H:=by
 (refine fnS (imm:=imm194) ttC_ok func194 ?_;(conv=>whnf))
 refine ⟨fun _=>?_,fun h=>absurd (by first | decide | omega | (simp;done) | (simp;omega)) h⟩
 conv=>whnf
 refine ⟨⟨by first | decide | omega | (simp;done) | (simp;omega),by first | decide | omega | (simp;done) | (simp;omega)⟩,[bC x],at1 (k:=0*1) rfl,?_⟩
 conv=>whnf
 refine ⟨fun h1=>?_,fun h1=>?_⟩
 ·conv=>whnf
  have h1:(x.toNat:Int)<128:=h1
  refine dP2 (by kernel_rfl) ?_
  conv=>whnf
  (refine dS ?_;(conv=>whnf))
  refine ⟨.elem [bC x],⟨⟨by first | decide | omega | (simp;done) | (simp;omega),by first | decide | omega | (simp;done) | (simp;omega)⟩,[bC x],at1 (k:=0*1) rfl,rfl,rfl,zqv⟩,?_⟩
  conv=>whnf
  iterate 5 (refine dS ?_;(conv=>whnf))
  refine ⟨?_,rfl⟩
  rw [head_1]
  rw [zqp (by omega)]
  show PV.tup [_,PV.int .i64 (IntKind.i64.wrap (x.toNat:Int)),_]=PV.tup [_,_,_]
  rw [wrapB1]
  rfl
 conv=>whnf
 have h1:¬(x.toNat:Int)<128:=h1
 refine ⟨fun h=>absurd h (by first | decide | omega | (simp;done) | (simp;omega)),fun _=>?_⟩
 conv=>whnf
 refine ⟨fun h=>absurd h (by first | decide | omega | (simp;done) | (simp;omega)),fun _=>?_⟩
 conv=>whnf
 refine ⟨?_,rfl⟩
 rw [head_1]
 rw [zqo (by omega)]
 rfl
theorem c194_2 (x y:UInt8) (H:PH):CK prog 194 [sl ([x,y])] H fun r H'=>r=headV (headB ([x,y]))∧H'=H:=by
 (refine fnS (imm:=imm194) ttC_ok func194 ?_;(conv=>whnf))
 refine ⟨fun _=>?_,fun h=>absurd (by first | decide | omega | (simp;done) | (simp;omega)) h⟩
 conv=>whnf
 refine ⟨⟨by first | decide | omega | (simp;done) | (simp;omega),by first | decide | omega | (simp;done) | (simp;omega)⟩,[bC x],at1 (k:=0*1) rfl,?_⟩
 conv=>whnf
 refine ⟨fun h1=>?_,fun h1=>?_⟩
 ·conv=>whnf
  have h1:(x.toNat:Int)<128:=h1
  refine dP2 (by kernel_rfl) ?_
  conv=>whnf
  (refine dS ?_;(conv=>whnf))
  refine ⟨.elem [bC x],⟨⟨by first | decide | omega | (simp;done) | (simp;omega),by first | decide | omega | (simp;done) | (simp;omega)⟩,[bC x],at1 (k:=0*1) rfl,rfl,rfl,zqv⟩,?_⟩
  conv=>whnf
  iterate 5 (refine dS ?_;(conv=>whnf))
  refine ⟨?_,rfl⟩
  rw [head_2]
  rw [zqp (by omega)]
  show PV.tup [_,PV.int .i64 (IntKind.i64.wrap (x.toNat:Int)),_]=PV.tup [_,_,_]
  rw [wrapB1]
  rfl
 conv=>whnf
 have h1:¬(x.toNat:Int)<128:=h1
 refine ⟨fun _=>?_,fun h=>absurd (by first | decide | omega | (simp;done) | (simp;omega)) h⟩
 conv=>whnf
 refine ⟨⟨by first | decide | omega | (simp;done) | (simp;omega),by first | decide | omega | (simp;done) | (simp;omega)⟩,[bC x],at1 (k:=0*1) rfl,?_⟩
 conv=>whnf
 refine ⟨fun h2=>?_,fun h2=>?_⟩
 ·conv=>whnf
  have h2:(x.toNat:Int)=129:=h2
  refine ⟨⟨by first | decide | omega | (simp;done) | (simp;omega),by first | decide | omega | (simp;done) | (simp;omega)⟩,[bC y],at1 (k:=1*1) rfl,?_⟩
  conv=>whnf
  refine ⟨fun h5=>?_,fun h5=>?_⟩
  ·conv=>whnf
   have h5:(128:Int)≤(y.toNat:Int):=h5
   refine dP2 (by kernel_rfl) ?_
   conv=>whnf
   (refine dS ?_;(conv=>whnf))
   refine ⟨.elem [bC y],⟨⟨by first | decide | omega | (simp;done) | (simp;omega),by first | decide | omega | (simp;done) | (simp;omega)⟩,[bC y],at1 (k:=1*1) rfl,rfl,rfl,zqv⟩,?_⟩
   conv=>whnf
   iterate 5 (refine dS ?_;(conv=>whnf))
   refine ⟨?_,rfl⟩
   rw [head_2]
   rw [zqo (by omega)]
   rw [zqp ⟨by omega,by omega⟩]
   show PV.tup [_,PV.int .i64 (IntKind.i64.wrap (y.toNat:Int)),_]=PV.tup [_,_,_]
   rw [wrapB1]
   rfl
  ·conv=>whnf
   have h5:¬(128:Int)≤(y.toNat:Int):=h5
   refine ⟨fun h=>absurd h (by first | decide | omega | (simp;done) | (simp;omega)),fun _=>?_⟩
   conv=>whnf
   refine ⟨?_,rfl⟩
   rw [head_2]
   rw [zqo (by omega)]
   rw [zqo (fun hh=>by omega)]
   rfl
 ·conv=>whnf
  have h2:¬(x.toNat:Int)=129:=h2
  refine ⟨fun h=>absurd h (by first | decide | omega | (simp;done) | (simp;omega)),fun _=>?_⟩
  conv=>whnf
  refine ⟨?_,rfl⟩
  rw [head_2]
  rw [zqo (by omega)]
  rw [zqo (fun hh=>by omega)]
  rfl
theorem c194_3 (x y z:UInt8) (t:List UInt8) (H:PH):CK prog 194 [sl (x::y::z::t)] H fun r H'=>r=headV (headB (x::y::z::t))∧H'=H:=by
 (refine fnS (imm:=imm194) ttC_ok func194 ?_;(conv=>whnf))
 refine ⟨fun _=>?_,fun h=>absurd (by first | decide | omega | (simp;done) | (simp;omega)) h⟩
 conv=>whnf
 refine ⟨⟨by first | decide | omega | (simp;done) | (simp;omega),by first | decide | omega | (simp;done) | (simp;omega)⟩,[bC x],at1 (k:=0*1) rfl,?_⟩
 conv=>whnf
 refine ⟨fun h1=>?_,fun h1=>?_⟩
 ·conv=>whnf
  have h1:(x.toNat:Int)<128:=h1
  refine dP2 (by kernel_rfl) ?_
  conv=>whnf
  (refine dS ?_;(conv=>whnf))
  refine ⟨.elem [bC x],⟨⟨by first | decide | omega | (simp;done) | (simp;omega),by first | decide | omega | (simp;done) | (simp;omega)⟩,[bC x],at1 (k:=0*1) rfl,rfl,rfl,zqv⟩,?_⟩
  conv=>whnf
  iterate 5 (refine dS ?_;(conv=>whnf))
  refine ⟨?_,rfl⟩
  rw [head_3]
  rw [zqp (by omega)]
  show PV.tup [_,PV.int .i64 (IntKind.i64.wrap (x.toNat:Int)),_]=PV.tup [_,_,_]
  rw [wrapB1]
  rfl
 conv=>whnf
 have h1:¬(x.toNat:Int)<128:=h1
 refine ⟨fun _=>?_,fun h=>absurd (by first | decide | omega | (simp;done) | (simp;omega)) h⟩
 conv=>whnf
 refine ⟨⟨by first | decide | omega | (simp;done) | (simp;omega),by first | decide | omega | (simp;done) | (simp;omega)⟩,[bC x],at1 (k:=0*1) rfl,?_⟩
 conv=>whnf
 refine ⟨fun h2=>?_,fun h2=>?_⟩
 ·conv=>whnf
  have h2:(x.toNat:Int)=129:=h2
  refine ⟨⟨by first | decide | omega | (simp;done) | (simp;omega),by first | decide | omega | (simp;done) | (simp;omega)⟩,[bC y],at1 (k:=1*1) rfl,?_⟩
  conv=>whnf
  refine ⟨fun h5=>?_,fun h5=>?_⟩
  ·conv=>whnf
   have h5:(128:Int)≤(y.toNat:Int):=h5
   refine dP2 (by kernel_rfl) ?_
   conv=>whnf
   (refine dS ?_;(conv=>whnf))
   refine ⟨.elem [bC y],⟨⟨by first | decide | omega | (simp;done) | (simp;omega),by first | decide | omega | (simp;done) | (simp;omega)⟩,[bC y],at1 (k:=1*1) rfl,rfl,rfl,zqv⟩,?_⟩
   conv=>whnf
   iterate 5 (refine dS ?_;(conv=>whnf))
   refine ⟨?_,rfl⟩
   rw [head_3]
   rw [zqo (by omega)]
   rw [zqp ⟨by omega,by omega⟩]
   show PV.tup [_,PV.int .i64 (IntKind.i64.wrap (y.toNat:Int)),_]=PV.tup [_,_,_]
   rw [wrapB1]
   rfl
  ·conv=>whnf
   have h5:¬(128:Int)≤(y.toNat:Int):=h5
   refine ⟨fun _=>?_,fun h=>absurd (by first | decide | omega | (simp;done) | (simp;omega)) h⟩
   conv=>whnf
   refine ⟨⟨by first | decide | omega | (simp;done) | (simp;omega),by first | decide | omega | (simp;done) | (simp;omega)⟩,[bC x],at1 (k:=0*1) rfl,?_⟩
   conv=>whnf
   refine ⟨fun h3=>?_,fun h3=>?_⟩
   ·conv=>whnf
    have h3:(x.toNat:Int)=130:=h3
    refine ⟨⟨by first | decide | omega | (simp;done) | (simp;omega),by first | decide | omega | (simp;done) | (simp;omega)⟩,[bC y],at1 (k:=1*1) rfl,?_⟩
    conv=>whnf
    refine ⟨fun h4=>?_,fun h4=>?_⟩
    ·conv=>whnf
     have h4:(0:Int)<(y.toNat:Int):=h4
     refine dP2 (by kernel_rfl) ?_
     conv=>whnf
     (refine dS ?_;(conv=>whnf))
     refine ⟨.elem [bC y],⟨⟨by first | decide | omega | (simp;done) | (simp;omega),by first | decide | omega | (simp;done) | (simp;omega)⟩,[bC y],at1 (k:=1*1) rfl,rfl,rfl,zqv⟩,?_⟩
     conv=>whnf
     iterate 4 (refine dS ?_;(conv=>whnf))
     refine ⟨.elem [bC z],⟨⟨by first | decide | omega | (simp;done) | (simp;omega),by first | decide | omega | (simp;done) | (simp;omega)⟩,[bC z],at1 (k:=2*1) rfl,rfl,rfl,zqv⟩,?_⟩
     conv=>whnf
     iterate 6 (refine dS ?_;(conv=>whnf))
     refine ⟨?_,rfl⟩
     rw [head_3]
     rw [zqo (by omega)]
     rw [zqo (fun hh=>by omega)]
     rw [zqp ⟨by omega,by omega⟩]
     show PV.tup [_,PV.int .i64 (IntKind.i64.wrap (ishl .i64 (IntKind.i64.wrap (y.toNat:Int)) 8+IntKind.i64.wrap (z.toNat:Int))),_]=PV.tup [_,_,_]
     rw [wrapB2]
     rfl
    ·conv=>whnf
     have h4:¬(0:Int)<(y.toNat:Int):=h4
     refine ⟨?_,rfl⟩
     rw [head_3]
     rw [zqo (by omega)]
     rw [zqo (fun hh=>by omega)]
     rw [zqo (fun hh=>by omega)]
     rfl
   ·conv=>whnf
    have h3:¬(x.toNat:Int)=130:=h3
    refine ⟨?_,rfl⟩
    rw [head_3]
    rw [zqo (by omega)]
    rw [zqo (fun hh=>by omega)]
    rw [zqo (fun hh=>by omega)]
    rfl
 ·conv=>whnf
  have h2:¬(x.toNat:Int)=129:=h2
  refine ⟨fun _=>?_,fun h=>absurd (by first | decide | omega | (simp;done) | (simp;omega)) h⟩
  conv=>whnf
  refine ⟨⟨by first | decide | omega | (simp;done) | (simp;omega),by first | decide | omega | (simp;done) | (simp;omega)⟩,[bC x],at1 (k:=0*1) rfl,?_⟩
  conv=>whnf
  refine ⟨fun h3=>?_,fun h3=>?_⟩
  ·conv=>whnf
   have h3:(x.toNat:Int)=130:=h3
   refine ⟨⟨by first | decide | omega | (simp;done) | (simp;omega),by first | decide | omega | (simp;done) | (simp;omega)⟩,[bC y],at1 (k:=1*1) rfl,?_⟩
   conv=>whnf
   refine ⟨fun h4=>?_,fun h4=>?_⟩
   ·conv=>whnf
    have h4:(0:Int)<(y.toNat:Int):=h4
    refine dP2 (by kernel_rfl) ?_
    conv=>whnf
    (refine dS ?_;(conv=>whnf))
    refine ⟨.elem [bC y],⟨⟨by first | decide | omega | (simp;done) | (simp;omega),by first | decide | omega | (simp;done) | (simp;omega)⟩,[bC y],at1 (k:=1*1) rfl,rfl,rfl,zqv⟩,?_⟩
    conv=>whnf
    iterate 4 (refine dS ?_;(conv=>whnf))
    refine ⟨.elem [bC z],⟨⟨by first | decide | omega | (simp;done) | (simp;omega),by first | decide | omega | (simp;done) | (simp;omega)⟩,[bC z],at1 (k:=2*1) rfl,rfl,rfl,zqv⟩,?_⟩
    conv=>whnf
    iterate 6 (refine dS ?_;(conv=>whnf))
    refine ⟨?_,rfl⟩
    rw [head_3]
    rw [zqo (by omega)]
    rw [zqo (fun hh=>by omega)]
    rw [zqp ⟨by omega,by omega⟩]
    show PV.tup [_,PV.int .i64 (IntKind.i64.wrap (ishl .i64 (IntKind.i64.wrap (y.toNat:Int)) 8+IntKind.i64.wrap (z.toNat:Int))),_]=PV.tup [_,_,_]
    rw [wrapB2]
    rfl
   ·conv=>whnf
    have h4:¬(0:Int)<(y.toNat:Int):=h4
    refine ⟨?_,rfl⟩
    rw [head_3]
    rw [zqo (by omega)]
    rw [zqo (fun hh=>by omega)]
    rw [zqo (fun hh=>by omega)]
    rfl
  ·conv=>whnf
   have h3:¬(x.toNat:Int)=130:=h3
   refine ⟨?_,rfl⟩
   rw [head_3]
   rw [zqo (by omega)]
   rw [zqo (fun hh=>by omega)]
   rw [zqo (fun hh=>by omega)]
   rfl
theorem c194 (b:List UInt8):Pure prog 194 [sl b] (headV (headB b)):=fun H=>match b with
 | []=>c194_0 H
 | [x]=>c194_1 x H
 | [x,y]=>c194_2 x y H
 | x::y::z::r=>c194_3 x y z r H
theorem c132 (a b:List UInt8):Pure prog 132 [sl a,sl b] (.bool (decide (a=b))):=by
 intro H
 (refine fnS (imm:=imm132) ttC_ok func132 ?_;(conv=>whnf))
 refine ⟨a,⟨rfl,rfl⟩,?_⟩
 conv=>whnf
 refine ⟨b,⟨rfl,rfl⟩,?_⟩
 conv=>whnf
 refine ⟨fun h=>?_,fun h=>?_⟩
 ·conv=>whnf
  exact ⟨zqm PV.bool (zqe h).symm,rfl⟩
 ·conv=>whnf
  exact ⟨zqm PV.bool (zqd h).symm,rfl⟩
def isNumB:List UInt8→Bool
 | []=>false
 | [x]=>decide (x.toNat<128)
 | x::y::t=>decide (t.length≤6)&&(decide (x.toNat<128)&&(decide (x.toNat≠0)||decide (128≤y.toNat)))
theorem c174 (b:List UInt8):Pure prog 174 [sl b] (.bool (isNumB b)):=by
 intro H
 (refine fnS (imm:=imm174) ttC_ok func174 ?_;(conv=>whnf))
 match b with
 | [] =>
  refine ⟨fun _=>?_,fun h=>absurd rfl h⟩
  conv=>whnf
  exact ⟨rfl,rfl⟩
 | [x] =>
  refine ⟨fun h=>absurd h (by simp),fun _=>?_⟩
  conv=>whnf
  refine ⟨fun h=>absurd h (by simp),fun _=>?_⟩
  conv=>whnf
  refine ⟨⟨by decide,by simp⟩,[bC x],at1 (k:=0*1) rfl,?_⟩
  conv=>whnf
  refine ⟨fun h=>?_,fun h=>?_⟩
  ·conv=>whnf
   have h:(128:Int)≤(x.toNat:Int):=h
   exact ⟨zqm PV.bool (zqd (by omega)).symm,rfl⟩
  ·conv=>whnf
   have h:¬(128:Int)≤(x.toNat:Int):=h
   refine ⟨fun h=>absurd h (by simp),fun _=>?_⟩
   conv=>whnf
   exact ⟨zqm PV.bool (zqe (by omega)).symm,rfl⟩
 | x::y::t =>
  refine ⟨fun h=>absurd h (by simp;omega),fun _=>?_⟩
  conv=>whnf
  refine ⟨fun h=>?_,fun h=>?_⟩
  ·conv=>whnf
   have h:(8:Int)<((t.length+1+1:Nat):Int):=h
   exact ⟨zqm PV.bool (show false=(decide (t.length≤6)&&_) by rw [zqd (by omega)];rfl),rfl⟩
  conv=>whnf
  have h:¬(8:Int)<((t.length+1+1:Nat):Int):=h
  have e1:decide (t.length≤6)=true:=zqe (by omega)
  refine ⟨⟨by decide,by simp;omega⟩,[bC x],at1 (k:=0*1) rfl,?_⟩
  conv=>whnf
  refine ⟨fun h2=>?_,fun h2=>?_⟩
  ·conv=>whnf
   have h2:(128:Int)≤(x.toNat:Int):=h2
   exact ⟨zqm PV.bool (show false=(decide (t.length≤6)&&(decide (x.toNat<128)&&_)) by rw [e1,zqd (show ¬x.toNat<128 by omega)];rfl),rfl⟩
  conv=>whnf
  have h2:¬(128:Int)≤(x.toNat:Int):=h2
  have e2:decide (x.toNat<128)=true:=zqe (by omega)
  refine ⟨fun _=>?_,fun h=>absurd (by simp;omega) h⟩
  conv=>whnf
  refine ⟨⟨by decide,by simp;omega⟩,[bC x],at1 (k:=0*1) rfl,?_⟩
  conv=>whnf
  refine ⟨fun h3=>?_,fun h3=>?_⟩
  ·conv=>whnf
   have h3:(x.toNat:Int)=0:=h3
   have e3:decide (x.toNat≠0)=false:=zqd (by omega)
   refine ⟨⟨by decide,by simp;omega⟩,[bC y],at1 (k:=1*1) rfl,?_⟩
   conv=>whnf
   refine ⟨fun h4=>?_,fun h4=>?_⟩
   ·conv=>whnf
    have h4:(128:Int)≤(y.toNat:Int):=h4
    exact ⟨zqm PV.bool (show true=(decide (t.length≤6)&&(decide (x.toNat<128)&&(decide (x.toNat≠0)||decide (128≤y.toNat)))) by rw [e1,e2,e3,zqe (show 128≤y.toNat by omega)];rfl),rfl⟩
   ·conv=>whnf
    have h4:¬(128:Int)≤(y.toNat:Int):=h4
    exact ⟨zqm PV.bool (show false=(decide (t.length≤6)&&(decide (x.toNat<128)&&(decide (x.toNat≠0)||decide (128≤y.toNat)))) by rw [e1,e2,e3,zqd (show ¬128≤y.toNat by omega)];rfl),rfl⟩
  ·conv=>whnf
   have h3:¬(x.toNat:Int)=0:=h3
   have e3:decide (x.toNat≠0)=true:=zqe (by omega)
   exact ⟨zqm PV.bool (show true=(decide (t.length≤6)&&(decide (x.toNat<128)&&(decide (x.toNat≠0)||decide (128≤y.toNat)))) by rw [e1,e2,e3];rfl),rfl⟩
theorem c170 (b:List UInt8) (hb:b.length≤140737488355328) (H:PH):CK prog 170 [sl b] H fun r H'=>r=.ptr (some (H.length,0))∧H'=H++[⟨265,[sl b,.bool false],0⟩]:=by
 (refine fnS (imm:=imm170) ttC_ok func170 ?_;(conv=>whnf))
 refine cP (c131 b hb) ?_
 conv=>whnf
 exact ⟨rfl,rfl⟩
def elemB (tag:UInt8):List UInt8→Option (List UInt8×List UInt8)
 | []=>none
 | t::b=>if t=tag then (if (headB b).2.2=true∧(headB b).1+(headB b).2.1≤b.length then some ((b.drop (headB b).1).take (headB b).2.1,b.drop ((headB b).1+(headB b).2.1)) else none) else none
def elemC (tag:UInt8) (s:Option (List UInt8)):Option (List UInt8)×Option (List UInt8):=match s with
 | none=>(none,none)
 | some l=>match elemB tag l with
  | none=>(none,none)
  | some (x,r)=>(some r,some x)
theorem head_le (b:List UInt8):(headB b).2.2=true→(headB b).1≤3∧(headB b).1≤b.length∧(headB b).2.1≤65535:=by
 match b with
 | []=>intro h;cases h
 | [x] =>
  rw [head_1]
  have:=x.toNat_lt
  split <;> intro h <;> first | (cases h;done) | (simp;omega)
 | [x,y] =>
  rw [head_2]
  have:=x.toNat_lt
  have:=y.toNat_lt
  split <;> (try split) <;> intro h <;> first | (cases h;done) | (simp;omega)
 | x::y::z::t =>
  rw [head_3]
  have:=x.toNat_lt
  have:=y.toNat_lt
  have:=z.toNat_lt
  split <;> (try split) <;> (try split) <;> intro h <;> first | (cases h;done) | (simp;omega)
theorem sl_cut (b:List UInt8) (l h:Int) (h0:0≤l∧l≤h∧h≤b.length) :
  PV.slice (h.toNat - l.toNat) (((b.map bC).take (h.toNat*1)).drop (l.toNat*1)) none=sl ((b.take h.toNat).drop l.toNat):=by
 unfold sl
 have:((b.take h.toNat).drop l.toNat).length=h.toNat - l.toNat:=by rw [List.length_drop,zqr];omega
 rw [this,List.map_drop,List.map_take,Nat.mul_one,Nat.mul_one]
def elemV (o:Option (List UInt8)):PV:=.tup [slo (o.getD []) (some 5),.bool o.isSome]
theorem elemC_bad {tag:UInt8} {l:List UInt8} (h:elemB tag l=none):elemC tag (some l)=(none,none):=by
 show (match elemB tag l with | none=>(none,none) | some (x,r)=>(some r,some x))=_
 rw [h]
def curStep (tag:UInt8) (s:Option (List UInt8)) (v:Nat):PObj:=match (elemC tag s).1 with
 | some r=>⟨265,[sl r,.bool false],v+1⟩
 | none=>⟨265,[.nilS,.bool true],v+2⟩
theorem curStep_no {tag:UInt8} {s:Option (List UInt8)} {v:Nat} (h:elemC tag s=(none,none)):curStep tag s v=⟨265,[.nilS,.bool true],v+2⟩:=by unfold curStep;rw [h]
theorem curStep_yes {tag:UInt8} {s:Option (List UInt8)} {v:Nat} {r x:List UInt8} (h:elemC tag s=(some r,some x)):curStep tag s v=⟨265,[sl r,.bool false],v+1⟩:=by unfold curStep;rw [h]
theorem c173 (c:Nat) (tag:UInt8) (s:Option (List UInt8)) (H:PH) (hc:curAt H c s) (hl:∀l,s=some l→l.length≤140737488355328) :
  CK prog 173 [.ptr (some (c,0)),bC tag] H fun r H'=>r=elemV (elemC tag s).2∧Upd (·=c) H H'∧curAt H' c (elemC tag s).1∧∀y u,H[c]? = some ⟨265,[y,.bool s.isNone],u⟩→H'=H.set c (curStep tag s u):=by
 (refine fnS (imm:=imm173) ttC_ok func173 ?_;(conv=>whnf))
 refine cO (c193 c s H hc) ?_
 rintro _ _ ⟨rfl,rfl⟩
 rename_i H
 have errs:∀(K:PV→PH→Prop),elemC tag s=(none,none)→(∀H',Upd (·=c) H H'→curAt H' c none→(∀y u,H[c]? = some ⟨265,[y,.bool s.isNone],u⟩→H'=H.set c (curStep tag s u))→K (.slice 0 [] (some 5)) H')→callK prog 175 [.ptr (some (c,0))] H K:=fun K he k =>
  cO (c175 c s H hc) fun r H' ⟨h1,h2,h3,h4⟩=>by rw [h1];exact k H' h2 h3 fun y u hy=>by rw [curStep_no he];exact h4 y u hy
 cases s with
 | none =>
  conv=>whnf
  refine errs _ rfl fun H' h1 h2 h3=>?_
  conv=>whnf
  exact ⟨rfl,h1,h2,h3⟩
 | some l =>
  have hll:=hl l rfl
  obtain ⟨x,v,hc0,hx⟩:=hc
  have hx:=hx l rfl
  subst hx
  conv=>whnf
  ((conv in (_[_]?)=>tactic=>exact hc0);(conv=>whnf))
  cases l with
  | nil =>
   refine ⟨fun _=>?_,fun h=>absurd rfl h⟩
   conv=>whnf
   refine errs _ rfl fun H' h1 h2 h3=>?_
   conv=>whnf
   exact ⟨rfl,h1,h2,h3⟩
  | cons t b =>
   refine ⟨fun h=>absurd h (by simp <;> omega),fun _=>?_⟩
   conv=>whnf
   ((conv in (_[_]?)=>tactic=>exact hc0);(conv=>whnf))
   refine ⟨⟨by decide,by first | (simp;done) | (simp;omega)⟩,[bC t],at1 (k:=0*1) rfl,?_⟩
   conv=>whnf
   refine ⟨fun h=>?_,fun h=>?_⟩
   ·have ht:t=tag:=by
     have h:(t.toNat:Int)=(tag.toNat:Int):=h
     exact UInt8.toNat_inj.1 (by omega)
    subst ht
    conv=>whnf
    refine cutK_of [(0,.ptr (some (c,0))),(6,sl b)] H ?_ ?_
    rotate_left
    ·conv=>whnf
     ((conv in (_[_]?)=>tactic=>exact hc0);(conv=>whnf))
     refine ⟨⟨by decide,by simp <;> omega,by simp⟩,?_⟩
     conv=>whnf
     have e:=sl_cut (t::b) 1 ((t::b).length:Int) ⟨by decide,by simp <;> omega,by simp⟩
     refine ⟨(),trivial,⟨rfl,e.trans (by rw [Int.toNat_natCast,List.take_length];rfl),zqv⟩,rfl⟩
    conv=>whnf
    refine cP (c194 b) ?_
    have hle:=head_le b
    have heb:elemB t (t::b)=if (headB b).2.2=true∧(headB b).1+(headB b).2.1≤b.length then some ((b.drop (headB b).1).take (headB b).2.1,b.drop ((headB b).1+(headB b).2.1)) else none:=by
     show (if t=t then _ else none)=_
     rw [zqp rfl]
    revert hle heb
    generalize hq:headB b=q
    obtain ⟨at',n,ok⟩:=q
    intro hle heb
    have hbl:b.length+1≤140737488355328:=hll
    cases ok
    ·conv=>whnf
     refine errs _ (elemC_bad (by rw [heb];rfl)) fun H' h1 h2 h3=>?_
     conv=>whnf
     rw [elemC_bad (by rw [heb];rfl)]
     exact ⟨rfl,h1,h2,h3⟩
    ·obtain ⟨k1,k2,k3⟩:=hle rfl
     have k1:at'≤3:=k1
     have k2:at'≤b.length:=k2
     have k3:n≤65535:=k3
     conv=>whnf
     have hw:IntKind.i64.wrap ((b.length:Int) - (at':Int))=(b.length:Int) - at':=by rw [w64 (by omega) (by omega)]
     have hw2:IntKind.i64.wrap ((at':Int)+(n:Int))=((at'+n:Nat):Int):=by rw [w64 (by omega) (by omega)];rfl
     refine ⟨fun h=>?_,fun h=>?_⟩
     ·conv=>whnf
      have h:IntKind.i64.wrap ((b.length:Int) - (at':Int))<(n:Int):=h
      rw [hw] at h
      have hn:elemB t (t::b)=none:=by rw [heb,zqo (fun hh=>by have hh:at'+n≤b.length:=hh.2;omega)]
      refine errs _ (elemC_bad hn) fun H' h1 h2 h3=>?_
      conv=>whnf
      rw [elemC_bad hn]
      exact ⟨rfl,h1,h2,h3⟩
     ·conv=>whnf
      have h:¬IntKind.i64.wrap ((b.length:Int) - (at':Int))<(n:Int):=h
      rw [hw] at h
      have hfit:at'+n≤b.length:=by omega
      have hs:elemC t (some (t::b))=(some (b.drop (at'+n)),some ((b.drop at').take n)):=by
       show (match elemB t (t::b) with | none=>(none,none) | some (x,r)=>(some r,some x))=_
       rw [heb,zqp ⟨rfl,hfit⟩]
      refine ⟨⟨by show 0≤IntKind.i64.wrap ((at':Int)+(n:Int));rw [hw2];omega,by show IntKind.i64.wrap ((at':Int)+(n:Int))≤(b.length:Int);rw [hw2];omega,by omega⟩,?_⟩
      conv=>whnf
      ((conv in (_[_]?)=>tactic=>exact hc0);(conv=>whnf))
      refine ⟨⟨by show (0:Int)≤(at':Int);omega,by show (at':Int)≤IntKind.i64.wrap ((at':Int)+(n:Int));rw [hw2];omega,by show IntKind.i64.wrap ((at':Int)+(n:Int))≤(b.length:Int);rw [hw2];omega⟩,?_⟩
      conv=>whnf
      have e1:=sl_cut b (at':Int) (IntKind.i64.wrap ((at':Int)+(n:Int))) ⟨by omega,by rw [hw2];omega,by rw [hw2];omega⟩
      have e2:=sl_cut b (IntKind.i64.wrap ((at':Int)+(n:Int))) (b.length:Int) ⟨by rw [hw2];omega,by rw [hw2];omega,by omega⟩
      have e3:(b.take (IntKind.i64.wrap ((at':Int)+(n:Int))).toNat).drop (at':Int).toNat=(b.drop at').take n:=by
       rw [hw2,Int.toNat_natCast,Int.toNat_natCast,List.drop_take]
       congr 1;omega
      have e4:(b.take (b.length:Int).toNat).drop (IntKind.i64.wrap ((at':Int)+(n:Int))).toNat=b.drop (at'+n):=by
       rw [hw2,Int.toNat_natCast,Int.toNat_natCast,List.take_length]
      refine cA (args':=[sl ((b.drop at').take n)]) (zqm (fun x=>[x]) (e1.trans (by rw [e3]))) (cP (c131 _ (by rw [zqr,List.length_drop];omega)) ?_)
      conv=>whnf
      rw [hs]
      exact ⟨rfl,(Upd.refl (X:=(·=c)) H).set (c:=c) (.inl rfl) _,⟨_,v+1,gS hc0,fun l hl=>by
       have hl:b.drop (at'+n)=l:=Option.some.inj hl
       rw [←hl]
       exact e2.trans (by rw [e4])⟩,fun y u hy=>by
       rw [hc0] at hy
       cases hy
       rw [curStep_yes hs,←e4,←e2];rfl⟩
   ·have ht:¬t=tag:=fun e=>h (show (t.toNat:Int)=(tag.toNat:Int) by rw [e])
    have hn:elemB tag (t::b)=none:=by
     show (if t=tag then _ else none)=none
     rw [zqo ht]
    conv=>whnf
    refine errs _ (elemC_bad hn) fun H' h1 h2 h3=>?_
    conv=>whnf
    rw [elemC_bad hn]
    exact ⟨rfl,h1,h2,h3⟩
theorem c171 (c:Nat) (tag:UInt8) (s:Option (List UInt8)) (H:PH) (hc:curAt H c s) (hl:∀l,s=some l→l.length≤140737488355328) :
  CK prog 171 [.ptr (some (c,0)),bC tag] H fun r H'=>∃d,r=.ptr (some (d,0))∧H.length≤d∧Upd (·=c) H H'∧curAt H' c (elemC tag s).1∧curAt H' d (elemC tag s).2:=by
 (refine fnS (imm:=imm171) ttC_ok func171 ?_;(conv=>whnf))
 refine cO (c173 c tag s H hc hl) ?_
 rintro _ H1 ⟨rfl,h1,h2,h3⟩
 revert h2
 generalize elemC tag s=q
 obtain ⟨s',o⟩:=q
 intro h2
 have h2:curAt H1 c s':=h2
 cases o with
 | none =>
  conv=>whnf
  exact ⟨H1.length,rfl,h1.1,h1.push _,h2.keep (X:=fun _=>False) ((Upd.refl H1).push _) (fun f=>f),_,0,gL _ _,fun l hl=>by cases hl⟩
 | some x =>
  conv=>whnf
  exact ⟨H1.length,rfl,h1.1,h1.push _,h2.keep (X:=fun _=>False) ((Upd.refl H1).push _) (fun f=>f),sl x,0,gL _ _,fun l hl=>by cases hl;rfl⟩
theorem c172 (c:Nat) (s:Option (List UInt8)) (H:PH) (hc:curAt H c s) (hl:∀l,s=some l→l.length≤140737488355328) :
  CK prog 172 [.ptr (some (c,0))] H fun r H'=>r=.str ((elemC 27 s).2.getD [])∧Upd (·=c) H H'∧curAt H' c (elemC 27 s).1:=by
 (refine fnS (imm:=imm172) ttC_ok func172 ?_;(conv=>whnf))
 refine cO (c173 c 27 s H hc hl) ?_
 rintro _ H1 ⟨rfl,h1,h2,h3⟩
 conv=>whnf
 refine ⟨_,⟨rfl,rfl⟩,?_⟩
 conv=>whnf
 exact ⟨rfl,h1,h2⟩
theorem c137 (c:Nat) (s:Option (List UInt8)) (H:PH) (hc:curAt H c s) (hl:∀l,s=some l→l.length≤140737488355328) :
  CK prog 137 [.ptr (some (c,0))] H fun r H'=>r=sl ((elemC 4 s).2.getD [])∧Upd (·=c) H H'∧curAt H' c (elemC 4 s).1∧∀y u,H[c]? = some ⟨265,[y,.bool s.isNone],u⟩→H'=H.set c (curStep 4 s u):=by
 (refine fnS (imm:=imm137) ttC_ok func137 ?_;(conv=>whnf))
 refine cO (c173 c 4 s H hc hl) ?_
 rintro _ H1 ⟨rfl,h1,h2,h3⟩
 conv=>whnf
 exact ⟨rfl,h1,h2,h3⟩
def numW (l:List UInt8):Int:=l.foldl (fun n x=>IntKind.i64.wrap (ishl .i64 n 8+IntKind.i64.wrap (x.toNat:Int))) 0
def intR (s':Option (List UInt8)):Option (List UInt8)→Option (List UInt8)×Int
 | none=>(s',0)
 | some b=>if isNumB b=true∧numW (b.take 8)≤4611686018427387904 then (s',numW (b.take 8)) else (none,0)
def intC (s:Option (List UInt8)):Option (List UInt8)×Int:=intR (elemC 2 s).1 (elemC 2 s).2
theorem intR_no {s':Option (List UInt8)} {b:List UInt8} (h:¬(isNumB b=true∧numW (b.take 8)≤4611686018427387904)):intR s' (some b)=(none,0):=zqo h
theorem intR_yes {s':Option (List UInt8)} {b:List UInt8} (h:isNumB b=true∧numW (b.take 8)≤4611686018427387904):intR s' (some b)=(s',numW (b.take 8)):=zqp h
structure NuS where
 k:Nat
theorem c135 (c:Nat) (s:Option (List UInt8)) (H:PH) (hc:curAt H c s) (hl:∀l,s=some l→l.length≤140737488355328) :
  CK prog 135 [.ptr (some (c,0))] H fun r H'=>r=.int .i64 (intC s).2∧Upd (·=c) H H'∧curAt H' c (intC s).1:=by
 (refine fnS (imm:=imm135) ttC_ok func135 ?_;(conv=>whnf))
 refine cO (c173 c 2 s H hc hl) ?_
 rintro _ H1 ⟨rfl,h1,h2,h3⟩
 unfold intC
 revert h2
 generalize elemC 2 s=q
 obtain ⟨s',o⟩:=q
 intro h2
 have h2:curAt H1 c s':=h2
 cases o with
 | none =>
  conv=>whnf
  exact ⟨rfl,h1,h2⟩
 | some b =>
  conv=>whnf
  have hcut:=sl_cut b 0 (min (b.length:Int) 8) ⟨by decide,by omega,by omega⟩
  have hL:(b.take (min (b.length:Int) 8).toNat).drop (0:Int).toNat=b.take 8:=by
   show (b.take (min (b.length:Int) 8).toNat).drop 0=_
   rw [List.drop_zero]
   by_cases h:b.length≤8
   ·rw [show (min (b.length:Int) 8).toNat=b.length by omega,List.take_length,List.take_of_length_le h]
   ·rw [show (min (b.length:Int) 8).toNat=8 by omega]
  rw [hL] at hcut
  have hm:(min (b.length:Int) 8).toNat - (0:Int).toNat=(b.take 8).length:=by rw [zqr];omega
  refine ⟨⟨by decide,by show (0:Int)≤min (b.length:Int) 8;omega,by show min (b.length:Int) 8≤(b.length:Int);omega⟩,?_⟩
  conv=>whnf
  refine lO NuS (fun x=>[(0,.ptr (some (c,0))),(3,slo b (some 5)),(19,sl (b.take 8)),(20,.int .i64 (b.take 8).length),(21,.int .i64 x.k),(5,.int .i64 (numW ((b.take 8).take x.k)))]) (fun _=>H1) (fun x=>x.k≤(b.take 8).length) (fun x=>(b.take 8).length - x.k)
   ⟨⟨0⟩,Nat.zero_le _,⟨rfl,rfl,hcut,zqm (fun n:Nat=>PV.int .i64 (n:Int)) hm,rfl,rfl,zqv⟩,rfl⟩ ?_
  rintro ⟨k⟩ hk
  have hk:k≤(b.take 8).length:=hk
  have h8:(b.take 8).length≤8:=by rw [zqr];omega
  conv=>whnf
  refine ⟨fun h=>?_,fun h=>?_⟩
  ·conv=>whnf
   have h:(k:Int)<((b.take 8).length:Int):=h
   have hi:k<(b.take 8).length:=by omega
   refine ⟨⟨by show (0:Int)≤(k:Int);omega,h⟩,[bC (b.take 8)[k]],at1 ?_,?_⟩
   ·show ((b.take 8).map bC)[(k:Int).toNat*1]? = _
    rw [Int.toNat_natCast,Nat.mul_one,List.getElem?_map,zqc hi];rfl
   conv=>whnf
   refine ⟨by decide,?_⟩
   conv=>whnf
   refine ⟨⟨k+1⟩,by show k+1≤_;omega,⟨rfl,rfl,rfl,rfl,?_,?_,zqv⟩,rfl,by show (b.take 8).length - (k+1)<(b.take 8).length - k;omega⟩
   ·show PV.int _ (IntKind.i64.wrap ((k:Int)+1))=PV.int _ ((k+1:Nat):Int)
    rw [w64 (by omega) (by omega)];rfl
   ·rw [List.take_succ_eq_append_getElem hi]
    unfold numW
    rw [List.foldl_append]
    rfl
  ·conv=>whnf
   have h:¬(k:Int)<((b.take 8).length:Int):=h
   rw [List.take_of_length_le (l:=b.take 8) (by omega)]
   refine cP (c174 b) ?_
   cases hn:isNumB b
   ·conv=>whnf
    refine cO (c175 c s' H1 h2) fun r H2 ⟨k1,k2,k3,_⟩=>?_
    subst k1
    conv=>whnf
    have hq:intR s' (some b)=(none,0):=intR_no (fun hh=>by rw [hn] at hh;cases hh.1)
    rw [show intR (s',some b).1 (s',some b).2=(none,0) from hq]
    exact ⟨rfl,h1.trans k2,k3⟩
   ·conv=>whnf
    refine ⟨fun h5=>?_,fun h5=>?_⟩
    ·conv=>whnf
     have h5:(4611686018427387904:Int)<numW (b.take 8):=h5
     refine cO (c175 c s' H1 h2) fun r H2 ⟨k1,k2,k3,_⟩=>?_
     subst k1
     conv=>whnf
     have hq:intR s' (some b)=(none,0):=intR_no (fun hh=>by omega)
     rw [show intR (s',some b).1 (s',some b).2=(none,0) from hq]
     exact ⟨rfl,h1.trans k2,k3⟩
    ·conv=>whnf
     have h5:¬(4611686018427387904:Int)<numW (b.take 8):=h5
     have hq:intR s' (some b)=(s',numW (b.take 8)):=intR_yes ⟨hn,by omega⟩
     rw [show intR (s',some b).1 (s',some b).2=(s',numW (b.take 8)) from hq]
     exact ⟨rfl,h1,h2⟩
theorem lenB_head (n:Nat) (hn:n≤65535) (r:List UInt8):headB (lenB n++r)=((lenB n).length,n,true):=by
 unfold lenB
 split
 ·rename_i h
  have e:(UInt8.ofNat n).toNat=n:=by rw [UInt8.toNat_ofNat'];omega
  match r with
  | []=>show headB [_]=_;rw [head_1,e,zqp h];rfl
  | [y]=>show headB [_,_]=_;rw [head_2,e,zqp h];rfl
  | y::z::t=>show headB (_::_::_::_)=_;rw [head_3,e,zqp h];rfl
 ·rename_i h
  split
  ·rename_i h2
   have e:(UInt8.ofNat n).toNat=n:=by rw [UInt8.toNat_ofNat'];omega
   match r with
   | []=>show headB [_,_]=_;rw [head_2,e,zqo (by decide),zqp ⟨by decide,by omega⟩];rfl
   | y::t=>show headB (_::_::_::_)=_;rw [head_3,e,zqo (by decide),zqp ⟨by decide,by omega⟩];rfl
  ·rename_i h2
   have e1:(UInt8.ofNat (n / 256)).toNat=n / 256:=by rw [UInt8.toNat_ofNat'];omega
   have e2:(UInt8.ofNat n).toNat=n % 256:=by rw [UInt8.toNat_ofNat']
   show headB (_::_::_::_)=_
   rw [head_3,e1,e2,zqo (by decide),zqo (fun hh=>absurd hh.1 (by decide)),zqp ⟨by decide,by omega⟩]
   show (3,n / 256*256+n % 256,true)=(3,n,true)
   rw [show n / 256*256+n % 256=n by omega]
theorem elem_wrap (tag:UInt8) (x rest:List UInt8) (hx:x.length≤65535):elemB tag (wrapB tag x++rest)=some (x,rest):=by
 have e:wrapB tag x++rest=tag::(lenB x.length++(x++rest)):=by unfold wrapB;simp
 rw [e]
 show (if tag=tag then (if (headB (lenB x.length++(x++rest))).2.2=true∧(headB (lenB x.length++(x++rest))).1+(headB (lenB x.length++(x++rest))).2.1≤(lenB x.length++(x++rest)).length then some (((lenB x.length++(x++rest)).drop (headB (lenB x.length++(x++rest))).1).take (headB (lenB x.length++(x++rest))).2.1,(lenB x.length++(x++rest)).drop ((headB (lenB x.length++(x++rest))).1+(headB (lenB x.length++(x++rest))).2.1)) else none) else none)=_
 rw [zqp rfl,lenB_head _ hx]
 rw [zqp ⟨rfl,by show (lenB x.length).length+x.length≤_;simp⟩]
 show some (((lenB x.length++(x++rest)).drop (lenB x.length).length).take x.length,(lenB x.length++(x++rest)).drop ((lenB x.length).length+x.length))=_
 rw [List.drop_left,List.take_left,←List.drop_drop,List.drop_left,List.drop_left]
theorem elemC_wrap (tag:UInt8) (x rest:List UInt8) (hx:x.length≤65535):elemC tag (some (wrapB tag x++rest))=(some rest,some x):=by
 show (match elemB tag (wrapB tag x++rest) with | none=>(none,none) | some (x,r)=>(some r,some x))=_
 rw [elem_wrap tag x rest hx]
theorem ishl8 (v:Int):ishl .i64 v 8=IntKind.i64.wrap (v*256):=by
 unfold ishl
 rw [show (2:Int) ^ (min (Int.toNat 8) IntKind.i64.bits)=256 from rfl]
def stepV (n:Nat) (x:UInt8):Nat:=n*256+x.toNat
def valB (l:List UInt8):Nat:=l.foldl stepV 0
theorem fold_pow:∀(l:List UInt8) (a:Nat),a*256 ^ l.length≤l.foldl stepV a
 | [],a=>by simp
 | x::l,a=>by
  have h:=fold_pow l (stepV a x)
  refine Nat.le_trans ?_ h
  unfold stepV
  rw [List.length_cons,Nat.pow_succ,Nat.mul_comm (256 ^ l.length) 256,←Nat.mul_assoc]
  exact Nat.mul_le_mul_right _ (Nat.le_add_right _ _)
theorem fold_ge (l:List UInt8) (a:Nat):a≤l.foldl stepV a :=
 Nat.le_trans (Nat.le_mul_of_pos_right _ (Nat.pow_pos (by decide))) (fold_pow l a)
theorem numW_fold:∀(l:List UInt8) (a:Nat),l.foldl stepV a<9223372036854775808→l.foldl (fun n x=>IntKind.i64.wrap (ishl .i64 n 8+IntKind.i64.wrap (x.toNat:Int))) (a:Int)=((l.foldl stepV a:Nat):Int)
 | [],a,_=>rfl
 | x::l,a,h=>by
  have h:l.foldl stepV (stepV a x)<9223372036854775808:=h
  have h1:=fold_ge l (stepV a x)
  have h2:stepV a x=a*256+x.toNat:=rfl
  have hx:=x.toNat_lt
  show l.foldl _ (IntKind.i64.wrap (ishl .i64 (a:Int) 8+IntKind.i64.wrap (x.toNat:Int)))=((l.foldl stepV (stepV a x):Nat):Int)
  rw [←numW_fold l (stepV a x) h]
  congr 1
  rw [ishl8,wrapB1,w64 (x:=(a:Int)*256) (by omega) (by omega),w64 (by omega) (by omega),h2]
  omega
theorem numW_val (l:List UInt8) (h:valB l<9223372036854775808):numW l=(valB l:Int):=numW_fold l 0 h
theorem le_val:∀(f n:Nat),n<256 ^ f→valB (le f n).reverse=n
 | 0,n,h=>by simp at h;subst h;rfl
 | f+1,n,h=>by
  unfold le
  split
  ·rename_i e;rw [e];rfl
  ·rw [List.reverse_cons]
   unfold valB
   rw [List.foldl_append]
   have ih:(le f (n / 256)).reverse.foldl stepV 0=n / 256:=le_val f (n / 256) (by rw [Nat.pow_succ] at h;omega)
   rw [ih]
   show n / 256*256+(UInt8.ofNat n).toNat=n
   rw [UInt8.toNat_ofNat'];omega
theorem le_top:∀(f n:Nat),n<256 ^ f→∀x t,(le f n).reverse=x::t→0<x.toNat
 | 0,n,_=>fun x t e=>by simp [le] at e
 | f+1,n,h=>fun x t e=>by
  have h':n / 256<256 ^ f:=by rw [Nat.pow_succ] at h;omega
  unfold le at e
  split at e
  ·cases e
  ·rename_i hn
   rw [List.reverse_cons] at e
   cases hd:(le f (n / 256)).reverse with
   | nil =>
    have hv:=le_val f (n / 256) h'
    rw [hd] at hv
    have hv:0=n / 256:=hv
    rw [hd] at e
    cases e
    rw [UInt8.toNat_ofNat'];omega
   | cons y u =>
    rw [hd] at e
    cases e
    exact le_top f (n / 256) h' _ _ hd
theorem le_nil (f n:Nat) (h:n<256 ^ f) (e:le f n=[]):n=0:=by
 have:=le_val f n h
 rw [e] at this
 exact this.symm
theorem intB_ok (n : Nat) (hn : n ≤ 4611686018427387904) : isNumB (intB n) = true ∧ valB (intB n) = n ∧ (intB n).length ≤ 8 := by
  have h9 : n < 256 ^ 9 := by omega
  have hv := le_val 9 n h9
  have ht := le_top 9 n h9
  unfold intB padB
  generalize hd : (le 9 n).reverse = b at hv ht
  have hl : le 9 n = b.reverse := by rw [← hd, List.reverse_reverse]
  rw [hl]
  cases b with
  | nil => exact ⟨by decide, by rw [← hv]; rfl, by decide⟩
  | cons x t =>
    have hx := ht x t rfl
    have hp : x.toNat * 256 ^ t.length ≤ n := by
      have h := fold_pow t (stepV 0 x)
      have e : t.foldl stepV (stepV 0 x) = n := hv
      rw [e] at h
      have e2 : stepV 0 x = x.toNat := by unfold stepV; omega
      rw [e2] at h; exact h
    have hg : ((x :: t).reverse.getLast?.getD 0) = x := by simp
    rw [hg]
    have p7 : 7 ≤ t.length → 256 ^ 7 ≤ 256 ^ t.length := fun h => Nat.pow_le_pow_right (by decide) h
    have p8 : 8 ≤ t.length → 256 ^ 8 ≤ 256 ^ t.length := fun h => Nat.pow_le_pow_right (by decide) h
    have k8 : t.length ≤ 7 := by
      refine Nat.le_of_not_lt fun h => ?_
      have := p8 h
      have : 256 ^ t.length ≤ x.toNat * 256 ^ t.length := Nat.le_mul_of_pos_left _ hx
      have e : (256 : Nat) ^ 8 = 18446744073709551616 := by decide
      omega
    by_cases hc : 128 ≤ x.toNat
    · rw [zqp (.inr hc)]
      have k7 : t.length ≤ 6 := by
        refine Nat.le_of_not_lt fun h => ?_
        have h1 := p7 h
        have : x.toNat * 256 ^ 7 ≤ x.toNat * 256 ^ t.length := Nat.mul_le_mul_left _ h1
        have e : (256 : Nat) ^ 7 = 72057594037927936 := by decide
        rw [e] at this
        omega
      rw [List.reverse_append, List.reverse_reverse]
      refine ⟨?_, ?_, ?_⟩
      · show (decide (t.length ≤ 6) && (decide ((0 : UInt8).toNat < 128) && (decide ((0 : UInt8).toNat ≠ 0) || decide (128 ≤ x.toNat)))) = true
        rw [zqe k7, zqe hc]; rfl
      · exact hv
      · show t.length + 1 + 1 ≤ 8
        omega
    · rw [zqo (fun hh => by rcases hh with hh | hh; · simp at hh
                            · exact hc hh)]
      rw [List.reverse_reverse]
      refine ⟨?_, hv, by show t.length + 1 ≤ 8; omega⟩
      cases t with
      | nil => exact zqe (by omega)
      | cons y u =>
        show (decide (u.length ≤ 6) && (decide (x.toNat < 128) && (decide (x.toNat ≠ 0) || decide (128 ≤ y.toNat)))) = true
        have : u.length + 1 ≤ 7 := k8
        rw [zqe (show u.length ≤ 6 by omega), zqe (show x.toNat < 128 by omega), zqe (show x.toNat ≠ 0 by omega)]; rfl
theorem intC_wrap (n:Int) (h0:0≤n) (h1:n≤4611686018427387904) (rest:List UInt8):intC (some (intE n++rest))=(some rest,n):=by
 have hc:clampI n=n.toNat:=by unfold clampI;omega
 obtain ⟨k1,k2,k3⟩:=intB_ok n.toNat (by omega)
 unfold intC intE
 rw [hc,elemC_wrap 2 _ rest (by omega)]
 have e8:(intB n.toNat).take 8=intB n.toNat:=List.take_of_length_le k3
 have hw:numW ((intB n.toNat).take 8)=n:=by rw [e8,numW_val _ (by omega),k2];omega
 show intR (some rest) (some (intB n.toNat))=_
 rw [intR_yes ⟨k1,by rw [hw];exact h1⟩,hw]
def princC (s:Option (List UInt8)):Option (List UInt8)×(List UInt8×List UInt8) :=
 ((elemC 48 s).1,((elemC 27 (elemC 48 s).2).2.getD [],(elemC 27 (elemC 27 (elemC 48 s).2).1).2.getD []))
theorem princC_wrap (r n rest:List UInt8) (hr:r.length≤1000) (hn:n.length≤1000):princC (some (princE r n++rest))=(some rest,(r,n)):=by
 have h1:=wrapB_len 27 r
 have h2:=wrapB_len 27 n
 unfold princC princE
 rw [elemC_wrap 48 _ rest (by simp only [zqk,zql,zqf,List.length_nil];omega)]
 show (some rest,((elemC 27 (some [wrapB 27 r,wrapB 27 n].flatten)).2.getD [],(elemC 27 (elemC 27 (some [wrapB 27 r,wrapB 27 n].flatten)).1).2.getD []))=_
 simp only [zqk,zql]
 rw [elemC_wrap 27 r _ (by omega)]
 show (some rest,(r,(elemC 27 (some (wrapB 27 n++[]))).2.getD []))=_
 rw [elemC_wrap 27 n _ (by omega)]
 rfl
theorem elemB_len {tag:UInt8} {l x r:List UInt8} (h:elemB tag l=some (x,r)):x.length≤l.length∧r.length≤l.length∧x.length≤65535:=by
 cases l with
 | nil=>cases h
 | cons t b =>
  have h:(if t=tag then (if (headB b).2.2=true∧(headB b).1+(headB b).2.1≤b.length then some ((b.drop (headB b).1).take (headB b).2.1,b.drop ((headB b).1+(headB b).2.1)) else none) else none)=some (x,r):=h
  split at h
  ·split at h
   ·rename_i h1 h2
    have:=head_le b h2.1
    cases h
    simp only [zqr,List.length_drop,List.length_cons]
    omega
   ·cases h
  ·cases h
theorem elemC_len {tag:UInt8} {s:Option (List UInt8)} {B:Nat} (h:∀l,s=some l→l.length≤B):(∀l,(elemC tag s).1=some l→l.length≤B)∧(∀l,(elemC tag s).2=some l→l.length≤B∧l.length≤65535):=by
 cases s with
 | none=>exact ⟨(fun l h=>by cases h),(fun l h=>by cases h)⟩
 | some l =>
  have hb:=h l rfl
  have e:elemC tag (some l)=(match elemB tag l with | none=>(none,none) | some (x,r)=>(some r,some x)):=rfl
  rw [e]
  cases he:elemB tag l with
  | none=>exact ⟨(fun l h=>by cases h),(fun l h=>by cases h)⟩
  | some p =>
   obtain ⟨x,r⟩:=p
   have hl:=elemB_len he
   exact ⟨(fun l h=>by cases h;omega),(fun l h=>by cases h;omega)⟩
theorem intC_len {s:Option (List UInt8)} {B:Nat} (h:∀l,s=some l→l.length≤B):∀l,(intC s).1=some l→l.length≤B:=by
 have hl:=(elemC_len (tag:=2) h).1
 unfold intC
 revert hl
 generalize elemC 2 s=q
 obtain ⟨s',o⟩:=q
 intro hl l
 cases o with
 | none=>exact hl l
 | some b =>
  show (if isNumB b=true∧numW (b.take 8)≤4611686018427387904 then (s',numW (b.take 8)) else (none,0)).1=some l→_
  split
  ·exact hl l
  ·intro e;cases e
def keyC (k:Nat→UInt8):List PV:=[bC (k 0),bC (k 1),bC (k 2),bC (k 3),bC (k 4),bC (k 5),bC (k 6),bC (k 7),bC (k 8),bC (k 9),bC (k 10),bC (k 11),bC (k 12),bC (k 13),bC (k 14),bC (k 15),bC (k 16),bC (k 17),bC (k 18),bC (k 19),bC (k 20),bC (k 21),bC (k 22),bC (k 23),bC (k 24),bC (k 25),bC (k 26),bC (k 27),bC (k 28),bC (k 29),bC (k 30),bC (k 31)]
def keyB (k:Nat→UInt8):List UInt8:=[k 0,k 1,k 2,k 3,k 4,k 5,k 6,k 7,k 8,k 9,k 10,k 11,k 12,k 13,k 14,k 15,k 16,k 17,k 18,k 19,k 20,k 21,k 22,k 23,k 24,k 25,k 26,k 27,k 28,k 29,k 30,k 31]
theorem keyB_len (k:Nat→UInt8):(keyB k).length=32:=rfl
def octC (s:Option (List UInt8)):Option (List UInt8)×List UInt8:=((elemC 4 s).1,(elemC 4 s).2.getD [])
def txtC (s:Option (List UInt8)):Option (List UInt8)×List UInt8:=((elemC 27 s).1,(elemC 27 s).2.getD [])
theorem octC_wrap (x rest:List UInt8) (hx:x.length≤65535):octC (some (wrapB 4 x++rest))=(some rest,x):=by
 unfold octC;rw [elemC_wrap 4 x rest hx];rfl
theorem txtC_wrap (x rest:List UInt8) (hx:x.length≤65535):txtC (some (wrapB 27 x++rest))=(some rest,x):=by
 unfold txtC;rw [elemC_wrap 27 x rest hx];rfl
end Go.Proofs.Tryz
/- PSem, part 34: as part 25, where what the kit asks speaks of the objects too. -/
namespace Ps
open Go Go.RowKit
section
variable {P : Program}
end
end Ps
/- PSem, part 35: what is known of a call in a world of which nothing is named holds in every world. -/
namespace Ps
open Go Go.RowKit
section
variable {P : Program}
end
end Ps
/- PSem, part 36: what is known of a call in a world of which nothing is named holds in every world: answers and arguments that name no object. -/
namespace Ps
open Go Go.RowKit
section
variable {P : Program}
end
end Ps
/- PSem, part 27: a law over arguments of a bound. -/
namespace Ps
open Go Go.RowKit
section
variable {P : Program}
section
variable {H : Type} {enc : TypeId × Value → H}
end
end
end Ps
/- A call's new row becomes a value of its own. -/
namespace Ps
open Go
section
variable {P : Program}
end
end Ps
/- A call's own row becomes an object. -/
namespace Ps
open Go
section
variable {P : Program}
end
end Ps
/- An argument that is nil is a row of nothing. -/
namespace Ps
open Go
end Ps
/- What a call made is forgotten; what it wrote stays. -/
namespace Ps
open Go
section
variable {P : Program}
end
end Ps
/- PSem, part 37: a walk of the kit's kind over PSem's invariant; maps that are ranged over, and what is deleted from them. -/
namespace Ps
open Go Go.ChangeMaps
section
variable {P : Program} {tt : TT} {imm : List Nat} {g0 : Gh} {w0 : World} {H0 : PH} {F0 : Nat → Prop} {N : Nat} {g : Gh} {w : World} {a : Act} {E : Env} {H : PH}
/-! ### a map's entries, paired -/
end
end Ps
namespace Go.Proofs.Tryz
open Go Ps Go.ChangeMaps
structure Crd where
 r:List UInt8
 n:List UInt8
 kv:Int
 b:List UInt8
 k:Nat→UInt8
 en:Int
def Crd.cells (c:Crd):List PV:=[.str c.r,.str c.n]++[.int .i64 c.kv,.slice c.b.length (c.b.map bC) none]++keyC c.k++[.int .i64 c.en]
def z83c:PObj:=⟨83,[.str [],.str [],.int .i64 0,.slice 0 [] (some 5)]++List.replicate 32 (.int .u8 0)++[.int .i64 0],0⟩
open Go Ps
structure S4 where
 a:Int
 b:Int
 c:Int
 d:Int
def xorW (x y:Int):Int:=ibits .xor .u64 x y
def S4.out (s:S4):Int:=xorW (xorW (xorW s.a s.b) s.c) s.d
def ttR:TT:=[(3,⟨.int .i64,1,8,[.int .i64 0]⟩),(4,⟨.bool,1,1,[.bool false]⟩),(5,⟨.int .u8,1,1,[.int .u8 0]⟩),(9,⟨.str,1,16,[.str []]⟩),(36,⟨.strct [(9,0),(9,1)],2,32,[.str [],.str []]⟩),(100,⟨.ptr,1,8,[.ptr none]⟩),(26,⟨.int .i64,1,8,[.int .i64 0]⟩),(31,⟨.arr 32 5,32,32,List.replicate 32 (.int .u8 0)⟩),(106,⟨.ptr,1,8,[.ptr none]⟩),(63,⟨.strct [(3,0),(51,1),(55,7),(57,16),(59,23),(61,28)],30,448,[.int .i64 0,.str [],.str [],.str [],.str [],.int .i64 0,.int .i64 0,.str [],.str [],.int .i64 0,.slice 0 [] (some 5),.slice 0 [] (some 5),.str [],.str [],.int .i64 0,.int .i64 0,.str [],.str [],.str [],.str [],.int .i64 0,.slice 0 [] (some 5),.slice 0 [] (some 5),.str [],.str [],.int .i64 0,.slice 0 [] (some 5),.slice 0 [] (some 5),.int .i64 0,.int .i64 0]⟩),(152,⟨.fn,1,8,[.nilF]⟩),(154,⟨.ptr,1,8,[.ptr none]⟩),(155,⟨.strct [(36,0),(83,2)],39,136,[.str [],.str [],.str [],.str [],.int .i64 0,.slice 0 [] (some 5)]++List.replicate 32 (.int .u8 0)++[.int .i64 0]⟩),(159,⟨.strct [(158,0)],1,8,[.undef]⟩),(212,⟨.fn,1,8,[.nilF]⟩),(197,⟨.ptr,1,8,[.ptr none]⟩),(179,⟨.arr 16 5,16,16,List.replicate 16 (.int .u8 0)⟩),(200,⟨.strct [(197,0),(179,1),(105,17),(105,18),(105,19)],20,48,[.ptr none]++List.replicate 16 (.int .u8 0)++[.int .i64 0,.int .i64 0,.int .i64 0]⟩),(184,⟨.int .u32,1,4,[.int .u32 0]⟩),(185,⟨.arr 27 184,27,108,List.replicate 27 (.int .u32 0)⟩),(243,⟨.strct [(179,0),(241,16),(185,19),(235,46)],47,140,List.replicate 16 (.int .u8 0)++[.int .u32 0,.int .i32 0]++List.replicate 29 (.int .u32 0)⟩)]
theorem ttR_ok:ttOk prog ttR=true:=by kernel_rfl
def imm115:List Nat:=[1]
def imm70:List Nat:=[1]
def speckO (k:List UInt8):PObj:=⟨243,k.map bC++([.int .u32 0,.int .i32 0]++List.replicate 29 (.int .u32 0)),0⟩
theorem c115 (k:List UInt8) (hk:k.length=16) (H:PH):CK prog 115 [.agg (k.map bC)] H fun r H'=>r=.ptr (some (H.length,0))∧H'=H++[speckO k]:=by
 match k,hk with
 | [a0,a1,a2,a3,a4,a5,a6,a7,a8,a9,a10,a11,a12,a13,a14,a15],_ =>
  (refine fnS (imm:=imm115) ttR_ok func115 ?_;(conv=>whnf))
  exact ⟨rfl,rfl⟩
def boxO (k:List UInt8) (n:Nat):PObj:=⟨200,[.ptr (some (n,0))]++(k.drop 16).map bC++[.int .i64 0,.int .i64 0,.int .i64 0],0⟩
def D70:Draw:={ imp:=[3,8],win:=[(4,0,1),(5,0,1),(6,0,1),(7,1,1),(8,1,1),(9,2,2)] }
theorem c70 (k:List UInt8) (hk:k.length=32) (H:PH):CK prog 70 [.agg (k.map bC)] H fun r H'=>r=.ptr (some (H.length+1,0))∧H'=H++[speckO (k.take 16),boxO k H.length]:=by
 match k,hk with
 | [a0,a1,a2,a3,a4,a5,a6,a7,a8,a9,a10,a11,a12,a13,a14,a15,b0,b1,b2,b3,b4,b5,b6,b7,b8,b9,b10,b11,b12,b13,b14,b15],_ =>
  (refine fnS (imm:=imm70) ttR_ok func70 ?_;(conv=>whnf))
  refine dO2 D70 [H,H++[speckO [a0,a1,a2,a3,a4,a5,a6,a7,a8,a9,a10,a11,a12,a13,a14,a15]],H++[speckO [a0,a1,a2,a3,a4,a5,a6,a7,a8,a9,a10,a11,a12,a13,a14,a15],boxO [a0,a1,a2,a3,a4,a5,a6,a7,a8,a9,a10,a11,a12,a13,a14,a15,b0,b1,b2,b3,b4,b5,b6,b7,b8,b9,b10,b11,b12,b13,b14,b15] H.length]] (by kernel_rfl) rfl trivial ?_
  conv=>whnf
  iterate 3 (refine dS ?_;(conv=>whnf))
  apply exA
  ·conv=>whnf
   refine cO (c115 [a0,a1,a2,a3,a4,a5,a6,a7,a8,a9,a10,a11,a12,a13,a14,a15] rfl H) ?_
   rintro r H' ⟨rfl,rfl⟩
   conv=>whnf
   exact ⟨rfl,rfl,zqv⟩
  conv=>whnf
  iterate 3 (refine dS2 ?_;(conv=>whnf))
  (refine dS ?_;(conv=>whnf))
  apply exA
  ·conv=>whnf
   refine ⟨rfl,?_,zqv⟩
   exact List.append_assoc _ _ _
  conv=>whnf
  (refine dS ?_;(conv=>whnf))
  refine ⟨?_,rfl⟩
  show PV.ptr (some ((H++[_]).length,0))=_
  rw [zqf];rfl
def ttS:TT:=[(2,⟨.int .i64,1,8,[.int .i64 0]⟩),(3,⟨.int .i64,1,8,[.int .i64 0]⟩),(4,⟨.bool,1,1,[.bool false]⟩),(5,⟨.int .u8,1,1,[.int .u8 0]⟩),(25,⟨.slice 5,1,24,[.slice 0 [] (some 5)]⟩),(106,⟨.ptr,1,8,[.ptr none]⟩),(197,⟨.ptr,1,8,[.ptr none]⟩),(179,⟨.arr 16 5,16,16,List.replicate 16 (.int .u8 0)⟩),(105,⟨.strB [(102,0),(103,0),(2,0)],1,8,[.int .i64 0]⟩),(200,⟨.strct [(197,0),(179,1),(105,17),(105,18),(105,19)],20,48,[.ptr none]++List.replicate 16 (.int .u8 0)++[.int .i64 0,.int .i64 0,.int .i64 0]⟩),(134,⟨.int .u64,1,8,[.int .u64 0]⟩),(192,⟨.slice 25,1,24,[.slice 0 [] (some 25)]⟩),(203,⟨.ptr,1,8,[.ptr none]⟩),(184,⟨.int .u32,1,4,[.int .u32 0]⟩),(230,⟨.slice 184,1,24,[.slice 0 [] (some 184)]⟩)]
theorem ttS_ok:ttOk prog ttS=true:=by kernel_rfl
def imm71:List Nat:=[]
theorem c116 {H:PH} {id off:Nat} {o:PObj} {n:Int} (m:Int) (ho:H[id]? = some o) (hc:o.cs[off]? = some (.int .i64 n)) :
  CK prog 116 [.ptr (some (id,off)),.int .i64 m] H fun r H'=>r=.int .i64 (IntKind.i64.wrap (n+m))∧H'=H.set id ⟨o.T,setCells off [.int .i64 (IntKind.i64.wrap (n+m))] o.cs,o.ver+1⟩ :=
 callOk_add func116 (by kernel_rfl) (by kernel_rfl) (by kernel_rfl) .i64 (by kernel_rfl) m ho hc
theorem c71 {H:PH} {id off:Nat} {o:PObj} {n:Int} (m:Int) (ho:H[id]? = some o) (hc:o.cs[off]? = some (.int .i64 n)) :
  CK prog 71 [.ptr (some (id,off)),.int .i64 m] H fun r H'=>r=.int .i64 (IntKind.i64.wrap (n+m))∧H'=H.set id ⟨o.T,setCells off [.int .i64 (IntKind.i64.wrap (n+m))] o.cs,o.ver+1⟩:=by
 (refine fnS (imm:=imm71) ttS_ok func71 ?_;(conv=>whnf))
 refine cO (c116 m ho hc) ?_
 rintro _ _ ⟨rfl,rfl⟩
 conv=>whnf
 exact ⟨rfl,rfl⟩
def ow (b:List UInt8):PV:=.slice b.length (b.map bC) (some 5)
def boxS (sid:Nat) (sp:List UInt8) (s o r:Int) (v:Nat):PObj:=⟨200,[.ptr (some (sid,0))]++sp.map bC++[.int .i64 s,.int .i64 o,.int .i64 r],v⟩
set_option maxHeartbeats 2000000
def rot32S (k:Int):Int:=ibits .and .u64 (IntKind.u64.wrap k) 31
def rot32 (x k:Int):Int:=ibits .or .u32 (ishl .u32 x (rot32S k)) (ishr .u32 x (IntKind.u64.wrap (32 - rot32S k)))
def add32 (x y:Int):Int:=IntKind.u32.wrap (x+y)
def xor32 (x y:Int):Int:=ibits .xor .u32 x y
def orB (x:Int) (c:UInt8) (s:Int):Int:=ibits .or .u32 x (ishl .u32 (IntKind.u32.wrap (c.toNat:Int)) s)
def wN (k:List UInt8):Nat→S4
 | 0=>⟨0,0,0,0⟩
 | i+1=>match i / 4 with
  | 0=>{ wN k i with a:=orB (wN k i).a (k.getD i 0) (8*((i % 4:Nat):Int)) }
  | 1=>{ wN k i with b:=orB (wN k i).b (k.getD i 0) (8*((i % 4:Nat):Int)) }
  | 2=>{ wN k i with c:=orB (wN k i).c (k.getD i 0) (8*((i % 4:Nat):Int)) }
  | _=>{ wN k i with d:=orB (wN k i).d (k.getD i 0) (8*((i % 4:Nat):Int)) }
def spN (k:List UInt8):Nat→S4
 | 0=>wN k 16
 | i+1=>⟨xor32 (rot32 (spN k i).a 3) (xor32 (add32 (spN k i).a (rot32 (spN k i).b (-8))) (IntKind.u32.wrap (i:Int))),(spN k i).c,(spN k i).d,xor32 (add32 (spN k i).a (rot32 (spN k i).b (-8))) (IntKind.u32.wrap (i:Int))⟩
def u32C (x:Int):PV:=.int .u32 x
def keyO (k:List UInt8) (d m s:Int) (l:List Int) (md:Int) (v:Nat):PObj:=⟨243,(k.map bC++[.int .u32 d,.int .i32 m,.int .u32 s])++l.map u32C++[.int .u32 md],v⟩
def spW (k:List UInt8):List Int:=(List.range 27).map fun j=>(spN k j).a
set_option maxHeartbeats 1000000
def KeySt (k:List UInt8) (o:PObj):Prop:=(∃v,o=keyO k 0 0 0 (List.replicate 27 0) 0 v)∨(∃v,o=keyO k 1 0 0 (spW k) 1 v)
set_option maxHeartbeats 1600000
open Go
end Go.Proofs.Tryz
/- Calls that were deferred; and a walk of the kit's over what the calculus knows. -/
namespace Ps
open Go
section
variable {P : Program} {tt : TT} {imm : List Nat}
end
section
variable {P : Program}
end
end Ps
set_option maxHeartbeats 3000000
namespace Go.Proofs.Tryz
open Go Ps
set_option maxHeartbeats 1000000
set_option maxHeartbeats 2000000
set_option maxHeartbeats 4000000
set_option maxHeartbeats 2000000
set_option maxHeartbeats 1000000
/-! How the heap goes on while boxes seal and open. -/
def keyT:Nat:=(keyO [] 0 0 0 [] 0 0).T
def boxT:Nat:=(boxS 0 [] 0 0 0 0).T
theorem KeySt.T {k:List UInt8} {o:PObj} (h:KeySt k o):o.T=keyT:=by rcases h with ⟨v,rfl⟩ | ⟨v,rfl⟩ <;> rfl
def BoxAt (H:PH) (bid:Nat) (key:List UInt8):Prop:=key.length=32∧∃sid s o r v so,H[bid]? = some (boxS sid (key.drop 16) s o r v)∧H[sid]? = some so∧KeySt (key.take 16) so
structure Evo (S:Nat→Prop) (H H':PH):Prop where
 len:H.length≤H'.length
 box:∀bid key,BoxAt H bid key→BoxAt H' bid key
 same:∀(id:Nat) (o:PObj),H[id]? = some o→¬S id→o.T≠keyT→o.T≠boxT→H'[id]? = some o
theorem Evo.trans {S:Nat→Prop} {H H1 H2:PH} (h:Evo S H H1) (k:Evo S H1 H2):Evo S H H2 :=
 ⟨Nat.le_trans h.len k.len,fun b key hb=>k.box b key (h.box b key hb),fun id o ho hs h1 h2=>k.same id o (h.same id o ho hs h1 h2) hs h1 h2⟩
theorem Evo.mono {S S':Nat→Prop} {H H':PH} (h:Evo S H H') (hs:∀id,S id→S' id):Evo S' H H':=⟨h.len,h.box,fun id o ho hn=>h.same id o ho fun hh=>hn (hs id hh)⟩
theorem Evo.app {S:Nat→Prop} (H l:PH):Evo S H (H++l) :=
 have g:∀(id:Nat) (o:PObj),H[id]? = some o→(H++l)[id]? = some o:=fun id o h=>by rw [zq2 (zq1.1 h).1];exact h
 ⟨by simp,fun b key ⟨hk,sid,s,o,r,v,so,h1,h2,h3⟩=>⟨hk,sid,s,o,r,v,so,g _ _ h1,g _ _ h2,h3⟩,fun id o h _ _ _=>g id o h⟩
theorem Evo.setOther {S:Nat→Prop} {H:PH} {id:Nat} {o o':PObj} (h:H[id]? = some o) (hs:S id) (h1:o.T≠keyT) (h2:o.T≠boxT):Evo S H (H.set id o'):=by
 refine ⟨by simp,fun b key ⟨hkl,sid2,s2,o2,r2,v2,so2,g1,g2,g3⟩=>?_,fun id2 x hx hn _ _=>?_⟩
 ·have e1:id≠b:=fun e=>by
   subst e
   rw [h] at g1;cases g1
   exact h2 rfl
  have e2:id≠sid2:=fun e=>by
   subst e
   rw [h] at g2;cases g2
   exact h1 g3.T
  exact ⟨hkl,sid2,s2,o2,r2,v2,so2,by rw [zqj e1];exact g1,by rw [zqj e2];exact g2,g3⟩
 ·have e:id≠id2:=fun e=>hn (e▸hs)
  rw [zqj e];exact hx
/-! What is sealed, and opened. -/
theorem speck_key (k:List UInt8):KeySt k (speckO k):=by
 refine .inl ⟨0,?_⟩
 show PObj.mk _ (k.map bC++([.int .u32 0,.int .i32 0]++List.replicate 29 (.int .u32 0))) 0=PObj.mk _ ((k.map bC++[.int .u32 0,.int .i32 0,.int .u32 0])++(List.replicate 27 (0:Int)).map u32C++[.int .u32 0]) 0
 rw [List.append_assoc,List.append_assoc]
 rfl
end Go.Proofs.Tryz
/- PSem, part 33: counts of writes are ours to name. -/
namespace Ps
open Go
end Ps
namespace Go.Proofs.Tryz
open Go Ps
structure Tk where
 r:List UInt8
 n:List UInt8
 kv:Int
 b:List UInt8
def tickD (s:Option (List UInt8)):Tk:=⟨(princC s).2.1,(princC s).2.2,(intC (princC s).1).2,(octC (intC (princC s).1).1).2⟩
def tickC (s:Option (List UInt8)):Option (List UInt8)×Tk:=((elemC 97 s).1,tickD (elemC 97 s).2)
theorem tickC_wrap (r n:List UInt8) (kv:Int) (b rest:List UInt8) (hr:r.length≤1000) (hn:n.length≤1000) (h0:0≤kv) (h1:kv≤4611686018427387904) (hb:b.length≤10000) :
  tickC (some (ticketE r n kv b++rest))=(some rest,⟨r,n,kv,b⟩):=by
 have k1:=princE_len r n
 have k2:=intE_len kv
 have k3:=wrapB_len 4 b
 unfold tickC ticketE
 rw [elemC_wrap 97 _ rest (by simp only [zqk,zql,zqf,List.length_nil];omega)]
 show (some rest,tickD (some [princE r n,intE kv,wrapB 4 b].flatten))=_
 simp only [zqk,zql]
 unfold tickD
 rw [princC_wrap r n _ hr hn]
 show (some rest,Tk.mk r n (intC (some (intE kv++(wrapB 4 b++[])))).2 (octC (intC (some (intE kv++(wrapB 4 b++[])))).1).2)=_
 rw [intC_wrap kv h0 h1]
 show (some rest,Tk.mk r n kv (octC (some (wrapB 4 b++[]))).2)=_
 rw [octC_wrap b [] (by omega)]
def mZ:Msg:=⟨0,[],[],[],[],0,0,[],[],0,[],some 5,[],some 5,[],[],0,0,[],[],[],[],0,[],some 5,[],some 5,[],[],0,[],some 5,[],some 5,0,0⟩
def tkAs (s:Option (List UInt8)):Msg:={ mZ with kind:=1,a1:=(princC s).2.1,a2:=(princC s).2.2,a3:=(princC (princC s).1).2.1,a4:=(princC (princC s).1).2.2,aTill:=(intC (princC (princC s).1).1).2,aNonce:=(intC (intC (princC (princC s).1).1).1).2 }
def tkTgs (s:Option (List UInt8)):Msg:={ mZ with kind:=2,t1:=(tickC s).2.r,t2:=(tickC s).2.n,tKv:=(tickC s).2.kv,tB:=(tickC s).2.b,tBo:=none,tAu:=(octC (tickC s).1).2,tAuo:=none,t3:=(princC (octC (tickC s).1).1).2.1,t4:=(princC (octC (tickC s).1).1).2.2,tTill:=(intC (princC (octC (tickC s).1).1).1).2,tNonce:=(intC (intC (princC (octC (tickC s).1).1).1).1).2 }
def tkRep (s:Option (List UInt8)):Msg:={ mZ with kind:=3,r1:=(princC s).2.1,r2:=(princC s).2.2,r3:=(tickC (princC s).1).2.r,r4:=(tickC (princC s).1).2.n,rKv:=(tickC (princC s).1).2.kv,rB:=(tickC (princC s).1).2.b,rBo:=none,rBl:=(octC (tickC (princC s).1).1).2,rBlo:=none }
def tkAp (s:Option (List UInt8)):Msg:={ mZ with kind:=4,p1:=(tickC s).2.r,p2:=(tickC s).2.n,pKv:=(tickC s).2.kv,pB:=(tickC s).2.b,pBo:=none,pAu:=(octC (tickC s).1).2,pAuo:=none }
def tkFail (s:Option (List UInt8)):Msg:={ mZ with kind:=5,fErr:=(intC s).2,fNonce:=(intC (intC s).1).2 }
def takenT (t:UInt8) (s:Option (List UInt8)):Msg :=
 if t.toNat=106 then tkAs s else if t.toNat=108 then tkTgs s else if t.toNat=107 then tkRep s else if t.toNat=110 then tkAp s else if t.toNat=126 then tkFail s else mZ
def takenB:List UInt8→Msg
 | []=>mZ
 | t::r=>takenT t (elemC t (some (t::r))).2
theorem taken_wrap (t:UInt8) (x:List UInt8) (hx:x.length≤65535):takenB (wrapB t x)=takenT t (some x):=by
 have e:=elemC_wrap t x [] hx
 rw [List.append_nil] at e
 show takenT t (elemC t (some (wrapB t x))).2=_
 rw [e]
theorem noAs_z {m:Msg} (h:noAs m=true):m.a1=[]∧m.a2=[]∧m.a3=[]∧m.a4=[]∧m.aTill=0∧m.aNonce=0:=of_decide_eq_true h
theorem noTgs_z {m:Msg} (h:noTgs m=true):m.t1=[]∧m.t2=[]∧m.tKv=0∧m.tB=[]∧m.tAu=[]∧m.t3=[]∧m.t4=[]∧m.tTill=0∧m.tNonce=0:=by
 unfold noTgs noTk at h
 simp only [zqb,decide_eq_true_eq,List.length_eq_zero_iff] at h
 obtain ⟨⟨⟨⟨⟨⟨⟨h1,h2⟩,h3⟩,h4⟩,h5⟩,h6,h7⟩,h8⟩,h9⟩:=h
 exact ⟨h1,h2,h3,h4,h5,h6,h7,h8,h9⟩
theorem noRep_z {m:Msg} (h:noRep m=true):m.r1=[]∧m.r2=[]∧m.r3=[]∧m.r4=[]∧m.rKv=0∧m.rB=[]∧m.rBl=[]:=by
 unfold noRep noTk at h
 simp only [zqb,decide_eq_true_eq,List.length_eq_zero_iff] at h
 obtain ⟨⟨⟨h1,h2⟩,⟨⟨h3,h4⟩,h5⟩,h6⟩,h7⟩:=h
 exact ⟨h1,h2,h3,h4,h5,h6,h7⟩
theorem noAp_z {m:Msg} (h:noAp m=true):m.p1=[]∧m.p2=[]∧m.pKv=0∧m.pB=[]∧m.pAu=[]:=by
 unfold noAp noTk at h
 simp only [zqb,decide_eq_true_eq,List.length_eq_zero_iff] at h
 obtain ⟨⟨⟨⟨h1,h2⟩,h3⟩,h4⟩,h5⟩:=h
 exact ⟨h1,h2,h3,h4,h5⟩
theorem noFail_z {m:Msg} (h:noFail m=true):m.fErr=0∧m.fNonce=0:=of_decide_eq_true h
theorem others_z {m:Msg} (h:othersB m=true):(m.kind≠1→noAs m=true)∧(m.kind≠2→noTgs m=true)∧(m.kind≠3→noRep m=true)∧(m.kind≠4→noAp m=true)∧(m.kind≠5→noFail m=true):=by
 unfold othersB at h
 simp only [zqb,Bool.or_eq_true,decide_eq_true_eq] at h
 obtain ⟨⟨⟨⟨h1,h2⟩,h3⟩,h4⟩,h5⟩:=h
 exact ⟨fun h=>h1.resolve_left h,fun h=>h2.resolve_left h,fun h=>h3.resolve_left h,fun h=>h4.resolve_left h,fun h=>h5.resolve_left h⟩
theorem isB_kind {m:Msg} (h:isB m=true):othersB m=true:=by
 unfold isB at h
 rw [zqb] at h
 exact h.2
theorem tick_kv {r n:List UInt8} {kv:Int} {k:Nat} (h:tickB r n kv k=true):1≤kv∧kv≤255:=by
 unfold tickB at h
 rw [zqb,zqb] at h
 exact inZ_le h.1.2
theorem taken_laid (m:Msg) (h:isB m=true):(takenB (laidB m)).d=m.d:=by
 obtain ⟨o1,o2,o3,o4,o5⟩:=others_z (isB_kind h)
 have hm:=(zqb _ _▸h:_∧_).1
 by_cases h1:m.kind=1
 ·skip
  rw [zqp h1] at hm
  simp only [zqb] at hm
  have g1:=princ_len hm.1.1.1
  have g2:=princ_len hm.1.1.2
  have g3:=inZ_le hm.1.2
  have g4:=inZ_le hm.2
  have e0:=princE_len m.a1 m.a2
  have e1:=princE_len m.a3 m.a4
  have e2:=intE_len m.aTill
  have e3:=intE_len m.aNonce
  have hl:laidB m=wrapB 106 [princE m.a1 m.a2,princE m.a3 m.a4,intE m.aTill,intE m.aNonce].flatten:=by unfold laidB;rw [zqp h1]
  rw [hl,taken_wrap _ _ (by simp only [zqk,zql,zqf,List.length_nil];omega)]
  show (tkAs (some [princE m.a1 m.a2,princE m.a3 m.a4,intE m.aTill,intE m.aNonce].flatten)).d=_
  simp only [zqk,zql]
  unfold tkAs
  have w0:=princC_wrap m.a1 m.a2 (princE m.a3 m.a4++(intE m.aTill++(intE m.aNonce++[]))) (by omega) (by omega)
  have w1:=princC_wrap m.a3 m.a4 (intE m.aTill++(intE m.aNonce++[])) (by omega) (by omega)
  have w2:=intC_wrap m.aTill (by omega) (by omega) (intE m.aNonce++[])
  have w3:=intC_wrap m.aNonce (by omega) (by omega) []
  simp only [w0,w1,w2,w3]
  have z2:=noTgs_z (o2 (by omega))
  have z3:=noRep_z (o3 (by omega))
  have z4:=noAp_z (o4 (by omega))
  have z5:=noFail_z (o5 (by omega))
  clear o1 o2 o3 o4 o5 hl hm h w0
  obtain ⟨kind,a1,a2,a3,a4,aTill,aNonce,t1,t2,tKv,tB,tBo,tAu,tAuo,t3,t4,tTill,tNonce,r1,r2,r3,r4,rKv,rB,rBo,rBl,rBlo,p1,p2,pKv,pB,pBo,pAu,pAuo,fErr,fNonce⟩:=m
  obtain ⟨y2_0,y2_1,y2_2,y2_3,y2_4,y2_5,y2_6,y2_7,y2_8⟩:=z2
  obtain ⟨y3_0,y3_1,y3_2,y3_3,y3_4,y3_5,y3_6⟩:=z3
  obtain ⟨y4_0,y4_1,y4_2,y4_3,y4_4⟩:=z4
  obtain ⟨y5_0,y5_1⟩:=z5
  simp only at *
  subst h1 y2_0 y2_1 y2_2 y2_3 y2_4 y2_5 y2_6 y2_7 y2_8 y3_0 y3_1 y3_2 y3_3 y3_4 y3_5 y3_6 y4_0 y4_1 y4_2 y4_3 y4_4 y5_0 y5_1
  rfl
 by_cases h2:m.kind=2
 ·skip
  rw [zqo h1] at hm
  rw [zqp h2] at hm
  simp only [zqb] at hm
  have g1:=tick_len hm.1.1.1.1
  have gk:=tick_kv hm.1.1.1.1
  have g2:=inZ_le hm.1.1.1.2
  have g3:=princ_len hm.1.1.2
  have g4:=inZ_le hm.1.2
  have g5:=inZ_le hm.2
  have e0:=ticketE_len m.t1 m.t2 m.tKv m.tB
  have e1:=wrapB_len 4 m.tAu
  have e2:=princE_len m.t3 m.t4
  have e3:=intE_len m.tTill
  have e4:=intE_len m.tNonce
  have hl:laidB m=wrapB 108 [ticketE m.t1 m.t2 m.tKv m.tB,wrapB 4 m.tAu,princE m.t3 m.t4,intE m.tTill,intE m.tNonce].flatten:=by unfold laidB;rw [zqo h1];rw [zqp h2]
  rw [hl,taken_wrap _ _ (by simp only [zqk,zql,zqf,List.length_nil];omega)]
  show (tkTgs (some [ticketE m.t1 m.t2 m.tKv m.tB,wrapB 4 m.tAu,princE m.t3 m.t4,intE m.tTill,intE m.tNonce].flatten)).d=_
  simp only [zqk,zql]
  unfold tkTgs
  have w0:=tickC_wrap m.t1 m.t2 m.tKv m.tB (wrapB 4 m.tAu++(princE m.t3 m.t4++(intE m.tTill++(intE m.tNonce++[])))) (by omega) (by omega) (by omega) (by omega) (by omega)
  have w1:=octC_wrap m.tAu (princE m.t3 m.t4++(intE m.tTill++(intE m.tNonce++[]))) (by omega)
  have w2:=princC_wrap m.t3 m.t4 (intE m.tTill++(intE m.tNonce++[])) (by omega) (by omega)
  have w3:=intC_wrap m.tTill (by omega) (by omega) (intE m.tNonce++[])
  have w4:=intC_wrap m.tNonce (by omega) (by omega) []
  simp only [w0,w1,w2,w3,w4]
  have z1:=noAs_z (o1 (by omega))
  have z3:=noRep_z (o3 (by omega))
  have z4:=noAp_z (o4 (by omega))
  have z5:=noFail_z (o5 (by omega))
  clear o1 o2 o3 o4 o5 hl hm h w0
  obtain ⟨kind,a1,a2,a3,a4,aTill,aNonce,t1,t2,tKv,tB,tBo,tAu,tAuo,t3,t4,tTill,tNonce,r1,r2,r3,r4,rKv,rB,rBo,rBl,rBlo,p1,p2,pKv,pB,pBo,pAu,pAuo,fErr,fNonce⟩:=m
  obtain ⟨y1_0,y1_1,y1_2,y1_3,y1_4,y1_5⟩:=z1
  obtain ⟨y3_0,y3_1,y3_2,y3_3,y3_4,y3_5,y3_6⟩:=z3
  obtain ⟨y4_0,y4_1,y4_2,y4_3,y4_4⟩:=z4
  obtain ⟨y5_0,y5_1⟩:=z5
  simp only at *
  subst h2 y1_0 y1_1 y1_2 y1_3 y1_4 y1_5 y3_0 y3_1 y3_2 y3_3 y3_4 y3_5 y3_6 y4_0 y4_1 y4_2 y4_3 y4_4 y5_0 y5_1
  rfl
 by_cases h3:m.kind=3
 ·skip
  rw [zqo h1] at hm
  rw [zqo h2] at hm
  rw [zqp h3] at hm
  simp only [zqb] at hm
  have g1:=princ_len hm.1.1
  have g2:=tick_len hm.1.2
  have gk:=tick_kv hm.1.2
  have g3:=inZ_le hm.2
  have e0:=princE_len m.r1 m.r2
  have e1:=ticketE_len m.r3 m.r4 m.rKv m.rB
  have e2:=wrapB_len 4 m.rBl
  have hl:laidB m=wrapB 107 [princE m.r1 m.r2,ticketE m.r3 m.r4 m.rKv m.rB,wrapB 4 m.rBl].flatten:=by unfold laidB;rw [zqo h1];rw [zqo h2];rw [zqp h3]
  rw [hl,taken_wrap _ _ (by simp only [zqk,zql,zqf,List.length_nil];omega)]
  show (tkRep (some [princE m.r1 m.r2,ticketE m.r3 m.r4 m.rKv m.rB,wrapB 4 m.rBl].flatten)).d=_
  simp only [zqk,zql]
  unfold tkRep
  have w0:=princC_wrap m.r1 m.r2 (ticketE m.r3 m.r4 m.rKv m.rB++(wrapB 4 m.rBl++[])) (by omega) (by omega)
  have w1:=tickC_wrap m.r3 m.r4 m.rKv m.rB (wrapB 4 m.rBl++[]) (by omega) (by omega) (by omega) (by omega) (by omega)
  have w2:=octC_wrap m.rBl [] (by omega)
  simp only [w0,w1,w2]
  have z1:=noAs_z (o1 (by omega))
  have z2:=noTgs_z (o2 (by omega))
  have z4:=noAp_z (o4 (by omega))
  have z5:=noFail_z (o5 (by omega))
  clear o1 o2 o3 o4 o5 hl hm h w0
  obtain ⟨kind,a1,a2,a3,a4,aTill,aNonce,t1,t2,tKv,tB,tBo,tAu,tAuo,t3,t4,tTill,tNonce,r1,r2,r3,r4,rKv,rB,rBo,rBl,rBlo,p1,p2,pKv,pB,pBo,pAu,pAuo,fErr,fNonce⟩:=m
  obtain ⟨y1_0,y1_1,y1_2,y1_3,y1_4,y1_5⟩:=z1
  obtain ⟨y2_0,y2_1,y2_2,y2_3,y2_4,y2_5,y2_6,y2_7,y2_8⟩:=z2
  obtain ⟨y4_0,y4_1,y4_2,y4_3,y4_4⟩:=z4
  obtain ⟨y5_0,y5_1⟩:=z5
  simp only at *
  subst h3 y1_0 y1_1 y1_2 y1_3 y1_4 y1_5 y2_0 y2_1 y2_2 y2_3 y2_4 y2_5 y2_6 y2_7 y2_8 y4_0 y4_1 y4_2 y4_3 y4_4 y5_0 y5_1
  rfl
 by_cases h4:m.kind=4
 ·skip
  rw [zqo h1] at hm
  rw [zqo h2] at hm
  rw [zqo h3] at hm
  rw [zqp h4] at hm
  simp only [zqb] at hm
  have g1:=tick_len hm.1
  have gk:=tick_kv hm.1
  have g2:=inZ_le hm.2
  have e0:=ticketE_len m.p1 m.p2 m.pKv m.pB
  have e1:=wrapB_len 4 m.pAu
  have hl:laidB m=wrapB 110 [ticketE m.p1 m.p2 m.pKv m.pB,wrapB 4 m.pAu].flatten:=by unfold laidB;rw [zqo h1];rw [zqo h2];rw [zqo h3];rw [zqp h4]
  rw [hl,taken_wrap _ _ (by simp only [zqk,zql,zqf,List.length_nil];omega)]
  show (tkAp (some [ticketE m.p1 m.p2 m.pKv m.pB,wrapB 4 m.pAu].flatten)).d=_
  simp only [zqk,zql]
  unfold tkAp
  have w0:=tickC_wrap m.p1 m.p2 m.pKv m.pB (wrapB 4 m.pAu++[]) (by omega) (by omega) (by omega) (by omega) (by omega)
  have w1:=octC_wrap m.pAu [] (by omega)
  simp only [w0,w1]
  have z1:=noAs_z (o1 (by omega))
  have z2:=noTgs_z (o2 (by omega))
  have z3:=noRep_z (o3 (by omega))
  have z5:=noFail_z (o5 (by omega))
  clear o1 o2 o3 o4 o5 hl hm h w0
  obtain ⟨kind,a1,a2,a3,a4,aTill,aNonce,t1,t2,tKv,tB,tBo,tAu,tAuo,t3,t4,tTill,tNonce,r1,r2,r3,r4,rKv,rB,rBo,rBl,rBlo,p1,p2,pKv,pB,pBo,pAu,pAuo,fErr,fNonce⟩:=m
  obtain ⟨y1_0,y1_1,y1_2,y1_3,y1_4,y1_5⟩:=z1
  obtain ⟨y2_0,y2_1,y2_2,y2_3,y2_4,y2_5,y2_6,y2_7,y2_8⟩:=z2
  obtain ⟨y3_0,y3_1,y3_2,y3_3,y3_4,y3_5,y3_6⟩:=z3
  obtain ⟨y5_0,y5_1⟩:=z5
  simp only at *
  subst h4 y1_0 y1_1 y1_2 y1_3 y1_4 y1_5 y2_0 y2_1 y2_2 y2_3 y2_4 y2_5 y2_6 y2_7 y2_8 y3_0 y3_1 y3_2 y3_3 y3_4 y3_5 y3_6 y5_0 y5_1
  rfl
 by_cases h5:m.kind=5
 ·skip
  rw [zqo h1] at hm
  rw [zqo h2] at hm
  rw [zqo h3] at hm
  rw [zqo h4] at hm
  rw [zqp h5] at hm
  simp only [zqb] at hm
  have g1:=inZ_le hm.1
  have g2:=inZ_le hm.2
  have e0:=intE_len m.fErr
  have e1:=intE_len m.fNonce
  have hl:laidB m=wrapB 126 [intE m.fErr,intE m.fNonce].flatten:=by unfold laidB;rw [zqo h1,zqo h2,zqo h3,zqo h4]
  rw [hl,taken_wrap _ _ (by simp only [zqk,zql,zqf,List.length_nil];omega)]
  show (tkFail (some [intE m.fErr,intE m.fNonce].flatten)).d=_
  simp only [zqk,zql]
  unfold tkFail
  have w0:=intC_wrap m.fErr (by omega) (by omega) (intE m.fNonce++[])
  have w1:=intC_wrap m.fNonce (by omega) (by omega) []
  simp only [w0,w1]
  have z1:=noAs_z (o1 (by omega))
  have z2:=noTgs_z (o2 (by omega))
  have z3:=noRep_z (o3 (by omega))
  have z4:=noAp_z (o4 (by omega))
  clear o1 o2 o3 o4 o5 hl hm h w0
  obtain ⟨kind,a1,a2,a3,a4,aTill,aNonce,t1,t2,tKv,tB,tBo,tAu,tAuo,t3,t4,tTill,tNonce,r1,r2,r3,r4,rKv,rB,rBo,rBl,rBlo,p1,p2,pKv,pB,pBo,pAu,pAuo,fErr,fNonce⟩:=m
  obtain ⟨y1_0,y1_1,y1_2,y1_3,y1_4,y1_5⟩:=z1
  obtain ⟨y2_0,y2_1,y2_2,y2_3,y2_4,y2_5,y2_6,y2_7,y2_8⟩:=z2
  obtain ⟨y3_0,y3_1,y3_2,y3_3,y3_4,y3_5,y3_6⟩:=z3
  obtain ⟨y4_0,y4_1,y4_2,y4_3,y4_4⟩:=z4
  simp only at *
  subst h5 y1_0 y1_1 y1_2 y1_3 y1_4 y1_5 y2_0 y2_1 y2_2 y2_3 y2_4 y2_5 y2_6 y2_7 y2_8 y3_0 y3_1 y3_2 y3_3 y3_4 y3_5 y3_6 y4_0 y4_1 y4_2 y4_3 y4_4
  rfl
 rw [zqo h1,zqo h2,zqo h3,zqo h4,zqo h5] at hm
 cases hm
theorem d_is {m m':Msg} (h:m.d=m'.d):isB m=isB m':=by rw [←isd (m:=m),h,isd]
theorem d_laid {m m':Msg} (h:m.d=m'.d):laidB m=laidB m':=by rw [←laidd (m:=m),h,laidd]
set_option maxHeartbeats 2000000
theorem Upd.over {X Y:Nat→Prop} {H H1 H2:PH} (h:Upd X H H1) (k:Upd Y H1 H2) (hy:∀i,i<H.length→Y i→X i):Upd X H H2 :=
 ⟨Nat.le_trans h.1 k.1,fun i hi hx=>(k.2 i (Nat.lt_of_lt_of_le hi h.1) fun hY=>hx (hy i hi hY)).trans (h.2 i hi hx)⟩
theorem curAt.set_ne {H:PH} {c j:Nat} {s:Option (List UInt8)} (h:curAt H c s) (hj:j≠c) (o:PObj):curAt (H.set j o) c s:=by
 obtain ⟨x,v,h1,h2⟩:=h
 exact ⟨x,v,by rw [zqj hj];exact h1,h2⟩
theorem c133 (b:List UInt8) (tag:UInt8) (hb:b.length≤140737488355328) (H:PH):CK prog 133 [sl b,bC tag] H fun r H' =>
  ∃d,r=.agg [.ptr (some (d,0))]∧H.length≤d∧Upd (fun _=>False) H H'∧curAt H' d (elemC tag (some b)).2:=by
 (refine fnS (imm:=imm133) ttC_ok func133 ?_;(conv=>whnf))
 refine cO (c170 b hb _) ?_
 rintro _ _ ⟨rfl,rfl⟩
 conv=>whnf
 obtain ⟨H1,hH1⟩:∃H1,H1=H++[PObj.mk 215 [.ptr none] 0]:=⟨_,rfl⟩
 have hl1:H1.length=H.length+1:=by rw [hH1];simp
 have h0:H1[H.length]? = some ⟨215,[.ptr none],0⟩:=by rw [hH1];exact gL _ _
 have u1:Upd (fun _=>False) H H1:=by rw [hH1];exact (Upd.refl H).push _
 rw [←hH1]
 have hcur:curAt (H1++[PObj.mk 265 [sl b,.bool false] 0]) H1.length (some b):=⟨sl b,0,gL _ _,fun l hl=>by cases hl;rfl⟩
 refine cO (c171 H1.length tag (some b) (H1++[PObj.mk 265 [sl b,.bool false] 0]) hcur (fun l hl=>by cases hl;exact hb)) ?_
 rintro _ H2 ⟨d,rfl,k1,k2,k3,k4⟩
 have hl2:(H1++[PObj.mk 265 [sl b,.bool false] 0]).length=H.length+2:=by simp [hl1]
 have u2:Upd (fun _=>False) H (H1++[⟨265,[sl b,.bool false],0⟩]):=u1.push _
 have u3:Upd (fun _=>False) H H2:=u2.over k2 (fun i hi e=>by have e:i=H1.length:=e;omega)
 have hat:H2[H.length]? = some ⟨215,[.ptr none],0⟩:=by
  rw [k2.2 H.length (by omega) (fun e=>by have e:H.length=H1.length:=e;omega),zq2 (by omega)]
  exact h0
 conv=>whnf
 ((conv in (_[_]?)=>tactic=>exact hat);(conv=>whnf))
 ((conv in (_[_]?)=>tactic=>exact gS hat);(conv=>whnf))
 exact ⟨d,rfl,by omega,u3.set (.inr (zqn _)) _,k4.set_ne (by omega) _⟩
theorem c134 (d:Nat) (s:Option (List UInt8)) (H:PH) (hc:curAt H d s) (hl:∀l,s=some l→l.length≤140737488355328) :
  CK prog 134 [.agg [.ptr (some (d,0))]] H fun r H'=>r=.agg [.str (princC s).2.1,.str (princC s).2.2]∧Upd (·=d) H H'∧curAt H' d (princC s).1:=by
 have hd:=hc.lt
 have g0:=elemC_len (tag:=48) hl
 have g1:∀l,(elemC 48 s).2=some l→l.length≤140737488355328:=fun l h=>(g0.2 l h).1
 have g2:=(elemC_len (tag:=27) g1).1
 (refine fnS (imm:=imm134) ttC_ok func134 ?_;(conv=>whnf))
 obtain ⟨H1,hH1⟩:∃H1,H1=H++[PObj.mk 36 [.str [],.str []] 0]:=⟨_,rfl⟩
 have hl1:H1.length=H.length+1:=by rw [hH1];simp
 have h0:H1[H.length]? = some ⟨36,[.str [],.str []],0⟩:=by rw [hH1];exact gL _ _
 have u1:Upd (·=d) H H1:=by rw [hH1];exact (Upd.refl H).push _
 have hc1:curAt H1 d s:=hc.keep (X:=fun _=>False) (by rw [hH1];exact (Upd.refl H).push _) (fun f=>f)
 rw [←hH1]
 refine cO (c171 d 48 s H1 hc1 hl) ?_
 rintro _ H2 ⟨e,rfl,k1,k2,k3,k4⟩
 conv=>whnf
 refine cO (c172 e _ H2 k4 g1) ?_
 rintro _ H3 ⟨rfl,k5,k6⟩
 conv=>whnf
 refine cO (c172 e _ H3 k6 g2) ?_
 rintro _ H4 ⟨rfl,k7,k8⟩
 have u4:Upd (fun i=>i=d∨i=e) H1 H4:=((k2.mono fun i _ h=>.inl h).trans (k5.mono fun i _ h=>.inr h)).trans (k7.mono fun i _ h=>.inr h)
 have hat:H4[H.length]? = some ⟨36,[.str [],.str []],0⟩:=by
  rw [u4.2 H.length (by omega) (fun h=>by rcases h with h | h <;> omega)]
  exact h0
 have u5:Upd (·=d) H H4:=u1.over u4 (fun i hi h=>by rcases h with h | h;exact h;omega)
 have hc4:curAt H4 d (elemC 48 s).1:=(k3.keep k5 (fun h=>by omega)).keep k7 (fun h=>by omega)
 conv=>whnf
 ((conv in (_[_]?)=>tactic=>exact hat);(conv=>whnf))
 ((conv in (_[_]?)=>tactic=>exact gS hat);(conv=>whnf))
 exact ⟨rfl,u5.set (.inr (zqn _)) _,hc4.set_ne (by omega) _⟩
theorem get_mid (H:PH) (o o':PObj):(H++[o]++[o'])[H.length]? = some o:=by
 rw [zq2 (by simp)];exact gL _ _
theorem getD_len {o:Option (List UInt8)} {B:Nat} (h:∀l,o=some l→l.length≤B∧l.length≤65535):(o.getD []).length≤65535:=by
 cases o with
 | none=>exact Nat.zero_le _
 | some l=>exact (h l rfl).2
set_option maxHeartbeats 4000000
def ttN:TT:=[(3,⟨.int .i64,1,8,[.int .i64 0]⟩),(4,⟨.bool,1,1,[.bool false]⟩),(5,⟨.int .u8,1,1,[.int .u8 0]⟩),(9,⟨.str,1,16,[.str []]⟩),(25,⟨.slice 5,1,24,[.slice 0 [] (some 5)]⟩),(36,⟨.strct [(9,0),(9,1)],2,32,[.str [],.str []]⟩),(51,⟨.strct [(36,0),(36,2),(3,4),(3,5)],6,80,[.str [],.str [],.str [],.str [],.int .i64 0,.int .i64 0]⟩),(53,⟨.strct [(36,0),(3,2),(25,3)],4,64,[.str [],.str [],.int .i64 0,.slice 0 [] (some 5)]⟩),(55,⟨.strct [(53,0),(25,4),(36,5),(3,7),(3,8)],9,136,[.str [],.str [],.int .i64 0,.slice 0 [] (some 5),.slice 0 [] (some 5),.str [],.str [],.int .i64 0,.int .i64 0]⟩),(57,⟨.strct [(36,0),(53,2),(25,6)],7,120,[.str [],.str [],.str [],.str [],.int .i64 0,.slice 0 [] (some 5),.slice 0 [] (some 5)]⟩),(59,⟨.strct [(53,0),(25,4)],5,88,[.str [],.str [],.int .i64 0,.slice 0 [] (some 5),.slice 0 [] (some 5)]⟩),(26,⟨.int .i64,1,8,[.int .i64 0]⟩),(61,⟨.strct [(26,0),(3,1)],2,16,[.int .i64 0,.int .i64 0]⟩),(63,⟨.strct [(3,0),(51,1),(55,7),(57,16),(59,23),(61,28)],30,448,[.int .i64 0,.str [],.str [],.str [],.str [],.int .i64 0,.int .i64 0,.str [],.str [],.int .i64 0,.slice 0 [] (some 5),.slice 0 [] (some 5),.str [],.str [],.int .i64 0,.int .i64 0,.str [],.str [],.str [],.str [],.int .i64 0,.slice 0 [] (some 5),.slice 0 [] (some 5),.str [],.str [],.int .i64 0,.slice 0 [] (some 5),.slice 0 [] (some 5),.int .i64 0,.int .i64 0]⟩),(150,⟨.fn,1,8,[.nilF]⟩),(213,⟨.ptr,1,8,[.ptr none]⟩),(215,⟨.strct [(213,0)],1,8,[.ptr none]⟩)]
theorem ttN_ok:ttOk prog ttN=true:=by kernel_rfl
def imm136:List Nat:=[1]
def imm87:List Nat:=[]
def imm86:List Nat:=[4]
def imm44:List Nat:=[]
structure TakS (T:Nat) (zc:List PV) (B K:PH) (r a e q:Nat) (s:Option (List UInt8)) (cells:List PV) (ver:Nat):Prop where
 z:K[r]? = some ⟨T,zc,0⟩
 c:K[a]? = some ⟨215,[.ptr (some (e,0))],1⟩
 p:K[q]? = some ⟨T,cells,ver⟩
 cur:curAt K e s
 up:Upd (·=e) B K
 lb:B.length≤q
 n1:r≠e
 n2:a≠e
 n3:q≠e
 n4:q≠a
 n5:q≠r
theorem TakS.call {T:Nat} {zc:List PV} {B K K':PH} {r a e q:Nat} {s s':Option (List UInt8)} {cells:List PV} {ver:Nat} (h:TakS T zc B K r a e q s cells ver) (u:Upd (·=e) K K') (c:curAt K' e s') :
  TakS T zc B K' r a e q s' cells ver:=by
 have lt:∀{i:Nat} {o:PObj},K[i]? = some o→i<K.length:=fun h=>(zq1.1 h).1
 exact ⟨(u.2 _ (lt h.z) h.n1).trans h.z,(u.2 _ (lt h.c) h.n2).trans h.c,(u.2 _ (lt h.p) h.n3).trans h.p,c,h.up.trans u,h.lb,h.n1,h.n2,h.n3,h.n4,h.n5⟩
theorem TakS.store {T:Nat} {zc:List PV} {B K:PH} {r a e q:Nat} {s:Option (List UInt8)} {cells:List PV} {ver:Nat} (h:TakS T zc B K r a e q s cells ver) (cells':List PV) (ver':Nat) :
  TakS T zc B (K.set q ⟨T,cells',ver'⟩) r a e q s cells' ver':=by
 refine ⟨?_,?_,gS h.p,h.cur.set_ne h.n3 _,h.up.set (.inr h.lb) _,h.lb,h.n1,h.n2,h.n3,h.n4,h.n5⟩
 ·rw [zqj h.n5];exact h.z
 ·rw [zqj h.n4];exact h.c
theorem c136 (d:Nat) (s:Option (List UInt8)) (H:PH) (hc:curAt H d s) (hl:∀l,s=some l→l.length≤140737488355328) :
  CK prog 136 [.agg [.ptr (some (d,0))]] H fun r H'=>r=.agg [.str (tickC s).2.r,.str (tickC s).2.n,.int .i64 (tickC s).2.kv,sl (tickC s).2.b]∧Upd (·=d) H H'∧curAt H' d (tickC s).1:=by
 have hd:=hc.lt
 have g0:=elemC_len (tag:=97) hl
 have hs0:∀l,(elemC 97 s).2=some l→l.length≤140737488355328:=fun l h=>(g0.2 l h).1
 have hs1:=(elemC_len (tag:=48) hs0).1
 have hs2:=intC_len hs1
 (refine fnS (imm:=imm136) ttN_ok func136 ?_;(conv=>whnf))
 obtain ⟨H1,hH1⟩:∃H1,H1=H++[PObj.mk 53 [.str [],.str [],.int .i64 0,.slice 0 [] (some 5)] 0]:=⟨_,rfl⟩
 have hl1:H1.length=H.length+1:=by rw [hH1];simp
 have h0:H1[H.length]? = some ⟨53,[.str [],.str [],.int .i64 0,.slice 0 [] (some 5)],0⟩:=by rw [hH1];exact gL _ _
 have u1:Upd (·=d) H H1:=by rw [hH1];exact (Upd.refl H).push _
 have hc1:curAt H1 d s:=hc.keep (X:=fun _=>False) (by rw [hH1];exact (Upd.refl H).push _) (fun f=>f)
 rw [←hH1]
 refine cO (c171 d 97 s H1 hc1 hl) ?_
 rintro _ H2 ⟨e,rfl,k1,k2,k3,k4⟩
 have hle:=k4.lt
 have uB:Upd (·=d) H H2:=u1.trans k2
 conv=>whnf
 ((conv in (_[_]?)=>tactic=>exact gL _ _);(conv=>whnf))
 obtain ⟨H3,hH3⟩:∃H3,H3=(H2++[PObj.mk 215 [.ptr none] 0]).set H2.length (PObj.mk 215 [.ptr (some (e,0))] 1):=⟨_,rfl⟩
 have hH3':H3=H2++[PObj.mk 215 [.ptr (some (e,0))] 1]:=by rw [hH3,sL]
 have u3:Upd (·=e) H2 H3:=by rw [hH3'];exact (Upd.refl H2).push _
 have h3c:H3[H2.length]? = some ⟨215,[.ptr (some (e,0))],1⟩:=by rw [hH3'];exact gL _ _
 have h3e:curAt H3 e (elemC 97 s).2:=k4.keep (X:=fun _=>False) (by rw [hH3'];exact (Upd.refl H2).push _) (fun f=>f)
 have h3z:H3[H.length]? = some ⟨53,[.str [],.str [],.int .i64 0,.slice 0 [] (some 5)],0⟩:=by
  rw [hH3',zq2 (by omega),k2.2 _ (by omega) (by omega)];exact h0
 have h3l:H3.length=H2.length+1:=by rw [hH3'];simp
 subst hH3
 ((conv in (_[_]?)=>tactic=>exact h3c);(conv=>whnf))
 refine cO (c134 e _ _ h3e hs0) ?_
 rintro _ K1 ⟨rfl,u4,g4⟩
 have D1:TakS 53 [.str [],.str [],.int .i64 0,.slice 0 [] (some 5)] H2 ((K1++[PObj.mk 53 [.str [],.str [],.int .i64 0,.slice 0 [] (some 5)] 0]).set K1.length ⟨53,[.str (princC (elemC 97 s).2).2.1,.str (princC (elemC 97 s).2).2.2,.int .i64 0,.slice 0 [] (some 5)],1⟩) H.length H2.length e K1.length (princC (elemC 97 s).2).1 [.str (princC (elemC 97 s).2).2.1,.str (princC (elemC 97 s).2).2.2,.int .i64 0,.slice 0 [] (some 5)] 1:=by
  have hk:H2.length+1≤K1.length:=Nat.le_trans (Nat.le_of_eq h3l.symm) u4.1
  rw [sL]
  refine ⟨?_,?_,gL _ _,g4.keep (X:=fun _=>False) ((Upd.refl K1).push _) (fun f=>f),(u3.trans u4).push _,by omega,by omega,by omega,by omega,by omega,by omega⟩
  ·rw [zq2 (by omega),u4.2 _ (Nat.lt_of_lt_of_le (show H.length<H2.length+1 by omega) (Nat.le_of_eq h3l.symm)) (by omega)];exact h3z
  ·rw [zq2 (by omega),u4.2 _ (Nat.lt_of_lt_of_le (show H2.length<H2.length+1 by omega) (Nat.le_of_eq h3l.symm)) (by omega)];exact h3c
 conv=>whnf
 ((conv in (_[_]?)=>tactic=>exact gL _ _);(conv=>whnf))
 ((conv in (_[_]?)=>tactic=>exact D1.c);(conv=>whnf))
 refine cO (c135 e _ _ D1.cur hs1) ?_
 rintro _ K2 ⟨rfl,u5,g5⟩
 have D2:=D1.call u5 g5
 conv=>whnf
 ((conv in (_[_]?)=>tactic=>exact D2.p);(conv=>whnf))
 have D3:=D2.store [.str (princC (elemC 97 s).2).2.1,.str (princC (elemC 97 s).2).2.2,.int .i64 (intC (princC (elemC 97 s).2).1).2,.slice 0 [] (some 5)] 2
 ((conv in (_[_]?)=>tactic=>exact D3.c);(conv=>whnf))
 refine cO (c137 e _ _ D3.cur hs2) ?_
 rintro _ K4 ⟨rfl,u6,g6,_⟩
 have D4:=D3.call u6 g6
 conv=>whnf
 ((conv in (_[_]?)=>tactic=>exact D4.p);(conv=>whnf))
 have D5:=D4.store [.str (princC (elemC 97 s).2).2.1,.str (princC (elemC 97 s).2).2.2,.int .i64 (intC (princC (elemC 97 s).2).1).2,sl (octC (intC (princC (elemC 97 s).2).1).1).2] 3
 ((conv in (_[_]?)=>tactic=>exact D5.p);(conv=>whnf))
 ((conv in (_[_]?)=>tactic=>exact D5.z);(conv=>whnf))
 ((conv in (_[_]?)=>tactic=>exact gS D5.z);(conv=>whnf))
 have uF:=uB.over D5.up (fun i hi h=>by omega)
 exact ⟨rfl,uF.set (.inr (zqn _)) _,(k3.keep D5.up (by omega)).set_ne (by omega) _⟩
theorem sl_get0 (t:UInt8) (b:List UInt8):∀(j:Nat) (c:PV),[bC t][j]? = some c→((t::b).map bC)[0*1+j]? = some c:=by
 intro j c hj
 match j with
 | 0=>exact hj
 | j+1=>simp at hj
theorem get_mid_set (H:PH) (o o' o'':PObj):((H++[o]++[o']).set (H++[o]).length o'')[H.length]? = some o:=by
 rw [sL];exact get_mid _ _ _
theorem c87x (b:List UInt8) (hb:b.length≤140737488355328) (H:PH):CK prog 87 [sl b] H fun r H'=>r=.agg (takenB b).d.cells∧∃ext,H'=H++ext:=by
 (refine fnS (imm:=imm87) ttN_ok func87 ?_;(conv=>whnf))
 ((conv in (_[_]?)=>tactic=>exact gL _ _);(conv=>whnf))
 cases b with
 | nil =>
  refine ⟨fun _=>?_,fun h=>absurd rfl h⟩
  conv=>whnf
  ((conv in (_[_]?)=>tactic=>exact gS (gL _ _));(conv=>whnf))
  ((conv in (_[_]?)=>tactic=>exact get_mid_set _ _ _ _);(conv=>whnf))
  ((conv in (_[_]?)=>tactic=>exact gS (get_mid_set _ _ _ _));(conv=>whnf))
  exact ⟨rfl,((((Ext.refl H).push _).push _).set (by simp) _).set (zqn _) _⟩
 | cons t b =>
  refine ⟨fun h=>absurd h (by simp <;> omega),fun _=>?_⟩
  conv=>whnf
  obtain ⟨HA,hHA⟩:∃HA,HA=H++[PObj.mk 63 mZ.cells 0]:=⟨_,rfl⟩
  obtain ⟨H1,hH1⟩:∃H1,H1=(HA++[PObj.mk 63 mZ.cells 0]).set HA.length (PObj.mk 63 mZ.cells 1):=⟨_,rfl⟩
  have hlA:HA.length=H.length+1:=by rw [hHA];simp
  have hH1':H1=HA++[PObj.mk 63 mZ.cells 1]:=by rw [hH1,sL]
  have hl1:H1.length=H.length+2:=by rw [hH1'];simp [hlA]
  have h1r:H1[H.length]? = some ⟨63,mZ.cells,0⟩:=by rw [hH1',zq2 (by omega),hHA];exact gL _ _
  have h1q:H1[HA.length]? = some ⟨63,mZ.cells,1⟩:=by rw [hH1'];exact gL _ _
  have u1:Upd (fun _=>False) H H1:=by rw [hH1',hHA];exact ((Upd.refl H).push _).push _
  refine ⟨⟨by decide,by first | (simp;done) | (simp;omega)⟩,[bC t],sl_get0 t b,?_⟩
  conv=>whnf
  subst hH1
  subst hHA
  refine cO (c133 (t::b) t hb _) ?_
  rintro _ H2 ⟨e,rfl,k1,k2,k3⟩
  have k1:((H++[PObj.mk 63 mZ.cells 0]++[PObj.mk 63 mZ.cells 0]).set (H++[PObj.mk 63 mZ.cells 0]).length (PObj.mk 63 mZ.cells 1)).length≤e:=k1
  rw [hl1] at k1
  have k2:Upd (fun _=>False) ((H++[PObj.mk 63 mZ.cells 0]++[PObj.mk 63 mZ.cells 0]).set (H++[PObj.mk 63 mZ.cells 0]).length (PObj.mk 63 mZ.cells 1)) H2:=k2
  have hle:=k3.lt
  have hs0:∀l,(elemC t (some (t::b))).2=some l→l.length≤140737488355328:=fun l h=>((elemC_len (tag:=t) (fun l h=>by cases h;exact hb)).2 l h).1
  show _
  have e0:takenB (t::b)=takenT t (elemC t (some (t::b))).2:=rfl
  rw [e0]
  generalize (elemC t (some (t::b))).2=s at hs0 k3
  have D0:TakS 63 mZ.cells H ((H2++[PObj.mk 215 [.ptr none] 0]).set H2.length (PObj.mk 215 [.ptr (some (e,0))] 1)) H.length H2.length e (H++[PObj.mk 63 mZ.cells 0]).length s mZ.cells 1:=by
   rw [sL]
   have hk:H.length+2≤H2.length:=Nat.le_trans (Nat.le_of_eq hl1.symm) k2.1
   refine ⟨?_,gL _ _,?_,k3.keep (X:=fun _=>False) ((Upd.refl H2).push _) (fun f=>f),((u1.over k2 (fun _ _ h=>h)).push _).mono (fun i _ h=>h.elim),by omega,by omega,by omega,by omega,by omega,by omega⟩
   ·rw [zq2 (by omega),k2.2 _ (by omega) (fun f=>f)];exact h1r
   ·rw [zq2 (by omega),k2.2 _ (by omega) (fun f=>f)];exact h1q
  have fin:∀{K:PH} {s':Option (List UInt8)} {cells:List PV} {ver:Nat} (D:TakS 63 mZ.cells H K H.length H2.length e (H++[PObj.mk 63 mZ.cells 0]).length s' cells ver) (o:PObj),∃ext,K.set H.length o=H++ext:=fun D o =>
   Upd.ext ((D.up.mono (Y:=fun _=>False) (fun i hi h=>by have h:i=e:=h;omega)).set (.inr (zqn _)) o)
  conv=>whnf
  ((conv in (_[_]?)=>tactic=>exact gL _ _);(conv=>whnf))
  refine ⟨⟨by decide,by first | (simp;done) | (simp;omega)⟩,[bC t],sl_get0 t b,?_⟩
  conv=>whnf
  refine ⟨fun h1=>?_,fun h1=>?_⟩
  ·have h1:(t.toNat:Int)=106:=h1
   have et:takenT t s=tkAs s:=by unfold takenT;rw [zqp (by omega)]
   rw [et]
   conv=>whnf
   ((conv in (_[_]?)=>tactic=>exact D0.p);(conv=>whnf))
   have E0:=D0.store ({ mZ with kind:=1 }:Msg).cells 2
   ((conv in (_[_]?)=>tactic=>exact E0.c);(conv=>whnf))
   have l0:∀l,s=some l→l.length≤140737488355328:=hs0
   refine cO (c134 e _ _ E0.cur l0) ?_
   rintro _ K0 ⟨rfl,u0,g0⟩
   have F0:=E0.call u0 g0
   conv=>whnf
   ((conv in (_[_]?)=>tactic=>exact F0.p);(conv=>whnf))
   have E1:=F0.store ({ mZ with kind:=1,a1:=(princC s).2.1,a2:=(princC s).2.2 }:Msg).cells 3
   ((conv in (_[_]?)=>tactic=>exact E1.c);(conv=>whnf))
   have l1:∀l,(princC s).1=some l→l.length≤140737488355328:=(elemC_len (tag:=48) l0).1
   refine cO (c134 e _ _ E1.cur l1) ?_
   rintro _ K1 ⟨rfl,u1,g1⟩
   have F1:=E1.call u1 g1
   conv=>whnf
   ((conv in (_[_]?)=>tactic=>exact F1.p);(conv=>whnf))
   have E2:=F1.store ({ mZ with kind:=1,a1:=(princC s).2.1,a2:=(princC s).2.2,a3:=(princC (princC s).1).2.1,a4:=(princC (princC s).1).2.2 }:Msg).cells 4
   ((conv in (_[_]?)=>tactic=>exact E2.c);(conv=>whnf))
   have l2:∀l,(princC (princC s).1).1=some l→l.length≤140737488355328:=(elemC_len (tag:=48) l1).1
   refine cO (c135 e _ _ E2.cur l2) ?_
   rintro _ K2 ⟨rfl,u2,g2⟩
   have F2:=E2.call u2 g2
   conv=>whnf
   ((conv in (_[_]?)=>tactic=>exact F2.p);(conv=>whnf))
   have E3:=F2.store ({ mZ with kind:=1,a1:=(princC s).2.1,a2:=(princC s).2.2,a3:=(princC (princC s).1).2.1,a4:=(princC (princC s).1).2.2,aTill:=(intC (princC (princC s).1).1).2 }:Msg).cells 5
   ((conv in (_[_]?)=>tactic=>exact E3.c);(conv=>whnf))
   have l3:∀l,(intC (princC (princC s).1).1).1=some l→l.length≤140737488355328:=intC_len l2
   refine cO (c135 e _ _ E3.cur l3) ?_
   rintro _ K3 ⟨rfl,u3,g3⟩
   have F3:=E3.call u3 g3
   conv=>whnf
   ((conv in (_[_]?)=>tactic=>exact F3.p);(conv=>whnf))
   have E4:=F3.store ({ mZ with kind:=1,a1:=(princC s).2.1,a2:=(princC s).2.2,a3:=(princC (princC s).1).2.1,a4:=(princC (princC s).1).2.2,aTill:=(intC (princC (princC s).1).1).2,aNonce:=(intC (intC (princC (princC s).1).1).1).2 }:Msg).cells 6
   ((conv in (_[_]?)=>tactic=>exact E4.p);(conv=>whnf))
   ((conv in (_[_]?)=>tactic=>exact E4.z);(conv=>whnf))
   ((conv in (_[_]?)=>tactic=>exact gS E4.z);(conv=>whnf))
   exact ⟨rfl,fin E4 _⟩
  conv=>whnf
  have h1:¬(t.toNat:Int)=106:=h1
  refine ⟨fun h2=>?_,fun h2=>?_⟩
  ·have h2:(t.toNat:Int)=108:=h2
   have et:takenT t s=tkTgs s:=by unfold takenT;rw [zqo (by omega)];rw [zqp (by omega)]
   rw [et]
   conv=>whnf
   ((conv in (_[_]?)=>tactic=>exact D0.p);(conv=>whnf))
   have E0:=D0.store ({ mZ with kind:=2 }:Msg).cells 2
   ((conv in (_[_]?)=>tactic=>exact E0.c);(conv=>whnf))
   have l0:∀l,s=some l→l.length≤140737488355328:=hs0
   refine cO (c136 e _ _ E0.cur l0) ?_
   rintro _ K0 ⟨rfl,u0,g0⟩
   have F0:=E0.call u0 g0
   conv=>whnf
   ((conv in (_[_]?)=>tactic=>exact F0.p);(conv=>whnf))
   have E1:=F0.store ({ mZ with kind:=2,t1:=(tickC s).2.r,t2:=(tickC s).2.n,tKv:=(tickC s).2.kv,tB:=(tickC s).2.b,tBo:=none }:Msg).cells 3
   ((conv in (_[_]?)=>tactic=>exact E1.c);(conv=>whnf))
   have l1:∀l,(tickC s).1=some l→l.length≤140737488355328:=(elemC_len (tag:=97) l0).1
   refine cO (c137 e _ _ E1.cur l1) ?_
   rintro _ K1 ⟨rfl,u1,g1,_⟩
   have F1:=E1.call u1 g1
   conv=>whnf
   ((conv in (_[_]?)=>tactic=>exact F1.p);(conv=>whnf))
   have E2:=F1.store ({ mZ with kind:=2,t1:=(tickC s).2.r,t2:=(tickC s).2.n,tKv:=(tickC s).2.kv,tB:=(tickC s).2.b,tBo:=none,tAu:=(octC (tickC s).1).2,tAuo:=none }:Msg).cells 4
   ((conv in (_[_]?)=>tactic=>exact E2.c);(conv=>whnf))
   have l2:∀l,(octC (tickC s).1).1=some l→l.length≤140737488355328:=(elemC_len (tag:=4) l1).1
   refine cO (c134 e _ _ E2.cur l2) ?_
   rintro _ K2 ⟨rfl,u2,g2⟩
   have F2:=E2.call u2 g2
   conv=>whnf
   ((conv in (_[_]?)=>tactic=>exact F2.p);(conv=>whnf))
   have E3:=F2.store ({ mZ with kind:=2,t1:=(tickC s).2.r,t2:=(tickC s).2.n,tKv:=(tickC s).2.kv,tB:=(tickC s).2.b,tBo:=none,tAu:=(octC (tickC s).1).2,tAuo:=none,t3:=(princC (octC (tickC s).1).1).2.1,t4:=(princC (octC (tickC s).1).1).2.2 }:Msg).cells 5
   ((conv in (_[_]?)=>tactic=>exact E3.c);(conv=>whnf))
   have l3:∀l,(princC (octC (tickC s).1).1).1=some l→l.length≤140737488355328:=(elemC_len (tag:=48) l2).1
   refine cO (c135 e _ _ E3.cur l3) ?_
   rintro _ K3 ⟨rfl,u3,g3⟩
   have F3:=E3.call u3 g3
   conv=>whnf
   ((conv in (_[_]?)=>tactic=>exact F3.p);(conv=>whnf))
   have E4:=F3.store ({ mZ with kind:=2,t1:=(tickC s).2.r,t2:=(tickC s).2.n,tKv:=(tickC s).2.kv,tB:=(tickC s).2.b,tBo:=none,tAu:=(octC (tickC s).1).2,tAuo:=none,t3:=(princC (octC (tickC s).1).1).2.1,t4:=(princC (octC (tickC s).1).1).2.2,tTill:=(intC (princC (octC (tickC s).1).1).1).2 }:Msg).cells 6
   ((conv in (_[_]?)=>tactic=>exact E4.c);(conv=>whnf))
   have l4:∀l,(intC (princC (octC (tickC s).1).1).1).1=some l→l.length≤140737488355328:=intC_len l3
   refine cO (c135 e _ _ E4.cur l4) ?_
   rintro _ K4 ⟨rfl,u4,g4⟩
   have F4:=E4.call u4 g4
   conv=>whnf
   ((conv in (_[_]?)=>tactic=>exact F4.p);(conv=>whnf))
   have E5:=F4.store ({ mZ with kind:=2,t1:=(tickC s).2.r,t2:=(tickC s).2.n,tKv:=(tickC s).2.kv,tB:=(tickC s).2.b,tBo:=none,tAu:=(octC (tickC s).1).2,tAuo:=none,t3:=(princC (octC (tickC s).1).1).2.1,t4:=(princC (octC (tickC s).1).1).2.2,tTill:=(intC (princC (octC (tickC s).1).1).1).2,tNonce:=(intC (intC (princC (octC (tickC s).1).1).1).1).2 }:Msg).cells 7
   ((conv in (_[_]?)=>tactic=>exact E5.p);(conv=>whnf))
   ((conv in (_[_]?)=>tactic=>exact E5.z);(conv=>whnf))
   ((conv in (_[_]?)=>tactic=>exact gS E5.z);(conv=>whnf))
   exact ⟨rfl,fin E5 _⟩
  conv=>whnf
  have h2:¬(t.toNat:Int)=108:=h2
  refine ⟨fun h3=>?_,fun h3=>?_⟩
  ·have h3:(t.toNat:Int)=107:=h3
   have et:takenT t s=tkRep s:=by unfold takenT;rw [zqo (by omega)];rw [zqo (by omega)];rw [zqp (by omega)]
   rw [et]
   conv=>whnf
   ((conv in (_[_]?)=>tactic=>exact D0.p);(conv=>whnf))
   have E0:=D0.store ({ mZ with kind:=3 }:Msg).cells 2
   ((conv in (_[_]?)=>tactic=>exact E0.c);(conv=>whnf))
   have l0:∀l,s=some l→l.length≤140737488355328:=hs0
   refine cO (c134 e _ _ E0.cur l0) ?_
   rintro _ K0 ⟨rfl,u0,g0⟩
   have F0:=E0.call u0 g0
   conv=>whnf
   ((conv in (_[_]?)=>tactic=>exact F0.p);(conv=>whnf))
   have E1:=F0.store ({ mZ with kind:=3,r1:=(princC s).2.1,r2:=(princC s).2.2 }:Msg).cells 3
   ((conv in (_[_]?)=>tactic=>exact E1.c);(conv=>whnf))
   have l1:∀l,(princC s).1=some l→l.length≤140737488355328:=(elemC_len (tag:=48) l0).1
   refine cO (c136 e _ _ E1.cur l1) ?_
   rintro _ K1 ⟨rfl,u1,g1⟩
   have F1:=E1.call u1 g1
   conv=>whnf
   ((conv in (_[_]?)=>tactic=>exact F1.p);(conv=>whnf))
   have E2:=F1.store ({ mZ with kind:=3,r1:=(princC s).2.1,r2:=(princC s).2.2,r3:=(tickC (princC s).1).2.r,r4:=(tickC (princC s).1).2.n,rKv:=(tickC (princC s).1).2.kv,rB:=(tickC (princC s).1).2.b,rBo:=none }:Msg).cells 4
   ((conv in (_[_]?)=>tactic=>exact E2.c);(conv=>whnf))
   have l2:∀l,(tickC (princC s).1).1=some l→l.length≤140737488355328:=(elemC_len (tag:=97) l1).1
   refine cO (c137 e _ _ E2.cur l2) ?_
   rintro _ K2 ⟨rfl,u2,g2,_⟩
   have F2:=E2.call u2 g2
   conv=>whnf
   ((conv in (_[_]?)=>tactic=>exact F2.p);(conv=>whnf))
   have E3:=F2.store ({ mZ with kind:=3,r1:=(princC s).2.1,r2:=(princC s).2.2,r3:=(tickC (princC s).1).2.r,r4:=(tickC (princC s).1).2.n,rKv:=(tickC (princC s).1).2.kv,rB:=(tickC (princC s).1).2.b,rBo:=none,rBl:=(octC (tickC (princC s).1).1).2,rBlo:=none }:Msg).cells 5
   ((conv in (_[_]?)=>tactic=>exact E3.p);(conv=>whnf))
   ((conv in (_[_]?)=>tactic=>exact E3.z);(conv=>whnf))
   ((conv in (_[_]?)=>tactic=>exact gS E3.z);(conv=>whnf))
   exact ⟨rfl,fin E3 _⟩
  conv=>whnf
  have h3:¬(t.toNat:Int)=107:=h3
  refine ⟨fun h4=>?_,fun h4=>?_⟩
  ·have h4:(t.toNat:Int)=110:=h4
   have et:takenT t s=tkAp s:=by unfold takenT;rw [zqo (by omega)];rw [zqo (by omega)];rw [zqo (by omega)];rw [zqp (by omega)]
   rw [et]
   conv=>whnf
   ((conv in (_[_]?)=>tactic=>exact D0.p);(conv=>whnf))
   have E0:=D0.store ({ mZ with kind:=4 }:Msg).cells 2
   ((conv in (_[_]?)=>tactic=>exact E0.c);(conv=>whnf))
   have l0:∀l,s=some l→l.length≤140737488355328:=hs0
   refine cO (c136 e _ _ E0.cur l0) ?_
   rintro _ K0 ⟨rfl,u0,g0⟩
   have F0:=E0.call u0 g0
   conv=>whnf
   ((conv in (_[_]?)=>tactic=>exact F0.p);(conv=>whnf))
   have E1:=F0.store ({ mZ with kind:=4,p1:=(tickC s).2.r,p2:=(tickC s).2.n,pKv:=(tickC s).2.kv,pB:=(tickC s).2.b,pBo:=none }:Msg).cells 3
   ((conv in (_[_]?)=>tactic=>exact E1.c);(conv=>whnf))
   have l1:∀l,(tickC s).1=some l→l.length≤140737488355328:=(elemC_len (tag:=97) l0).1
   refine cO (c137 e _ _ E1.cur l1) ?_
   rintro _ K1 ⟨rfl,u1,g1,_⟩
   have F1:=E1.call u1 g1
   conv=>whnf
   ((conv in (_[_]?)=>tactic=>exact F1.p);(conv=>whnf))
   have E2:=F1.store ({ mZ with kind:=4,p1:=(tickC s).2.r,p2:=(tickC s).2.n,pKv:=(tickC s).2.kv,pB:=(tickC s).2.b,pBo:=none,pAu:=(octC (tickC s).1).2,pAuo:=none }:Msg).cells 4
   ((conv in (_[_]?)=>tactic=>exact E2.p);(conv=>whnf))
   ((conv in (_[_]?)=>tactic=>exact E2.z);(conv=>whnf))
   ((conv in (_[_]?)=>tactic=>exact gS E2.z);(conv=>whnf))
   exact ⟨rfl,fin E2 _⟩
  conv=>whnf
  have h4:¬(t.toNat:Int)=110:=h4
  refine ⟨fun h5=>?_,fun h5=>?_⟩
  ·have h5:(t.toNat:Int)=126:=h5
   have et:takenT t s=tkFail s:=by unfold takenT;rw [zqo (by omega)];rw [zqo (by omega)];rw [zqo (by omega)];rw [zqo (by omega)];rw [zqp (by omega)]
   rw [et]
   conv=>whnf
   ((conv in (_[_]?)=>tactic=>exact D0.p);(conv=>whnf))
   have E0:=D0.store ({ mZ with kind:=5 }:Msg).cells 2
   ((conv in (_[_]?)=>tactic=>exact E0.c);(conv=>whnf))
   have l0:∀l,s=some l→l.length≤140737488355328:=hs0
   refine cO (c135 e _ _ E0.cur l0) ?_
   rintro _ K0 ⟨rfl,u0,g0⟩
   have F0:=E0.call u0 g0
   conv=>whnf
   ((conv in (_[_]?)=>tactic=>exact F0.p);(conv=>whnf))
   have E1:=F0.store ({ mZ with kind:=5,fErr:=(intC s).2 }:Msg).cells 3
   ((conv in (_[_]?)=>tactic=>exact E1.c);(conv=>whnf))
   have l1:∀l,(intC s).1=some l→l.length≤140737488355328:=intC_len l0
   refine cO (c135 e _ _ E1.cur l1) ?_
   rintro _ K1 ⟨rfl,u1,g1⟩
   have F1:=E1.call u1 g1
   conv=>whnf
   ((conv in (_[_]?)=>tactic=>exact F1.p);(conv=>whnf))
   have E2:=F1.store ({ mZ with kind:=5,fErr:=(intC s).2,fNonce:=(intC (intC s).1).2 }:Msg).cells 4
   ((conv in (_[_]?)=>tactic=>exact E2.p);(conv=>whnf))
   ((conv in (_[_]?)=>tactic=>exact E2.z);(conv=>whnf))
   ((conv in (_[_]?)=>tactic=>exact gS E2.z);(conv=>whnf))
   exact ⟨rfl,fin E2 _⟩
  conv=>whnf
  have h5:¬(t.toNat:Int)=126:=h5
  have et:takenT t s=mZ:=by unfold takenT;rw [zqo (by omega),zqo (by omega),zqo (by omega),zqo (by omega),zqo (by omega)]
  rw [et]
  ((conv in (_[_]?)=>tactic=>exact D0.p);(conv=>whnf))
  ((conv in (_[_]?)=>tactic=>exact D0.z);(conv=>whnf))
  ((conv in (_[_]?)=>tactic=>exact gS D0.z);(conv=>whnf))
  exact ⟨rfl,fin D0 _⟩
theorem old_cells (m:Msg):oldPs m.d.cells=true:=by
 simp [Msg.cells,Msg.as,Msg.tgs,Msg.rep,Msg.ap,Msg.fail,Msg.d,oldPs,oldP,slo,oldPs_bytes]
theorem c87 (b:List UInt8) (hb:b.length≤140737488355328):Pure prog 87 [sl b] (.agg (takenB b).d.cells):=Pure.of_gc (old_cells _) (c87x b hb)
theorem small (t:UInt8) (s:Option (List UInt8)):((elemC t s).2.getD []).length≤65535 :=
 getD_len (B:=(s.getD []).length) (elemC_len (fun l h=>by subst h;exact zqn _)).2
theorem small2 (t:UInt8) (s:Option (List UInt8)):((elemC t s).2.getD []).length≤1099511620000:=Nat.le_trans (small t s) (by decide)
theorem taken_fits (b:List UInt8):(takenB b).fits:=by
 cases b with
 | nil=>simp [takenB,mZ,Msg.fits]
 | cons t b =>
  show (takenT t _).fits
  generalize (elemC t (some (t::b))).2=s
  unfold takenT
  have z:∀n:Nat,([]:List UInt8).length≤n:=fun n=>Nat.zero_le _
  split
  ·refine ⟨?_,?_,?_,?_,?_,?_,?_,?_,?_,?_,?_,?_,?_,?_⟩ <;> first | exact z _ | exact small2 _ _
  ·split
   ·refine ⟨?_,?_,?_,?_,?_,?_,?_,?_,?_,?_,?_,?_,?_,?_⟩ <;> first | exact z _ | exact small2 _ _
   ·split
    ·refine ⟨?_,?_,?_,?_,?_,?_,?_,?_,?_,?_,?_,?_,?_,?_⟩ <;> first | exact z _ | exact small2 _ _
    ·split
     ·refine ⟨?_,?_,?_,?_,?_,?_,?_,?_,?_,?_,?_,?_,?_,?_⟩ <;> first | exact z _ | exact small2 _ _
     ·split
      ·refine ⟨?_,?_,?_,?_,?_,?_,?_,?_,?_,?_,?_,?_,?_,?_⟩ <;> first | exact z _ | exact small2 _ _
      ·refine ⟨?_,?_,?_,?_,?_,?_,?_,?_,?_,?_,?_,?_,?_,?_⟩ <;> first | exact z _ | exact small2 _ _
def okM (m:Msg) (b:List UInt8):Bool:=isB m&&(decide ((laidB m).length≤2000)&&decide (laidB m=b))
def agM (m:Msg) (b:List UInt8):PV:=match okM m b with
 | true=>.tup [.agg m.d.cells,.int .i64 0]
 | false=>.tup [.agg mZ.d.cells,.int .i64 2]
theorem agM_yes {m:Msg} {b:List UInt8} (h:okM m b=true):agM m b=.tup [.agg m.d.cells,.int .i64 0]:=by unfold agM;rw [h]
theorem agM_no {m:Msg} {b:List UInt8} (h:okM m b=false):agM m b=.tup [.agg mZ.d.cells,.int .i64 2]:=by unfold agM;rw [h]
theorem encV_yes {m:Msg} (h:isB m=true∧(laidB m).length≤2000):encV m=.tup [sl (laidB m),.int .i64 0]:=zqp h
theorem encV_no {m:Msg} (h:¬(isB m=true∧(laidB m).length≤2000)):encV m=.tup [.slice 0 [] (some 5),.int .i64 1]:=zqo h
theorem c86x (m:Msg) (b:List UInt8) (hm:m.fits) (H:PH):CK prog 86 [sl b,.agg m.d.cells,.func 72 [] []] H fun r H'=>r=agM m b∧∃ext,H'=H++ext:=by
 (refine fnS (imm:=imm86) ttN_ok func86 ?_;(conv=>whnf))
 have hd:encV m.d=encV m:=rfl
 by_cases hb:isB m=true∧(laidB m).length≤2000
 ·refine cP ((c72 m.d hm).of_eq (hd.trans (encV_yes hb))) ?_
  conv=>whnf
  refine ⟨fun _=>?_,fun h=>absurd rfl h⟩
  conv=>whnf
  refine cP (c132 (laidB m) b) ?_
  cases hq:decide (laidB m=b)
  ·have hk:okM m b=false:=by unfold okM;rw [hq,zq3,zq3]
   rw [agM_no hk]
   conv=>whnf
   ((conv in (_[_]?)=>tactic=>exact gL _ _);(conv=>whnf))
   ((conv in (_[_]?)=>tactic=>exact get_mid _ _ _);(conv=>whnf))
   ((conv in (_[_]?)=>tactic=>exact gS (get_mid _ _ _));(conv=>whnf))
   exact ⟨rfl,(((Ext.refl H).push _).push _).set (zqn _) _⟩
  ·have hk:okM m b=true:=by unfold okM;rw [hq,hb.1,zqe hb.2];rfl
   rw [agM_yes hk]
   conv=>whnf
   ((conv in (_[_]?)=>tactic=>exact get_mid _ _ _);(conv=>whnf))
   ((conv in (_[_]?)=>tactic=>exact gS (get_mid _ _ _));(conv=>whnf))
   exact ⟨rfl,(((Ext.refl H).push _).push _).set (zqn _) _⟩
 ·refine cP ((c72 m.d hm).of_eq (hd.trans (encV_no hb))) ?_
  have hk:okM m b=false:=by
   unfold okM
   cases h1:isB m
   ·rfl
   ·rw [zqd (fun h2=>hb ⟨h1,h2⟩)];rfl
  rw [agM_no hk]
  conv=>whnf
  refine ⟨fun h=>absurd h (by decide),fun _=>?_⟩
  conv=>whnf
  ((conv in (_[_]?)=>tactic=>exact gL _ _);(conv=>whnf))
  ((conv in (_[_]?)=>tactic=>exact get_mid _ _ _);(conv=>whnf))
  ((conv in (_[_]?)=>tactic=>exact gS (get_mid _ _ _));(conv=>whnf))
  exact ⟨rfl,(((Ext.refl H).push _).push _).set (zqn _) _⟩
theorem agM_old (m:Msg) (b:List UInt8):oldR (agM m b)=true:=by
 cases h:okM m b
 ·rw [agM_no h];simp [oldR,oldPs,oldP,old_cells]
 ·rw [agM_yes h];simp [oldR,oldPs,oldP,old_cells]
theorem c86 (m:Msg) (b:List UInt8) (hm:m.fits):Pure prog 86 [sl b,.agg m.d.cells,.func 72 [] []] (agM m b):=Pure.of_gc (agM_old m b) (c86x m b hm)
def decV (b:List UInt8):PV:=agM (takenB b) b
theorem c44x (b:List UInt8) (hb:b.length≤140737488355328) (H:PH):CK prog 44 [sl b] H fun r H'=>r=decV b∧∃ext,H'=H++ext:=by
 (refine fnS (imm:=imm44) ttN_ok func44 ?_;(conv=>whnf))
 refine cP (c87 b hb) ?_
 conv=>whnf
 refine cP (c86 (takenB b) b (taken_fits b)) ?_
 unfold decV
 cases h:okM (takenB b) b
 ·rw [agM_no h]
  conv=>whnf
  ((conv in (_[_]?)=>tactic=>exact gL _ _);(conv=>whnf))
  ((conv in (_[_]?)=>tactic=>exact gS (gL _ _));(conv=>whnf))
  exact ⟨rfl,((Ext.refl H).push _).set (zqn _) _⟩
 ·rw [agM_yes h]
  conv=>whnf
  ((conv in (_[_]?)=>tactic=>exact gL _ _);(conv=>whnf))
  ((conv in (_[_]?)=>tactic=>exact gS (gL _ _));(conv=>whnf))
  exact ⟨rfl,((Ext.refl H).push _).set (zqn _) _⟩
theorem c44 (b:List UInt8) (hb:b.length≤140737488355328):Pure prog 44 [sl b] (decV b):=Pure.of_gc (agM_old _ b) (c44x b hb)
def ttL:TT:=[(3,⟨.int .i64,1,8,[.int .i64 0]⟩),(4,⟨.bool,1,1,[.bool false]⟩),(5,⟨.int .u8,1,1,[.int .u8 0]⟩),(9,⟨.str,1,16,[.str []]⟩),(25,⟨.slice 5,1,24,[.slice 0 [] (some 5)]⟩),(36,⟨.strct [(9,0),(9,1)],2,32,[.str [],.str []]⟩),(51,⟨.strct [(36,0),(36,2),(3,4),(3,5)],6,80,[.str [],.str [],.str [],.str [],.int .i64 0,.int .i64 0]⟩),(53,⟨.strct [(36,0),(3,2),(25,3)],4,64,[.str [],.str [],.int .i64 0,.slice 0 [] (some 5)]⟩),(55,⟨.strct [(53,0),(25,4),(36,5),(3,7),(3,8)],9,136,[.str [],.str [],.int .i64 0,.slice 0 [] (some 5),.slice 0 [] (some 5),.str [],.str [],.int .i64 0,.int .i64 0]⟩),(57,⟨.strct [(36,0),(53,2),(25,6)],7,120,[.str [],.str [],.str [],.str [],.int .i64 0,.slice 0 [] (some 5),.slice 0 [] (some 5)]⟩),(59,⟨.strct [(53,0),(25,4)],5,88,[.str [],.str [],.int .i64 0,.slice 0 [] (some 5),.slice 0 [] (some 5)]⟩),(26,⟨.int .i64,1,8,[.int .i64 0]⟩),(61,⟨.strct [(26,0),(3,1)],2,16,[.int .i64 0,.int .i64 0]⟩),(63,⟨.strct [(3,0),(51,1),(55,7),(57,16),(59,23),(61,28)],30,448,[.int .i64 0,.str [],.str [],.str [],.str [],.int .i64 0,.int .i64 0,.str [],.str [],.int .i64 0,.slice 0 [] (some 5),.slice 0 [] (some 5),.str [],.str [],.int .i64 0,.int .i64 0,.str [],.str [],.str [],.str [],.int .i64 0,.slice 0 [] (some 5),.slice 0 [] (some 5),.str [],.str [],.int .i64 0,.slice 0 [] (some 5),.slice 0 [] (some 5),.int .i64 0,.int .i64 0]⟩),(126,⟨.ptr,1,8,[.ptr none]⟩),(128,⟨.strct [(25,0),(4,1)],2,32,[.slice 0 [] (some 5),.bool false]⟩),(192,⟨.slice 25,1,24,[.slice 0 [] (some 25)]⟩)]
theorem ttL_ok:ttOk prog ttL=true:=by kernel_rfl
def imm147:List Nat:=[]
def imm100:List Nat:=[]
def imm63:List Nat:=[]
def imm67:List Nat:=[]
def imm111:List Nat:=[]
def imm65:List Nat:=[]
def imm57:List Nat:=[]
def imm98:List Nat:=[]
def imm99:List Nat:=[]
def imm53:List Nat:=[]
def imm97:List Nat:=[]
def imm55:List Nat:=[]
def imm54:List Nat:=[]
def imm56:List Nat:=[]
def imm64:List Nat:=[1]
def imm66:List Nat:=[1]
def imm62:List Nat:=[]
def imm24:List Nat:=[1]
def imm22:List Nat:=[]
theorem c147 (n:Nat):Pure prog 147 [.int .i64 n] (slo (lenB n) (some 5)):=by
 intro H
 (refine fnS (imm:=imm147) ttL_ok func147 ?_;(conv=>whnf))
 refine ⟨fun h=>?_,fun h=>?_⟩
 ·conv=>whnf
  have h:(n:Int)<128:=h
  have e:lenB n=[UInt8.ofNat n]:=by unfold lenB;rw [zqp (by omega)]
  rw [e]
  refine ⟨?_,rfl⟩
  show PV.slice 1 [PV.int .u8 (IntKind.u8.wrap (n:Int))] (some 5)=PV.slice 1 [PV.int .u8 ((UInt8.ofNat n).toNat:Int)] (some 5)
  rw [u8w]
 ·conv=>whnf
  have h:¬(n:Int)<128:=h
  refine ⟨fun h2=>?_,fun h2=>?_⟩
  ·conv=>whnf
   have h2:(n:Int)<256:=h2
   have e:lenB n=[129,UInt8.ofNat n]:=by unfold lenB;rw [zqo (by omega),zqp (by omega)]
   rw [e]
   refine ⟨?_,rfl⟩
   show PV.slice 2 [PV.int .u8 129,PV.int .u8 (IntKind.u8.wrap (n:Int))] (some 5)=PV.slice 2 [PV.int .u8 129,PV.int .u8 ((UInt8.ofNat n).toNat:Int)] (some 5)
   rw [u8w]
  ·conv=>whnf
   have h2:¬(n:Int)<256:=h2
   have e:lenB n=[130,UInt8.ofNat (n / 256),UInt8.ofNat n]:=by unfold lenB;rw [zqo (by omega),zqo (by omega)]
   rw [e]
   refine ⟨by decide,?_⟩
   conv=>whnf
   refine ⟨?_,rfl⟩
   show PV.slice 3 [PV.int .u8 130,PV.int .u8 (IntKind.u8.wrap (ishr .i64 (n:Int) 8)),PV.int .u8 (IntKind.u8.wrap (n:Int))] (some 5)=PV.slice 3 [PV.int .u8 130,PV.int .u8 ((UInt8.ofNat (n / 256)).toNat:Int),PV.int .u8 ((UInt8.ofNat n).toNat:Int)] (some 5)
   rw [shr8,u8w,u8w]
theorem c100 (tag:UInt8) (p:List UInt8) (o:Option Nat) (hp:p.length≤1099511627000):Pure prog 100 [bC tag,slo p o] (slo (wrapB tag p) (some 5)):=by
 intro H
 have hl:=lenB_len p.length
 (refine fnS (imm:=imm100) ttL_ok func100 ?_;(conv=>whnf))
 refine cP (c147 p.length) ?_
 conv=>whnf
 refine ⟨⟨by show (1+(lenB p.length).length)*1≤_;omega,by simp,allOne _⟩,?_⟩
 conv=>whnf
 refine ⟨⟨by show (1+(lenB p.length).length+p.length)*1≤_;omega,by simp,allOne _⟩,?_⟩
 conv=>whnf
 refine ⟨?_,rfl⟩
 show PV.slice (1+(lenB p.length).length+p.length) ([bC tag]++(lenB p.length).map bC++p.map bC) (some 5)=PV.slice (wrapB tag p).length ((wrapB tag p).map bC) (some 5)
 have e1:(wrapB tag p).length=1+(lenB p.length).length+p.length:=by unfold wrapB;rw [List.length_cons,zqf];omega
 have e2:(wrapB tag p).map bC=[bC tag]++(lenB p.length).map bC++p.map bC:=by unfold wrapB;rw [List.map_cons,List.map_append];rfl
 rw [e1,e2]
theorem c67 (p:List UInt8) (o:Option Nat) (hp:p.length≤1099511627000):Pure prog 67 [slo p o] (slo (wrapB 4 p) (some 5)):=by
 intro H
 (refine fnS (imm:=imm67) ttL_ok func67 ?_;(conv=>whnf))
 refine cP (c100 4 p none hp) ?_
 conv=>whnf
 exact ⟨rfl,rfl⟩
theorem c111 (p:List UInt8) (hp:p.length≤1099511627000):Pure prog 111 [.str p] (slo (wrapB 27 p) (some 5)):=by
 intro H
 (refine fnS (imm:=imm111) ttL_ok func111 ?_;(conv=>whnf))
 refine ⟨by omega,?_⟩
 conv=>whnf
 refine cP (c100 27 p none hp) ?_
 conv=>whnf
 exact ⟨rfl,rfl⟩
structure RwS where
 i:Nat
theorem flat_len (ls:List (List UInt8)) (i:Nat):(ls.take i).flatten.length≤ls.flatten.length:=by
 conv=>rhs;rw [←List.take_append_drop i ls,List.flatten_append,zqf]
 omega
theorem c63 (tag:UInt8) (ls:List (List UInt8)) (hn:ls.length≤1099511627776) (ht:ls.flatten.length≤1099511627000):Pure prog 63 [bC tag,.slice ls.length (ls.map sl) none] (slo (wrapB tag ls.flatten) (some 5)):=by
 intro H
 (refine fnS (imm:=imm63) ttL_ok func63 ?_;(conv=>whnf))
 refine lO RwS (fun x=>[(0,bC tag),(1,.slice ls.length (ls.map sl) none),(6,.int .i64 x.i),(5,slo (ls.take x.i).flatten (some 5))]) (fun _=>H) (fun x=>x.i≤ls.length) (fun x=>ls.length - x.i)
  ⟨⟨0⟩,Nat.zero_le _,⟨rfl,rfl,rfl,rfl,zqv⟩,rfl⟩ ?_
 rintro ⟨i⟩ hi
 have hi:i≤ls.length:=hi
 conv=>whnf
 refine ⟨fun h=>?_,fun h=>?_⟩
 ·conv=>whnf
  have h:(i:Int)<(ls.length:Int):=h
  have hlt:i<ls.length:=by omega
  have hat:(ls.map sl)[(i:Int).toNat*1]? = some (sl ls[i]):=by
   rw [Int.toNat_natCast,Nat.mul_one,List.getElem?_map,zqc hlt];rfl
  refine ⟨⟨by show (0:Int)≤(i:Int);omega,h⟩,[sl ls[i]],at1 hat,?_⟩
  conv=>whnf
  have e1:=flat_take hlt
  have e2:=flat_len ls (i+1)
  rw [e1,zqf] at e2
  refine ⟨⟨by show ((ls.take i).flatten.length+ls[i].length)*1≤_;omega,by simp,allOne _⟩,?_⟩
  conv=>whnf
  refine ⟨⟨i+1⟩,hlt,⟨rfl,rfl,?_,?_,zqv⟩,rfl,by show ls.length - (i+1)<ls.length - i;omega⟩
  ·show PV.int _ (IntKind.i64.wrap ((i:Int)+1))=PV.int _ ((i+1:Nat):Int)
   rw [w64 (by omega) (by omega)];rfl
  ·show PV.slice ((ls.take i).flatten.length+ls[i].length) ((ls.take i).flatten.map bC++ls[i].map bC) (some 5)=slo (ls.take (i+1)).flatten (some 5)
   rw [e1];unfold slo;rw [zqf,List.map_append]
 ·conv=>whnf
  have h:¬(i:Int)<(ls.length:Int):=h
  have hi2:i=ls.length:=by omega
  subst hi2
  rw [List.take_length]
  refine cP (c100 tag ls.flatten none ht) ?_
  conv=>whnf
  exact ⟨rfl,rfl⟩
def digB (n:Nat):List UInt8:=if n=0 then [0] else (le 9 n).reverse
theorem digB_len (n:Nat):(digB n).length≤9:=by
 unfold digB
 split
 ·decide
 ·rw [List.length_reverse];exact le_len 9 n
theorem digB_intB (n : Nat) (x : UInt8) (t : List UInt8) (h : digB n = x :: t) : intB n = if 128 ≤ x.toNat then 0 :: x :: t else x :: t := by
  unfold digB at h
  unfold intB padB
  split at h
  · rename_i e
    subst e
    cases h
    rw [le_zero, zqp (.inl rfl), zqo (by decide)]; rfl
  · have hl : le 9 n = (x :: t).reverse := by rw [← h, List.reverse_reverse]
    have hg : ((x :: t).reverse.getLast?.getD 0) = x := by simp
    rw [hl, hg]
    by_cases hc : 128 ≤ x.toNat
    · rw [zqp (.inr hc), zqp hc, List.reverse_append, List.reverse_reverse]; rfl
    · rw [zqo (fun hh => by rcases hh with hh | hh; · simp at hh
                            · exact hc hh), zqo hc, List.reverse_reverse]
theorem digB_ne (n:Nat) (hn:n≤4611686018427387904):digB n≠[]:=by
 unfold digB
 split
 ·simp
 ·rename_i h0
  intro e
  have e:le 9 n=[]:=by rw [←List.reverse_reverse (le 9 n),e];rfl
  exact h0 (le_nil 9 n (by omega) e)
structure RiS where
 m:Nat
 p:List UInt8
theorem c65 (n:Int):Pure prog 65 [.int .i64 n] (slo (intE n) (some 5)):=by
 intro H
 (refine fnS (imm:=imm65) ttL_ok func65 ?_;(conv=>whnf))
 have hN:min (max n 0) 4611686018427387904=(clampI n:Int):=by unfold clampI;omega
 have hN2:clampI n≤4611686018427387904:=by unfold clampI;omega
 refine ⟨by decide,?_⟩
 conv=>whnf
 have hbw:∀m:Nat,PV.int .u8 (IntKind.u8.wrap (m:Int))=bC (UInt8.ofNat m):=fun m=>zqm (PV.int .u8) (u8w m)
 refine lO RiS (fun x=>[(0,.int .i64 x.m),(3,slo x.p (some 5))]) (fun _=>H)
  (fun x=>∃f,(le f x.m).reverse++x.p=digB (clampI n)∧x.m<256 ^ f∧x.m≤4611686018427387904) (fun x=>x.m)
  ⟨⟨clampI n / 256,[UInt8.ofNat (clampI n)]⟩,⟨8,?_,by show clampI n / 256<256 ^ 8;omega,by show clampI n / 256≤_;omega⟩,⟨?_,?_,zqv⟩,rfl⟩ ?_
 ·show (le 8 (clampI n / 256)).reverse++[UInt8.ofNat (clampI n)]=_
  unfold digB
  split
  ·rename_i e
   rw [e];rfl
  ·rename_i e
   have hle:le (8+1) (clampI n)=UInt8.ofNat (clampI n)::le 8 (clampI n / 256):=by
    conv=>lhs;unfold le
    rw [zqo e]
   show _=(le (8+1) (clampI n)).reverse
   rw [hle,List.reverse_cons]
 ·show PV.int .i64 (ishr .i64 (min (max n 0) 4611686018427387904) 8)=PV.int .i64 ((clampI n / 256:Nat):Int)
  rw [hN,shr8]
 ·show PV.slice 1 [PV.int .u8 (IntKind.u8.wrap (min (max n 0) 4611686018427387904))] (some 5)=slo [UInt8.ofNat (clampI n)] (some 5)
  rw [hN,hbw];rfl
 rintro ⟨m,p⟩ ⟨f,g1,g2,g3⟩
 have g1:(le f m).reverse++p=digB (clampI n):=g1
 have g2:m<256 ^ f:=g2
 have g3:m≤4611686018427387904:=g3
 have hp9:p.length≤9:=by
  have:=digB_len (clampI n)
  rw [←g1,zqf] at this
  omega
 conv=>whnf
 refine ⟨fun h=>?_,fun h=>?_⟩
 ·conv=>whnf
  have h:(m:Int) > 0:=h
  have hf:∃f',f=f'+1:=by
   cases f with
   | zero=>simp at g2;omega
   | succ f=>exact ⟨f,rfl⟩
  obtain ⟨f,rfl⟩:=hf
  have hle:le (f+1) m=UInt8.ofNat m::le f (m / 256):=by
   conv=>lhs;unfold le
   rw [zqo (by omega)]
  refine ⟨⟨by show (1+p.length)*1≤_;omega,by simp,allOne _⟩,?_⟩
  conv=>whnf
  refine ⟨by decide,?_⟩
  conv=>whnf
  refine ⟨⟨m / 256,UInt8.ofNat m::p⟩,⟨f,?_,?_,by show m / 256≤_;omega⟩,⟨?_,?_,zqv⟩,rfl,by show m / 256<m;omega⟩
  ·show (le f (m / 256)).reverse++(UInt8.ofNat m::p)=_
   rw [←g1,hle,List.reverse_cons,List.append_assoc];rfl
  ·show m / 256<256 ^ f
   rw [Nat.div_lt_iff_lt_mul (by omega),←Nat.pow_succ];exact g2
  ·show PV.int .i64 (ishr .i64 (m:Int) 8)=PV.int .i64 ((m / 256:Nat):Int)
   rw [shr8]
  ·show PV.slice (1+p.length) ([PV.int .u8 (IntKind.u8.wrap (m:Int))]++p.map bC) (some 5)=PV.slice (p.length+1) (bC (UInt8.ofNat m)::p.map bC) (some 5)
   rw [hbw,Nat.add_comm];rfl
 ·conv=>whnf
  have h:¬(m:Int) > 0:=h
  have hm:m=0:=by omega
  subst hm
  rw [le_zero] at g1
  have g1:p=digB (clampI n):=g1
  have hne:=digB_ne (clampI n) hN2
  rw [←g1] at hne
  have hib:=digB_intB (clampI n)
  cases p with
  | nil=>exact absurd rfl hne
  | cons x t =>
   have hib:=hib x t g1.symm
   refine ⟨⟨by decide,by first | (simp;done) | (simp;omega)⟩,[bC x],sl_get0 x t,?_⟩
   conv=>whnf
   refine ⟨fun h=>?_,fun h=>?_⟩
   ·conv=>whnf
    have h:(128:Int)≤(x.toNat:Int):=h
    rw [zqp (by omega)] at hib
    have hp9:t.length+1≤9:=hp9
    refine ⟨⟨by show (1+(t.length+1))*1≤_;omega,by simp,allOne (x::t)⟩,?_⟩
    conv=>whnf
    have hE:slo (0::x::t) (some 5)=PV.slice (1+(x::t).length) ([PV.int .u8 0]++(x::t).map bC) (some 5):=by
     unfold slo
     rw [Nat.add_comm];rfl
    refine cA (args':=[bC 2,slo (0::x::t) none]) (zqm (fun n=>[bC 2,PV.slice n ([PV.int .u8 0]++(x::t).map bC) none]) (Nat.add_comm 1 _)) (cP (c100 2 (0::x::t) none (by simp;omega)) ?_)
    conv=>whnf
    refine ⟨?_,rfl⟩
    unfold intE
    rw [hib];rfl
   ·conv=>whnf
    have h:¬(128:Int)≤(x.toNat:Int):=h
    rw [zqo (by omega)] at hib
    have hp9:t.length+1≤9:=hp9
    refine cP (c100 2 (x::t) none (by simp;omega)) ?_
    conv=>whnf
    refine ⟨?_,rfl⟩
    unfold intE
    rw [hib];rfl
theorem or8 (a b:Nat) (ha:a<36028797018963968) (hb:b<256):ibits .or .i64 ((a*256:Nat):Int) (b:Int)=((a*256+b:Nat):Int):=by
 show IntKind.i64.wrap ((BitVec.ofInt 64 ((a*256:Nat):Int) ||| BitVec.ofInt 64 (b:Int)).toNat:Int)=_
 have e1:(BitVec.ofInt 64 ((a*256:Nat):Int)).toNat=a*256:=by rw [BitVec.toNat_ofInt];omega
 have e2:(BitVec.ofInt 64 (b:Int)).toNat=b:=by rw [BitVec.toNat_ofInt];omega
 have e3:=Nat.two_pow_add_eq_or_of_lt (i:=8) (show b<2 ^ 8 by omega) a
 have e4:2 ^ 8*a=a*256:=by rw [Nat.mul_comm]
 rw [e4] at e3
 rw [BitVec.toNat_or,e1,e2,←e3,w64 (by omega) (by omega)]
def rcur (H:PH) (c:Nat) (s:Option (List UInt8)):Prop:=∃b v,H[c]? = some ⟨128,[sl b,.bool s.isNone],v⟩∧∀l,s=some l→b=l
theorem rcur.lt {H:PH} {c:Nat} {s:Option (List UInt8)} (h:rcur H c s):c<H.length:=by
 obtain ⟨b,v,h,_⟩:=h
 exact (zq1.1 h).1
theorem rcur.keep {X:Nat→Prop} {H H':PH} {c:Nat} {s:Option (List UInt8)} (h:rcur H c s) (k:Upd X H H') (hc:¬X c):rcur H' c s:=by
 have hl:=h.lt
 obtain ⟨b,v,h,h2⟩:=h
 exact ⟨b,v,(k.2 c hl hc).trans h,h2⟩
theorem rcur.set_ne {H:PH} {c j:Nat} {s:Option (List UInt8)} (h:rcur H c s) (hj:j≠c) (x:PObj):rcur (H.set j x) c s:=by
 obtain ⟨b,v,h1,h2⟩:=h
 exact ⟨b,v,by rw [zqj hj];exact h1,h2⟩
theorem head_lt (y:UInt8) (r:List UInt8) (h:y.toNat<128):headB (y::r)=(1,y.toNat,true):=by
 match r with
 | []=>rw [head_1,zqp h]
 | [z]=>rw [head_2,zqp h]
 | z::w::u=>rw [head_3,zqp h]
theorem head_81 (y z:UInt8) (r:List UInt8) (h:y.toNat=129):headB (y::z::r)=if 128≤z.toNat then (2,z.toNat,true) else (0,0,false):=by
 match r with
 | [] =>
  rw [head_2,zqo (by omega)]
  by_cases h2:128≤z.toNat
  ·rw [zqp ⟨h,h2⟩,zqp h2]
  ·rw [zqo (fun hh=>h2 hh.2),zqo h2]
 | w::u =>
  rw [head_3,zqo (by omega)]
  by_cases h2:128≤z.toNat
  ·rw [zqp ⟨h,h2⟩,zqp h2]
  ·rw [zqo (fun hh=>h2 hh.2),zqo h2,zqo (fun hh=>by omega)]
theorem head_82 (y z w:UInt8) (r:List UInt8) (h:y.toNat=130):headB (y::z::w::r)=if 0<z.toNat then (3,z.toNat*256+w.toNat,true) else (0,0,false):=by
 rw [head_3,zqo (by omega),zqo (fun hh=>by omega)]
 by_cases h2:0<z.toNat
 ·rw [zqp ⟨h,h2⟩,zqp h2]
 ·rw [zqo (fun hh=>h2 hh.2),zqo h2]
theorem head_bad (y:UInt8) (r:List UInt8) (h:128≤y.toNat) (h1:¬(y.toNat=129∧r≠[])) (h2:¬(y.toNat=130∧2≤r.length)):(headB (y::r)).2.2=false:=by
 match r with
 | []=>rw [head_1,zqo (by omega)]
 | [z]=>rw [head_2,zqo (by omega),zqo (fun hh=>h1 ⟨hh.1,by simp⟩)]
 | z::w::u=>rw [head_3,zqo (by omega),zqo (fun hh=>h1 ⟨hh.1,by simp⟩),zqo (fun hh=>h2 ⟨hh.1,by simp⟩)]
theorem elemC_ne {t tag:UInt8} {b:List UInt8} (h:¬t=tag):elemC tag (some (t::b))=(none,none):=by
 refine elemC_bad ?_
 show (if t=tag then _ else none)=none
 rw [zqo h]
theorem elemC_hd {t:UInt8} {b:List UInt8} {h1 n:Nat} {ok:Bool} (h:headB b=(h1,n,ok)) (hb:¬(ok=true∧h1+n≤b.length)):elemC t (some (t::b))=(none,none):=by
 refine elemC_bad ?_
 show (if t=t then (if (headB b).2.2=true∧(headB b).1+(headB b).2.1≤b.length then some ((b.drop (headB b).1).take (headB b).2.1,b.drop ((headB b).1+(headB b).2.1)) else none) else none)=none
 rw [zqp rfl,h]
 exact zqo hb
theorem elemC_hy {t:UInt8} {b:List UInt8} {h1 n:Nat} (h:headB b=(h1,n,true)) (hb:h1+n≤b.length):elemC t (some (t::b))=(some (b.drop (h1+n)),some ((b.drop h1).take n)):=by
 show (match elemB t (t::b) with | none=>(none,none) | some (x,r)=>(some r,some x))=_
 have e:elemB t (t::b)=some ((b.drop h1).take n,b.drop (h1+n)):=by
  show (if t=t then (if (headB b).2.2=true∧(headB b).1+(headB b).2.1≤b.length then some ((b.drop (headB b).1).take (headB b).2.1,b.drop ((headB b).1+(headB b).2.1)) else none) else none)=_
  rw [zqp rfl,h]
  exact zqp ⟨rfl,hb⟩
 rw [e]
theorem elemC_f {t:UInt8} {b:List UInt8} (h:(headB b).2.2=false):elemC t (some (t::b))=(none,none):=by
 refine elemC_bad ?_
 show (if t=t then (if (headB b).2.2=true∧(headB b).1+(headB b).2.1≤b.length then some ((b.drop (headB b).1).take (headB b).2.1,b.drop ((headB b).1+(headB b).2.1)) else none) else none)=none
 rw [zqp rfl]
 exact zqo (fun hh=>by rw [h] at hh;cases hh.1)
theorem lenB_1 {n:Nat} (h:n<128):(lenB n).length=1:=by unfold lenB;rw [zqp h];rfl
theorem lenB_2 {n:Nat} (h:128≤n) (h2:n<256):(lenB n).length=2:=by unfold lenB;rw [zqo (by omega),zqp (by omega)];rfl
theorem lenB_3 {n:Nat} (h:256≤n):(lenB n).length=3:=by unfold lenB;rw [zqo (by omega),zqo (by omega)];rfl
theorem c97 (c:Nat) (tag:UInt8) (s:Option (List UInt8)) (H:PH) (hc:rcur H c s) (hl:∀l,s=some l→l.length≤140737488355328) :
  CK prog 97 [.ptr (some (c,0)),bC tag] H fun r H'=>(∃o,r=slo ((elemC tag s).2.getD []) o)∧Upd (·=c) H H'∧rcur H' c (elemC tag s).1:=by
 obtain ⟨b,v,hc0,hx⟩:=id hc
 (refine fnS (imm:=imm97) ttL_ok func97 ?_;(conv=>whnf))
 ((conv in (_[_]?)=>tactic=>exact hc0);(conv=>whnf))
 have fin:∀(q:Option (List UInt8)×Option (List UInt8)),q=(none,none)→∀o',(∃o,PV.slice 0 [] o'=slo (q.2.getD []) o)∧Upd (·=c) H (H.set c ⟨128,[sl b,.bool true],v+1⟩)∧rcur (H.set c ⟨128,[sl b,.bool true],v+1⟩) c q.1:=fun q hq o'=>by
  subst hq
  exact ⟨⟨o',rfl⟩,((Upd.refl H).set (X:=(·=c)) (.inl rfl) _),b,v+1,gS hc0,fun l h=>by cases h⟩
 cases s with
 | none =>
  ((conv in (_[_]?)=>tactic=>exact hc0);(conv=>whnf))
  ((conv in (_[_]?)=>tactic=>exact hc0);(conv=>whnf))
  exact fin _ rfl _
 | some l =>
  have hb:=hx l rfl
  subst hb
  have hll:=hl b rfl
  ((conv in (_[_]?)=>tactic=>exact hc0);(conv=>whnf))
  match b,hc0,hll with
  | [],hc0,_ =>
   refine ⟨fun _=>?_,fun h=>absurd (by decide) h⟩
   conv=>whnf
   ((conv in (_[_]?)=>tactic=>exact hc0);(conv=>whnf))
   exact fin _ rfl _
  | [t],hc0,_ =>
   refine ⟨fun _=>?_,fun h=>absurd (by show ((1:Nat):Int)<2;decide) h⟩
   conv=>whnf
   ((conv in (_[_]?)=>tactic=>exact hc0);(conv=>whnf))
   refine fin _ ?_ _
   by_cases h:t=tag
   ·subst h;exact elemC_hd (h1:=0) (n:=0) (ok:=false) rfl (fun hh=>by cases hh.1)
   ·exact elemC_ne h
  | t::y::r,hc0,hll =>
   have hll:r.length+2≤140737488355328:=hll
   refine ⟨fun h=>absurd h (by simp;omega),fun _=>?_⟩
   conv=>whnf
   have i0:(0:Int)≤0∧(0:Int)<(((t::y::r).length:Nat):Int):=⟨by decide,by simp;omega⟩
   have i1:(0:Int)≤1∧(1:Int)<(((t::y::r).length:Nat):Int):=⟨by decide,by simp;omega⟩
   refine ⟨i0,[bC t],at1 (k:=0*1) rfl,?_⟩
   conv=>whnf
   refine ⟨fun ht=>?_,fun ht=>?_⟩
   rotate_left
   ·have ht:¬t=tag:=fun e=>ht (show (t.toNat:Int)=(tag.toNat:Int) by rw [e])
    conv=>whnf
    ((conv in (_[_]?)=>tactic=>exact hc0);(conv=>whnf))
    exact fin _ (elemC_ne ht) _
   have ht:t=tag:=by
    have ht:(t.toNat:Int)=(tag.toNat:Int):=ht
    exact UInt8.toNat_inj.1 (by omega)
   subst ht
   conv=>whnf
   refine ⟨i1,[bC y],at1 (k:=1*1) rfl,?_⟩
   conv=>whnf
   refine ⟨i1,[bC y],at1 (k:=1*1) rfl,?_⟩
   conv=>whnf
   refine ⟨fun h6=>?_,fun h6=>?_⟩
   ·have h6:(y.toNat:Int)=129:=h6
    conv=>whnf
    match r,hc0,hll,i0,i1 with
    | [],hc0,hll,i0,i1 =>
     refine ⟨fun h=>absurd h (by show ¬((2:Nat):Int) ≥ 3;decide),fun _=>?_⟩
     conv=>whnf
     refine ⟨i1,[bC y],at1 (k:=1*1) rfl,?_⟩
     conv=>whnf
     refine ⟨fun h=>absurd (show (y.toNat:Int)=130 from h) (by omega),fun _=>?_⟩
     conv=>whnf
     refine ⟨i1,[bC y],at1 (k:=1*1) rfl,?_⟩
     conv=>whnf
     refine ⟨fun _=>?_,fun h=>absurd (show (128:Int)≤(y.toNat:Int) by omega) h⟩
     conv=>whnf
     ((conv in (_[_]?)=>tactic=>exact hc0);(conv=>whnf))
     exact fin _ (elemC_f (head_bad y [] (by omega) (fun hh=>hh.2 rfl) (fun hh=>by omega))) _
    | z::r,hc0,hll,i0,i1 =>
     have i2:(0:Int)≤2∧(2:Int)<(((t::y::z::r).length:Nat):Int):=⟨by decide,by simp;omega⟩
     have hll:r.length+1+2≤140737488355328:=hll
     refine ⟨fun _=>?_,fun h=>absurd (show (((t::y::z::r).length:Nat):Int) ≥ 3 by simp;omega) h⟩
     conv=>whnf
     refine ⟨i2,[bC z],at1 (k:=2*1) rfl,?_⟩
     conv=>whnf
     have hz:=z.toNat_lt
     rw [show IntKind.i64.wrap (z.toNat:Int)=(z.toNat:Int) from wrapB1 z]
     have hd0:=head_81 y z r (by omega)
     have hL:(((t::y::z::r).length:Nat):Int)=(((y::z::r).length+1:Nat):Int):=rfl
     have hl2:2≤(y::z::r).length:=by simp <;> omega
     have hl3:(y::z::r).length≤140737488355327:=by simp <;> omega
     have hnw:IntKind.i64.wrap ((((t::y::z::r).length:Nat):Int) - 3)=(((t::y::z::r).length:Nat):Int) - 3:=by rw [w64 (by omega) (by omega)]
     have hn:z.toNat≤65535:=by omega
     refine ⟨fun hg=>?_,fun hg=>?_⟩
     ·have hg:((z.toNat:Nat):Int) > IntKind.i64.wrap ((((t::y::z::r).length:Nat):Int) - 3):=hg
      rw [hnw,hL] at hg
      conv=>whnf
      ((conv in (_[_]?)=>tactic=>exact hc0);(conv=>whnf))
      by_cases hz8:128≤z.toNat
      ·exact fin _ (elemC_hd (hd0.trans (zqp hz8)) (fun hh=>by have:=hh.2;omega)) _
      ·exact fin _ (elemC_f (by rw [hd0,zqo hz8])) _
     have hg:¬((z.toNat:Nat):Int) > IntKind.i64.wrap ((((t::y::z::r).length:Nat):Int) - 3):=hg
     rw [hnw,hL] at hg
     conv=>whnf
     refine cP (c147 (z.toNat)) ?_
     conv=>whnf
     have ew:IntKind.i64.wrap (3 - 1)=2:=by decide
     refine ⟨fun hs=>?_,fun hs=>?_⟩
     rotate_left
     ·have hs:¬(((lenB (z.toNat)).length:Nat):Int)=IntKind.i64.wrap (3 - 1):=hs
      rw [ew] at hs
      conv=>whnf
      ((conv in (_[_]?)=>tactic=>exact hc0);(conv=>whnf))
      have hz8:¬128≤z.toNat:=fun h8=>hs (by rw [lenB_2 h8 hz];rfl)
      exact fin _ (elemC_f (by rw [hd0,zqo hz8])) _
     have hs:(((lenB (z.toNat)).length:Nat):Int)=IntKind.i64.wrap (3 - 1):=hs
     rw [ew] at hs
     have hz8:128≤z.toNat:=Nat.le_of_not_lt fun h8=>by rw [lenB_1 h8] at hs;exact absurd hs (by decide)
     conv=>whnf
     have haw:IntKind.i64.wrap (3+((z.toNat:Nat):Int))=((3+(z.toNat):Nat):Int):=by rw [w64 (by omega) (by omega)];omega
     have hfit:2+(z.toNat)≤(y::z::r).length:=by omega
     refine ⟨⟨by show (0:Int)≤IntKind.i64.wrap (3+((z.toNat:Nat):Int));rw [haw];omega,by show IntKind.i64.wrap (3+((z.toNat:Nat):Int))≤(((t::y::z::r).length:Nat):Int);rw [haw];omega,by show (((t::y::z::r).length:Nat):Int)≤(((t::y::z::r).length:Nat):Int);omega⟩,?_⟩
     conv=>whnf
     ((conv in (_[_]?)=>tactic=>exact hc0);(conv=>whnf))
     refine ⟨⟨by decide,by show (3:Int)≤IntKind.i64.wrap (3+((z.toNat:Nat):Int));rw [haw];omega,by show IntKind.i64.wrap (3+((z.toNat:Nat):Int))≤(((t::y::z::r).length:Nat):Int);rw [haw];omega⟩,?_⟩
     conv=>whnf
     have e1:=sl_cut (t::y::z::r) 3 (IntKind.i64.wrap (3+((z.toNat:Nat):Int))) ⟨by decide,by rw [haw];omega,by rw [haw];omega⟩
     have e2:=sl_cut (t::y::z::r) (IntKind.i64.wrap (3+((z.toNat:Nat):Int))) (((t::y::z::r).length:Nat):Int) ⟨by rw [haw];omega,by rw [haw];omega,by omega⟩
     have f1:((t::y::z::r).take (IntKind.i64.wrap (3+((z.toNat:Nat):Int))).toNat).drop (3:Int).toNat=((y::z::r).drop 2).take (z.toNat):=by
      rw [haw,Int.toNat_natCast,List.drop_take]
      show ((t::y::z::r).drop 3).take (3+(z.toNat) - 3)=_
      rw [show 3+(z.toNat) - 3=z.toNat by omega];rfl
     have f2:((t::y::z::r).take (((t::y::z::r).length:Nat):Int).toNat).drop (IntKind.i64.wrap (3+((z.toNat:Nat):Int))).toNat=(y::z::r).drop (2+(z.toNat)):=by
      rw [haw,Int.toNat_natCast,Int.toNat_natCast,List.take_length,show 3+(z.toNat)=(2+(z.toNat))+1 by omega];rfl
     have hel:=elemC_hy (t:=t) (hd0.trans (zqp hz8)) hfit
     rw [hel]
     exact ⟨⟨none,e1.trans (by rw [f1];rfl)⟩,((Upd.refl H).set (X:=(·=c)) (.inl rfl) _),_,v+1,(gS hc0).trans (zqm (fun x=>some (PObj.mk 128 [x,.bool false] (v+1))) (e2.trans (by rw [f2]))),fun l h=>Option.some.inj h⟩
   have h6:¬(y.toNat:Int)=129:=h6
   conv=>whnf
   refine ⟨i1,[bC y],at1 (k:=1*1) rfl,?_⟩
   conv=>whnf
   refine ⟨fun h8=>?_,fun h8=>?_⟩
   ·have h8:(y.toNat:Int)=130:=h8
    conv=>whnf
    match r,hc0,hll,i0,i1 with
    | [],hc0,hll,i0,i1 =>
     refine ⟨fun h=>absurd h (by show ¬((2:Nat):Int) ≥ 4;decide),fun _=>?_⟩
     conv=>whnf
     refine ⟨i1,[bC y],at1 (k:=1*1) rfl,?_⟩
     conv=>whnf
     refine ⟨fun _=>?_,fun h=>absurd (show (128:Int)≤(y.toNat:Int) by omega) h⟩
     conv=>whnf
     ((conv in (_[_]?)=>tactic=>exact hc0);(conv=>whnf))
     exact fin _ (elemC_f (head_bad y [] (by omega) (fun hh=>by omega) (fun hh=>absurd hh.2 (by decide)))) _
    | [z],hc0,hll,i0,i1 =>
     refine ⟨fun h=>absurd h (by show ¬((3:Nat):Int) ≥ 4;decide),fun _=>?_⟩
     conv=>whnf
     refine ⟨i1,[bC y],at1 (k:=1*1) rfl,?_⟩
     conv=>whnf
     refine ⟨fun _=>?_,fun h=>absurd (show (128:Int)≤(y.toNat:Int) by omega) h⟩
     conv=>whnf
     ((conv in (_[_]?)=>tactic=>exact hc0);(conv=>whnf))
     exact fin _ (elemC_f (head_bad y [z] (by omega) (fun hh=>by omega) (fun hh=>absurd hh.2 (by show ¬2≤1;decide)))) _
    | z::w::r,hc0,hll,i0,i1 =>
     have i2:(0:Int)≤2∧(2:Int)<(((t::y::z::w::r).length:Nat):Int):=⟨by decide,by simp;omega⟩
     have i3:(0:Int)≤3∧(3:Int)<(((t::y::z::w::r).length:Nat):Int):=⟨by decide,by simp;omega⟩
     have hll:r.length+1+1+2≤140737488355328:=hll
     have hz:=z.toNat_lt
     have hw:=w.toNat_lt
     refine ⟨fun _=>?_,fun h=>absurd (show (((t::y::z::w::r).length:Nat):Int) ≥ 4 by simp;omega) h⟩
     conv=>whnf
     refine dP2 (by kernel_rfl) ?_
     conv=>whnf
     (refine dS ?_;(conv=>whnf))
     refine ⟨.elem [bC z],⟨i2,[bC z],at1 (k:=2*1) rfl,rfl,rfl,zqv⟩,?_⟩
     conv=>whnf
     iterate 2 (refine dS ?_;(conv=>whnf))
     refine ⟨_,⟨by decide,rfl,rfl,zqv⟩,?_⟩
     conv=>whnf
     (refine dS ?_;(conv=>whnf))
     refine ⟨.elem [bC w],⟨i3,[bC w],at1 (k:=3*1) rfl,rfl,rfl,zqv⟩,?_⟩
     conv=>whnf
     iterate 5 (refine dS ?_;(conv=>whnf))
     have hor:ibits .or .i64 (ishl .i64 (IntKind.i64.wrap (z.toNat:Int)) 8) (IntKind.i64.wrap (w.toNat:Int))=(((z.toNat*256+w.toNat):Nat):Int):=by
      rw [ishl8,wrapB1,wrapB1,w64 (by omega) (by omega)]
      exact or8 z.toNat w.toNat (by omega) hw
     rw [hor]
     have hd0:=head_82 y z w r (by omega)
     have hL:(((t::y::z::w::r).length:Nat):Int)=(((y::z::w::r).length+1:Nat):Int):=rfl
     have hl2:3≤(y::z::w::r).length:=by simp <;> omega
     have hl3:(y::z::w::r).length≤140737488355327:=by simp <;> omega
     have hnw:IntKind.i64.wrap ((((t::y::z::w::r).length:Nat):Int) - 4)=(((t::y::z::w::r).length:Nat):Int) - 4:=by rw [w64 (by omega) (by omega)]
     have hn:(z.toNat*256+w.toNat)≤65535:=by omega
     refine ⟨fun hg=>?_,fun hg=>?_⟩
     ·have hg:(((z.toNat*256+w.toNat):Nat):Int) > IntKind.i64.wrap ((((t::y::z::w::r).length:Nat):Int) - 4):=hg
      rw [hnw,hL] at hg
      conv=>whnf
      ((conv in (_[_]?)=>tactic=>exact hc0);(conv=>whnf))
      by_cases hz8:0<z.toNat
      ·exact fin _ (elemC_hd (hd0.trans (zqp hz8)) (fun hh=>by have:=hh.2;omega)) _
      ·exact fin _ (elemC_f (by rw [hd0,zqo hz8])) _
     have hg:¬(((z.toNat*256+w.toNat):Nat):Int) > IntKind.i64.wrap ((((t::y::z::w::r).length:Nat):Int) - 4):=hg
     rw [hnw,hL] at hg
     conv=>whnf
     refine cP (c147 ((z.toNat*256+w.toNat))) ?_
     conv=>whnf
     have ew:IntKind.i64.wrap (4 - 1)=3:=by decide
     refine ⟨fun hs=>?_,fun hs=>?_⟩
     rotate_left
     ·have hs:¬(((lenB ((z.toNat*256+w.toNat))).length:Nat):Int)=IntKind.i64.wrap (4 - 1):=hs
      rw [ew] at hs
      conv=>whnf
      ((conv in (_[_]?)=>tactic=>exact hc0);(conv=>whnf))
      have hz8:¬0<z.toNat:=fun h8=>hs (by rw [lenB_3 (by omega)];rfl)
      exact fin _ (elemC_f (by rw [hd0,zqo hz8])) _
     have hs:(((lenB ((z.toNat*256+w.toNat))).length:Nat):Int)=IntKind.i64.wrap (4 - 1):=hs
     rw [ew] at hs
     have hz8:0<z.toNat:=Nat.pos_of_ne_zero fun h0=>by
      have h9:(lenB (z.toNat*256+w.toNat)).length≤2:=by
       by_cases h7:w.toNat<128
       ·rw [lenB_1 (by omega)];decide
       ·rw [lenB_2 (by omega) (by omega)];decide
      omega
     conv=>whnf
     have haw:IntKind.i64.wrap (4+(((z.toNat*256+w.toNat):Nat):Int))=((4+((z.toNat*256+w.toNat)):Nat):Int):=by rw [w64 (by omega) (by omega)];omega
     have hfit:3+((z.toNat*256+w.toNat))≤(y::z::w::r).length:=by omega
     refine ⟨⟨by show (0:Int)≤IntKind.i64.wrap (4+(((z.toNat*256+w.toNat):Nat):Int));rw [haw];omega,by show IntKind.i64.wrap (4+(((z.toNat*256+w.toNat):Nat):Int))≤(((t::y::z::w::r).length:Nat):Int);rw [haw];omega,by show (((t::y::z::w::r).length:Nat):Int)≤(((t::y::z::w::r).length:Nat):Int);omega⟩,?_⟩
     conv=>whnf
     ((conv in (_[_]?)=>tactic=>exact hc0);(conv=>whnf))
     refine ⟨⟨by decide,by show (4:Int)≤IntKind.i64.wrap (4+(((z.toNat*256+w.toNat):Nat):Int));rw [haw];omega,by show IntKind.i64.wrap (4+(((z.toNat*256+w.toNat):Nat):Int))≤(((t::y::z::w::r).length:Nat):Int);rw [haw];omega⟩,?_⟩
     conv=>whnf
     have e1:=sl_cut (t::y::z::w::r) 4 (IntKind.i64.wrap (4+(((z.toNat*256+w.toNat):Nat):Int))) ⟨by decide,by rw [haw];omega,by rw [haw];omega⟩
     have e2:=sl_cut (t::y::z::w::r) (IntKind.i64.wrap (4+(((z.toNat*256+w.toNat):Nat):Int))) (((t::y::z::w::r).length:Nat):Int) ⟨by rw [haw];omega,by rw [haw];omega,by omega⟩
     have f1:((t::y::z::w::r).take (IntKind.i64.wrap (4+(((z.toNat*256+w.toNat):Nat):Int))).toNat).drop (4:Int).toNat=((y::z::w::r).drop 3).take ((z.toNat*256+w.toNat)):=by
      rw [haw,Int.toNat_natCast,List.drop_take]
      show ((t::y::z::w::r).drop 4).take (4+((z.toNat*256+w.toNat)) - 4)=_
      rw [show 4+((z.toNat*256+w.toNat)) - 4=(z.toNat*256+w.toNat) by omega];rfl
     have f2:((t::y::z::w::r).take (((t::y::z::w::r).length:Nat):Int).toNat).drop (IntKind.i64.wrap (4+(((z.toNat*256+w.toNat):Nat):Int))).toNat=(y::z::w::r).drop (3+((z.toNat*256+w.toNat))):=by
      rw [haw,Int.toNat_natCast,Int.toNat_natCast,List.take_length,show 4+((z.toNat*256+w.toNat))=(3+((z.toNat*256+w.toNat)))+1 by omega];rfl
     have hel:=elemC_hy (t:=t) (hd0.trans (zqp hz8)) hfit
     rw [hel]
     exact ⟨⟨none,e1.trans (by rw [f1];rfl)⟩,((Upd.refl H).set (X:=(·=c)) (.inl rfl) _),_,v+1,(gS hc0).trans (zqm (fun x=>some (PObj.mk 128 [x,.bool false] (v+1))) (e2.trans (by rw [f2]))),fun l h=>Option.some.inj h⟩
   have h8:¬(y.toNat:Int)=130:=h8
   conv=>whnf
   refine ⟨i1,[bC y],at1 (k:=1*1) rfl,?_⟩
   conv=>whnf
   refine ⟨fun h9=>?_,fun h9=>?_⟩
   ·have h9:(128:Int)≤(y.toNat:Int):=h9
    conv=>whnf
    ((conv in (_[_]?)=>tactic=>exact hc0);(conv=>whnf))
    exact fin _ (elemC_f (head_bad y r (by omega) (fun hh=>by omega) (fun hh=>by omega))) _
   have h9:¬(128:Int)≤(y.toNat:Int):=h9
   conv=>whnf
   have hy:=y.toNat_lt
   rw [show IntKind.i64.wrap (y.toNat:Int)=(y.toNat:Int) from wrapB1 y]
   have hd0:=head_lt y r (by omega)
   have hL:(((t::y::r).length:Nat):Int)=(((y::r).length+1:Nat):Int):=rfl
   have hl2:1≤(y::r).length:=by simp <;> omega
   have hl3:(y::r).length≤140737488355327:=by simp <;> omega
   have hnw:IntKind.i64.wrap ((((t::y::r).length:Nat):Int) - 2)=(((t::y::r).length:Nat):Int) - 2:=by rw [w64 (by omega) (by omega)]
   have hn:y.toNat≤65535:=by omega
   refine ⟨fun hg=>?_,fun hg=>?_⟩
   ·have hg:((y.toNat:Nat):Int) > IntKind.i64.wrap ((((t::y::r).length:Nat):Int) - 2):=hg
    rw [hnw,hL] at hg
    conv=>whnf
    ((conv in (_[_]?)=>tactic=>exact hc0);(conv=>whnf))
    exact fin _ (elemC_hd (hd0) (fun hh=>by have:=hh.2;omega)) _
   have hg:¬((y.toNat:Nat):Int) > IntKind.i64.wrap ((((t::y::r).length:Nat):Int) - 2):=hg
   rw [hnw,hL] at hg
   conv=>whnf
   refine cP (c147 (y.toNat)) ?_
   conv=>whnf
   have ew:IntKind.i64.wrap (2 - 1)=1:=by decide
   refine ⟨fun hs=>?_,fun hs=>?_⟩
   rotate_left
   ·have hs:¬(((lenB (y.toNat)).length:Nat):Int)=IntKind.i64.wrap (2 - 1):=hs
    rw [ew] at hs
    conv=>whnf
    ((conv in (_[_]?)=>tactic=>exact hc0);(conv=>whnf))
    exact absurd (by rw [lenB_1 (by omega)];rfl) hs
   have hs:(((lenB (y.toNat)).length:Nat):Int)=IntKind.i64.wrap (2 - 1):=hs
   rw [ew] at hs
   skip
   conv=>whnf
   have haw:IntKind.i64.wrap (2+((y.toNat:Nat):Int))=((2+(y.toNat):Nat):Int):=by rw [w64 (by omega) (by omega)];omega
   have hfit:1+(y.toNat)≤(y::r).length:=by omega
   refine ⟨⟨by show (0:Int)≤IntKind.i64.wrap (2+((y.toNat:Nat):Int));rw [haw];omega,by show IntKind.i64.wrap (2+((y.toNat:Nat):Int))≤(((t::y::r).length:Nat):Int);rw [haw];omega,by show (((t::y::r).length:Nat):Int)≤(((t::y::r).length:Nat):Int);omega⟩,?_⟩
   conv=>whnf
   ((conv in (_[_]?)=>tactic=>exact hc0);(conv=>whnf))
   refine ⟨⟨by decide,by show (2:Int)≤IntKind.i64.wrap (2+((y.toNat:Nat):Int));rw [haw];omega,by show IntKind.i64.wrap (2+((y.toNat:Nat):Int))≤(((t::y::r).length:Nat):Int);rw [haw];omega⟩,?_⟩
   conv=>whnf
   have e1:=sl_cut (t::y::r) 2 (IntKind.i64.wrap (2+((y.toNat:Nat):Int))) ⟨by decide,by rw [haw];omega,by rw [haw];omega⟩
   have e2:=sl_cut (t::y::r) (IntKind.i64.wrap (2+((y.toNat:Nat):Int))) (((t::y::r).length:Nat):Int) ⟨by rw [haw];omega,by rw [haw];omega,by omega⟩
   have f1:((t::y::r).take (IntKind.i64.wrap (2+((y.toNat:Nat):Int))).toNat).drop (2:Int).toNat=((y::r).drop 1).take (y.toNat):=by
    rw [haw,Int.toNat_natCast,List.drop_take]
    show ((t::y::r).drop 2).take (2+(y.toNat) - 2)=_
    rw [show 2+(y.toNat) - 2=y.toNat by omega];rfl
   have f2:((t::y::r).take (((t::y::r).length:Nat):Int).toNat).drop (IntKind.i64.wrap (2+((y.toNat:Nat):Int))).toNat=(y::r).drop (1+(y.toNat)):=by
    rw [haw,Int.toNat_natCast,Int.toNat_natCast,List.take_length,show 2+(y.toNat)=(1+(y.toNat))+1 by omega];rfl
   have hel:=elemC_hy (t:=t) (hd0) hfit
   rw [hel]
   exact ⟨⟨none,e1.trans (by rw [f1];rfl)⟩,((Upd.refl H).set (X:=(·=c)) (.inl rfl) _),_,v+1,(gS hc0).trans (zqm (fun x=>some (PObj.mk 128 [x,.bool false] (v+1))) (e2.trans (by rw [f2]))),fun l h=>Option.some.inj h⟩
theorem elemC_both (tag:UInt8) (s:Option (List UInt8)):(elemC tag s).1.isNone=(elemC tag s).2.isNone:=by
 cases s with
 | none=>rfl
 | some l =>
  have e:elemC tag (some l)=(match elemB tag l with | none=>(none,none) | some (x,r)=>(some r,some x)):=rfl
  rw [e]
  cases elemB tag l with
  | none=>rfl
  | some p=>rfl
theorem c97s (c:Nat) (tag:UInt8) (s:Option (List UInt8)) (H:PH) (hc:rcur H c s) (hl:∀l,s=some l→l.length≤140737488355328) :
  CK prog 97 [.ptr (some (c,0)),bC tag] H fun r H'=>r=sl ((elemC tag s).2.getD [])∧Upd (·=c) H H'∧rcur H' c (elemC tag s).1 :=
 (c97 c tag s H hc hl).dem fun r H' ⟨⟨o,e⟩,h⟩=>by subst e;exact ⟨(fun cs e=>by cases e),rfl,h⟩
theorem c57 (c:Nat) (s:Option (List UInt8)) (H:PH) (hc:rcur H c s) (hl:∀l,s=some l→l.length≤140737488355328) :
  CK prog 57 [.ptr (some (c,0))] H fun r H'=>r=sl (octC s).2∧Upd (·=c) H H'∧rcur H' c (octC s).1:=by
 (refine fnS (imm:=imm57) ttL_ok func57 ?_;(conv=>whnf))
 refine cO (c97s c 4 s H hc hl) ?_
 rintro _ H1 ⟨rfl,h1,h2⟩
 conv=>whnf
 exact ⟨rfl,h1,h2⟩
theorem c98 (c:Nat) (s:Option (List UInt8)) (H:PH) (hc:rcur H c s) (hl:∀l,s=some l→l.length≤140737488355328) :
  CK prog 98 [.ptr (some (c,0))] H fun r H'=>r=.str (txtC s).2∧Upd (·=c) H H'∧rcur H' c (txtC s).1:=by
 (refine fnS (imm:=imm98) ttL_ok func98 ?_;(conv=>whnf))
 refine cO (c97s c 27 s H hc hl) ?_
 rintro _ H1 ⟨rfl,h1,h2⟩
 conv=>whnf
 refine ⟨_,⟨rfl,rfl⟩,?_⟩
 conv=>whnf
 exact ⟨rfl,h1,h2⟩
theorem c53 (c:Nat) (tag:UInt8) (s:Option (List UInt8)) (H:PH) (hc:rcur H c s) (hl:∀l,s=some l→l.length≤140737488355328) :
  CK prog 53 [.ptr (some (c,0)),bC tag] H fun r H'=>∃d,r=.ptr (some (d,0))∧H.length≤d∧Upd (·=c) H H'∧rcur H' c (elemC tag s).1∧rcur H' d (elemC tag s).2:=by
 (refine fnS (imm:=imm53) ttL_ok func53 ?_;(conv=>whnf))
 refine cO (c97s c tag s H hc hl) ?_
 rintro _ H1 ⟨rfl,h1,h2⟩
 obtain ⟨b,v,hb,_⟩:=id h2
 conv=>whnf
 ((conv in (_[_]?)=>tactic=>exact hb);(conv=>whnf))
 refine ⟨H1.length,rfl,h1.1,h1.push _,h2.keep (X:=fun _=>False) ((Upd.refl H1).push _) (fun f=>f),(elemC tag s).2.getD [],0,?_,fun l hl=>by rw [hl];rfl⟩
 rw [←elemC_both]
 exact gL _ _
def wholeB:Option (List UInt8)→Bool
 | some []=>true
 | _=>false
theorem c99 (c:Nat) (s:Option (List UInt8)) (H:PH) (hc:rcur H c s):CK prog 99 [.ptr (some (c,0))] H fun r H'=>r=.bool (wholeB s)∧H'=H:=by
 obtain ⟨b,v,hb,hx⟩:=hc
 (refine fnS (imm:=imm99) ttL_ok func99 ?_;(conv=>whnf))
 ((conv in (_[_]?)=>tactic=>exact hb);(conv=>whnf))
 cases s with
 | none =>
  conv=>whnf
  exact ⟨rfl,rfl⟩
 | some l =>
  have:=hx l rfl
  subst this
  conv=>whnf
  ((conv in (_[_]?)=>tactic=>exact hb);(conv=>whnf))
  cases b with
  | nil =>
   refine ⟨fun _=>?_,fun h=>absurd rfl h⟩
   conv=>whnf
   exact ⟨rfl,rfl⟩
  | cons x t =>
   refine ⟨fun h=>absurd h (by simp <;> omega),fun _=>?_⟩
   conv=>whnf
   exact ⟨rfl,rfl⟩
def stepR (n:Int) (x:UInt8):Int:=ibits .or .i64 (ishl .i64 n 8) (IntKind.i64.wrap (x.toNat:Int))
def numR (l:List UInt8):Int:=l.foldl stepR 0
def okR (p:List UInt8):Bool:=decide (p≠[])&&(decide (p.length≤9)&&(decide (0≤numR p)&&(decide (numR p≤4611686018427387904)&&decide (intE (numR p)=wrapB 2 p))))
def rintR (s':Option (List UInt8)):Option (List UInt8)→Option (List UInt8)×Int
 | none=>(none,0)
 | some p=>if okR p=true then (s',numR p) else (none,0)
def rintC (s:Option (List UInt8)):Option (List UInt8)×Int:=rintR (elemC 2 s).1 (elemC 2 s).2
theorem numR_fold:∀(l:List UInt8) (a:Nat),l.foldl stepV a≤4611686018427387904→l.foldl stepR (a:Int)=((l.foldl stepV a:Nat):Int)
 | [],a,_=>rfl
 | x::l,a,h=>by
  have h:l.foldl stepV (stepV a x)≤4611686018427387904:=h
  have h1:=fold_ge l (stepV a x)
  have h2:stepV a x=a*256+x.toNat:=rfl
  have hx:=x.toNat_lt
  show l.foldl stepR (stepR (a:Int) x)=((l.foldl stepV (stepV a x):Nat):Int)
  rw [←numR_fold l (stepV a x) h]
  congr 1
  unfold stepR
  rw [ishl8,wrapB1,w64 (by omega) (by omega),show (a:Int)*256=((a*256:Nat):Int) by omega,or8 a x.toNat (by omega) hx,h2]
theorem rintC_wrap (n:Int) (h0:0≤n) (h1:n≤4611686018427387904) (rest:List UInt8):rintC (some (intE n++rest))=(some rest,n):=by
 have hc:clampI n=n.toNat:=by unfold clampI;omega
 obtain ⟨k1,k2,k3⟩:=intB_ok n.toNat (by omega)
 have hw:numR (intB n.toNat)=n:=by
  show (intB n.toNat).foldl stepR ((0:Nat):Int)=n
  have e:(intB n.toNat).foldl stepV 0=n.toNat:=k2
  rw [numR_fold _ 0 (by rw [e];omega),e];omega
 have hok:okR (intB n.toNat)=true:=by
  have hne:intB n.toNat≠[]:=fun e=>by rw [e] at k1;cases k1
  unfold okR
  rw [hw,zqe hne,zqe (show (intB n.toNat).length≤9 by omega),zqe h0,zqe h1]
  unfold intE
  rw [hc,zqe rfl];rfl
 have e:elemC 2 (some (intE n++rest))=(some rest,some (intB n.toNat)):=by
  unfold intE
  rw [hc]
  exact elemC_wrap 2 _ rest (by omega)
 unfold rintC
 rw [e]
 show (if okR (intB n.toNat)=true then (some rest,numR (intB n.toNat)) else (none,0))=_
 rw [zqp hok,hw]
theorem c55 (c:Nat) (s:Option (List UInt8)) (H:PH) (hc:rcur H c s) (hl:∀l,s=some l→l.length≤140737488355328) :
  CK prog 55 [.ptr (some (c,0))] H fun r H'=>r=.int .i64 (rintC s).2∧Upd (·=c) H H'∧rcur H' c (rintC s).1:=by
 (refine fnS (imm:=imm55) ttL_ok func55 ?_;(conv=>whnf))
 refine cO (c97s c 2 s H hc hl) ?_
 rintro _ H1 ⟨rfl,h1,h2⟩
 obtain ⟨b,v,hb,hx⟩:=id h2
 unfold rintC
 have hbo:=elemC_both 2 s
 have hl2:=(elemC_len (tag:=2) hl).2
 revert h2 hb hx hbo hl2
 generalize elemC 2 s=q
 obtain ⟨s',p⟩:=q
 intro h2 hb hx hbo hl2
 have fin:∀q:Option (List UInt8)×Int,q=(none,0)→PV.int .i64 0=PV.int .i64 q.2∧Upd (·=c) H (H1.set c ⟨128,[sl b,.bool true],v+1⟩)∧rcur (H1.set c ⟨128,[sl b,.bool true],v+1⟩) c q.1:=fun q hq=>by
  subst hq
  exact ⟨rfl,h1.set (.inl rfl) _,b,v+1,gS hb,fun l h=>by cases h⟩
 conv=>whnf
 ((conv in (_[_]?)=>tactic=>exact hb);(conv=>whnf))
 cases p with
 | none =>
  cases s' with
  | some _=>cases hbo
  | none =>
   conv=>whnf
   ((conv in (_[_]?)=>tactic=>exact hb);(conv=>whnf))
   exact fin _ rfl
 | some p =>
  cases s' with
  | none=>cases hbo
  | some s' =>
   have hp:=(hl2 p rfl).2
   have hno:okR p=false→rintR (some s') (some p)=(none,0):=fun h=>zqo (by rw [h];decide)
   have hpl:(PV.int .i64 (((some p).getD []:List UInt8).length:Int))=.int .i64 (p.length:Int):=rfl
   conv=>whnf
   refine ⟨fun h=>?_,fun h=>?_⟩
   ·conv=>whnf
    ((conv in (_[_]?)=>tactic=>exact hb);(conv=>whnf))
    have h:(p.length:Int)=0:=h
    have e:p=[]:=List.length_eq_zero_iff.1 (by omega)
    exact fin _ (hno (by rw [e];rfl))
   have h:¬(p.length:Int)=0:=h
   have hne:p≠[]:=fun e=>h (by rw [e];rfl)
   conv=>whnf
   refine ⟨fun h9=>?_,fun h9=>?_⟩
   ·have h9:(p.length:Int) > 9:=h9
    conv=>whnf
    ((conv in (_[_]?)=>tactic=>exact hb);(conv=>whnf))
    exact fin _ (hno (by unfold okR;rw [zqd (show ¬p.length≤9 by omega),zq4,zq3]))
   have h9:¬(p.length:Int) > 9:=h9
   conv=>whnf
   refine lO RwS (fun x=>[(0,.ptr (some (c,0))),(3,sl p),(5,.int .i64 x.i),(4,.int .i64 (numR (p.take x.i)))]) (fun _=>H1) (fun x=>x.i≤p.length) (fun x=>p.length - x.i)
    ⟨⟨0⟩,Nat.zero_le _,⟨rfl,rfl,rfl,rfl,zqv⟩,rfl⟩ ?_
   rintro ⟨i⟩ hi
   have hi:i≤p.length:=hi
   conv=>whnf
   refine ⟨fun h5=>?_,fun h5=>?_⟩
   ·conv=>whnf
    have h5:(i:Int)<(p.length:Int):=h5
    have hlt:i<p.length:=by omega
    refine ⟨by decide,?_⟩
    conv=>whnf
    refine ⟨⟨by show (0:Int)≤(i:Int);omega,h5⟩,[bC p[i]],at1 ?_,?_⟩
    ·show (p.map bC)[(i:Int).toNat*1]? = _
     rw [Int.toNat_natCast,Nat.mul_one,List.getElem?_map,zqc hlt];rfl
    conv=>whnf
    refine ⟨⟨i+1⟩,hlt,⟨rfl,rfl,?_,?_,zqv⟩,rfl,by show p.length - (i+1)<p.length - i;omega⟩
    ·show PV.int _ (IntKind.i64.wrap ((i:Int)+1))=PV.int _ ((i+1:Nat):Int)
     rw [w64 (by omega) (by omega)];rfl
    ·rw [List.take_succ_eq_append_getElem hlt]
     unfold numR
     rw [List.foldl_append]
     rfl
   ·conv=>whnf
    have h5:¬(i:Int)<(p.length:Int):=h5
    rw [List.take_of_length_le (l:=p) (by omega)]
    refine dP2 (by kernel_rfl) ?_
    conv=>whnf
    (refine dS ?_;(conv=>whnf))
    by_cases n0:numR p<0
    ·refine ⟨.bool true,?_,?_⟩
     ·conv=>whnf
      exact ⟨fun _=>⟨rfl,rfl,zqv⟩,fun h=>(h n0).elim⟩
     conv=>whnf
     iterate 13 (refine dS ?_;(conv=>whnf))
     ((conv in (_[_]?)=>tactic=>exact hb);(conv=>whnf))
     exact fin _ (hno (by unfold okR;rw [zqd (show ¬0≤numR p by omega),zq4,zq3,zq3]))
    refine ⟨.bool false,?_,?_⟩
    ·conv=>whnf
     exact ⟨fun h=>(n0 h).elim,fun _=>⟨rfl,rfl,zqv⟩⟩
    conv=>whnf
    iterate 2 (refine dS ?_;(conv=>whnf))
    by_cases n1:numR p > 4611686018427387904
    ·refine ⟨.bool true,?_,?_⟩
     ·conv=>whnf
      exact ⟨fun _=>⟨rfl,rfl,zqv⟩,fun h=>(h n1).elim⟩
     conv=>whnf
     iterate 10 (refine dS ?_;(conv=>whnf))
     ((conv in (_[_]?)=>tactic=>exact hb);(conv=>whnf))
     exact fin _ (hno (by unfold okR;rw [zqd (show ¬numR p≤4611686018427387904 by omega),zq4,zq3,zq3,zq3]))
    refine ⟨.bool false,?_,?_⟩
    ·conv=>whnf
     exact ⟨fun h=>(n1 h).elim,fun _=>⟨rfl,rfl,zqv⟩⟩
    conv=>whnf
    iterate 3 (refine dS ?_;(conv=>whnf))
    refine ⟨_,cP (c65 (numR p)) ⟨rfl,rfl,zqv⟩,?_⟩
    conv=>whnf
    refine ⟨.str (intE (numR p)),⟨intE (numR p),⟨rfl,rfl⟩,rfl,rfl,zqv⟩,?_⟩
    conv=>whnf
    (refine dS ?_;(conv=>whnf))
    refine ⟨_,cP (c100 2 p none (by omega)) ⟨rfl,rfl,zqv⟩,?_⟩
    conv=>whnf
    refine ⟨.str (wrapB 2 p),⟨wrapB 2 p,⟨rfl,rfl⟩,rfl,rfl,zqv⟩,?_⟩
    conv=>whnf
    by_cases n2:intE (numR p)=wrapB 2 p
    ·refine ⟨.bool false,?_,?_⟩
     ·conv=>whnf
      exact ⟨fun _=>⟨rfl,rfl,zqv⟩,fun h=>(h n2).elim⟩
     conv=>whnf
     (refine dS ?_;(conv=>whnf))
     have hyes:rintR (some s') (some p)=(some s',numR p):=zqp (by unfold okR;rw [zqe hne,zqe (show p.length≤9 by omega),zqe (show 0≤numR p by omega),zqe (show numR p≤4611686018427387904 by omega),zqe n2];rfl)
     show _=PV.int .i64 (rintR (some s') (some p)).2∧_∧rcur _ c (rintR (some s') (some p)).1
     rw [hyes]
     exact ⟨rfl,h1,h2⟩
    ·refine ⟨.bool true,?_,?_⟩
     ·conv=>whnf
      exact ⟨fun h=>(n2 h).elim,fun _=>⟨rfl,rfl,zqv⟩⟩
     conv=>whnf
     (refine dS ?_;(conv=>whnf))
     ((conv in (_[_]?)=>tactic=>exact hb);(conv=>whnf))
     exact fin _ (hno (by unfold okR;rw [zqd n2,zq3,zq3,zq3,zq3]))
theorem c64 (r n:List UInt8) (hr:r.length≤1000000) (hn:n.length≤1000000):Pure prog 64 [.agg [.str r,.str n]] (sl (princE r n)):=by
 intro H
 have h1:=wrapB_len 27 r
 have h2:=wrapB_len 27 n
 (refine fnS (imm:=imm64) ttL_ok func64 ?_;(conv=>whnf))
 refine dP2 (by kernel_rfl) ?_
 conv=>whnf
 iterate 2 (refine dS ?_;(conv=>whnf))
 refine ⟨_,cP (c111 r (by omega)) ⟨rfl,rfl,zqv⟩,?_⟩
 conv=>whnf
 iterate 2 (refine dS ?_;(conv=>whnf))
 refine ⟨_,cP (c111 n (by omega)) ⟨rfl,rfl,zqv⟩,?_⟩
 conv=>whnf
 (refine dS ?_;(conv=>whnf))
 refine ⟨_,cP (c63 48 [wrapB 27 r,wrapB 27 n] (by simp) (by simp only [zqk,zql,zqf,List.length_nil];omega)) ⟨rfl,rfl,zqv⟩,?_⟩
 conv=>whnf
 (refine dS ?_;(conv=>whnf))
 exact ⟨rfl,rfl⟩
theorem c66 (r n:List UInt8) (kv:Int) (b:List UInt8) (o:Option Nat) (hr:r.length≤1000000) (hn:n.length≤1000000) (hb:b.length≤1000000):Pure prog 66 [.agg [.str r,.str n,.int .i64 kv,slo b o]] (sl (ticketE r n kv b)):=by
 intro H
 have h1:=princE_len r n
 have h2:=intE_len kv
 have h3:=wrapB_len 4 b
 (refine fnS (imm:=imm66) ttL_ok func66 ?_;(conv=>whnf))
 refine dP2 (by kernel_rfl) ?_
 conv=>whnf
 iterate 2 (refine dS ?_;(conv=>whnf))
 refine ⟨_,cP (c64 r n hr hn) ⟨rfl,rfl,zqv⟩,?_⟩
 conv=>whnf
 iterate 2 (refine dS ?_;(conv=>whnf))
 refine ⟨_,cP (c65 kv) ⟨rfl,rfl,zqv⟩,?_⟩
 conv=>whnf
 iterate 2 (refine dS ?_;(conv=>whnf))
 refine ⟨_,cP (c67 b none (by omega)) ⟨rfl,rfl,zqv⟩,?_⟩
 conv=>whnf
 (refine dS ?_;(conv=>whnf))
 refine ⟨_,cP (c63 97 [princE r n,intE kv,wrapB 4 b] (by simp) (by simp only [zqk,zql,zqf,List.length_nil];omega)) ⟨rfl,rfl,zqv⟩,?_⟩
 conv=>whnf
 (refine dS ?_;(conv=>whnf))
 exact ⟨rfl,rfl⟩
theorem c62 (b:List UInt8) (hb:b.length≤2000):Pure prog 62 [sl b] (.tup [sl b,.int .i64 0]):=by
 intro H
 (refine fnS (imm:=imm62) ttL_ok func62 ?_;(conv=>whnf))
 refine ⟨fun h=>absurd (show (2000:Int)<(b.length:Int) from h) (by omega),fun h=>?_⟩
 conv=>whnf
 exact ⟨rfl,rfl⟩
theorem encV_is {m:Msg} (h:isB m=true) (hl:(laidB m).length≤2000):encV m=.tup [sl (laidB m),.int .i64 0]:=zqp ⟨h,hl⟩
theorem c24x (m:Msg) (hm:m.fits) (H:PH):CK prog 24 [.agg m.cells] H fun r H'=>r=encV m∧∃ext,H'=H++ext:=by
 (refine fnS (imm:=imm24) ttL_ok func24 ?_;(conv=>whnf))
 refine cP ((c61 m.d hm).of_eq (show PV.bool (isB m.d)=.bool (isB m) from rfl)) ?_
 cases hb:isB m
 ·conv=>whnf
  exact ⟨(encV_no (fun hh=>by rw [hb] at hh;cases hh.1)).symm,Ext.refl _⟩
 have hm:=(zqb _ _▸hb:_∧_).1
 conv=>whnf
 by_cases h1:m.kind=1
 ·have hk:=h1
  have n2:¬m.kind=2:=by omega
  have n3:¬m.kind=3:=by omega
  have n4:¬m.kind=4:=by omega
  have n5:¬m.kind=5:=by omega
  refine ⟨fun h=>?_,fun h=>?_⟩
  rotate_left
  ·exact (h hk).elim
  conv=>whnf
  rw [zqp hk] at hm
  simp only [zqb] at hm
  have g1:=princ_len hm.1.1.1
  have g2:=princ_len hm.1.1.2
  have e0:=princE_len m.a1 m.a2
  have e1:=princE_len m.a3 m.a4
  have e2:=intE_len m.aTill
  have e3:=intE_len m.aNonce
  have hw:=wrapB_len 106 [princE m.a1 m.a2,princE m.a3 m.a4,intE m.aTill,intE m.aNonce].flatten
  simp only [zqk,zql,zqf,List.length_nil] at hw
  have hlen:(wrapB 106 [princE m.a1 m.a2,princE m.a3 m.a4,intE m.aTill,intE m.aNonce].flatten).length≤2000:=by simp only [zqk,zql];omega
  have hl:laidB m=wrapB 106 [princE m.a1 m.a2,princE m.a3 m.a4,intE m.aTill,intE m.aNonce].flatten:=by unfold laidB;rw [zqp hk]
  ((conv in (_[_]?)=>tactic=>exact gL _ _);(conv=>whnf))
  refine dP2 (by kernel_rfl) ?_
  conv=>whnf
  (refine dS ?_;(conv=>whnf))
  apply exA
  focus
   conv=>whnf
   ((conv in (_[_]?)=>tactic=>exact gS (gL _ _));(conv=>whnf))
   exact ⟨rfl,rfl,zqv⟩
  conv=>whnf
  refine ⟨_,cP (c64 m.a1 m.a2 (by omega) (by omega)) ⟨rfl,rfl,zqv⟩,?_⟩
  conv=>whnf
  (refine dS ?_;(conv=>whnf))
  apply exA
  focus
   conv=>whnf
   ((conv in (_[_]?)=>tactic=>exact gS (gL _ _));(conv=>whnf))
   exact ⟨rfl,rfl,zqv⟩
  conv=>whnf
  refine ⟨_,cP (c64 m.a3 m.a4 (by omega) (by omega)) ⟨rfl,rfl,zqv⟩,?_⟩
  conv=>whnf
  (refine dS ?_;(conv=>whnf))
  apply exA
  focus
   conv=>whnf
   ((conv in (_[_]?)=>tactic=>exact gS (gL _ _));(conv=>whnf))
   exact ⟨rfl,rfl,zqv⟩
  conv=>whnf
  refine ⟨_,cP (c65 m.aTill) ⟨rfl,rfl,zqv⟩,?_⟩
  conv=>whnf
  (refine dS ?_;(conv=>whnf))
  apply exA
  focus
   conv=>whnf
   ((conv in (_[_]?)=>tactic=>exact gS (gL _ _));(conv=>whnf))
   exact ⟨rfl,rfl,zqv⟩
  conv=>whnf
  refine ⟨_,cP (c65 m.aNonce) ⟨rfl,rfl,zqv⟩,?_⟩
  conv=>whnf
  (refine dS ?_;(conv=>whnf))
  refine ⟨_,cP (c63 106 [princE m.a1 m.a2,princE m.a3 m.a4,intE m.aTill,intE m.aNonce] (by simp) (by simp only [zqk,zql,zqf,List.length_nil];omega)) ⟨rfl,rfl,zqv⟩,?_⟩
  conv=>whnf
  refine ⟨_,cP (c62 _ hlen) ⟨rfl,rfl,zqv⟩,?_⟩
  conv=>whnf
  iterate 4 (refine dS ?_;(conv=>whnf))
  exact ⟨(by rw [encV_is hb (by rw [hl];exact hlen),hl] <;> rfl),(Ext.refl _).push _ |>.set (Ext.refl _).len _⟩
 by_cases h2:m.kind=2
 ·have hk:=h2
  have n1:¬m.kind=1:=by omega
  have n3:¬m.kind=3:=by omega
  have n4:¬m.kind=4:=by omega
  have n5:¬m.kind=5:=by omega
  refine ⟨fun h=>?_,fun h=>?_⟩
  ·exact (n1 h).elim
  conv=>whnf
  refine ⟨fun h=>?_,fun h=>?_⟩
  rotate_left
  ·exact (h hk).elim
  conv=>whnf
  rw [zqo n1] at hm
  rw [zqp hk] at hm
  simp only [zqb] at hm
  have g1:=tick_len hm.1.1.1.1
  have g2:=inZ_le hm.1.1.1.2
  have g3:=princ_len hm.1.1.2
  have e0:=ticketE_len m.t1 m.t2 m.tKv m.tB
  have e1:=wrapB_len 4 m.tAu
  have e2:=princE_len m.t3 m.t4
  have e3:=intE_len m.tTill
  have e4:=intE_len m.tNonce
  have hw:=wrapB_len 108 [ticketE m.t1 m.t2 m.tKv m.tB,wrapB 4 m.tAu,princE m.t3 m.t4,intE m.tTill,intE m.tNonce].flatten
  simp only [zqk,zql,zqf,List.length_nil] at hw
  have hlen:(wrapB 108 [ticketE m.t1 m.t2 m.tKv m.tB,wrapB 4 m.tAu,princE m.t3 m.t4,intE m.tTill,intE m.tNonce].flatten).length≤2000:=by simp only [zqk,zql];omega
  have hl:laidB m=wrapB 108 [ticketE m.t1 m.t2 m.tKv m.tB,wrapB 4 m.tAu,princE m.t3 m.t4,intE m.tTill,intE m.tNonce].flatten:=by unfold laidB;rw [zqo n1];rw [zqp hk]
  ((conv in (_[_]?)=>tactic=>exact gL _ _);(conv=>whnf))
  refine dP2 (by kernel_rfl) ?_
  conv=>whnf
  (refine dS ?_;(conv=>whnf))
  apply exA
  focus
   conv=>whnf
   ((conv in (_[_]?)=>tactic=>exact gS (gL _ _));(conv=>whnf))
   exact ⟨rfl,rfl,zqv⟩
  conv=>whnf
  refine ⟨_,cP (c66 m.t1 m.t2 m.tKv m.tB none (by omega) (by omega) (by omega)) ⟨rfl,rfl,zqv⟩,?_⟩
  conv=>whnf
  (refine dS ?_;(conv=>whnf))
  apply exA
  focus
   conv=>whnf
   ((conv in (_[_]?)=>tactic=>exact gS (gL _ _));(conv=>whnf))
   exact ⟨rfl,rfl,zqv⟩
  conv=>whnf
  refine ⟨_,cP (c67 m.tAu none (by omega)) ⟨rfl,rfl,zqv⟩,?_⟩
  conv=>whnf
  (refine dS ?_;(conv=>whnf))
  apply exA
  focus
   conv=>whnf
   ((conv in (_[_]?)=>tactic=>exact gS (gL _ _));(conv=>whnf))
   exact ⟨rfl,rfl,zqv⟩
  conv=>whnf
  refine ⟨_,cP (c64 m.t3 m.t4 (by omega) (by omega)) ⟨rfl,rfl,zqv⟩,?_⟩
  conv=>whnf
  (refine dS ?_;(conv=>whnf))
  apply exA
  focus
   conv=>whnf
   ((conv in (_[_]?)=>tactic=>exact gS (gL _ _));(conv=>whnf))
   exact ⟨rfl,rfl,zqv⟩
  conv=>whnf
  refine ⟨_,cP (c65 m.tTill) ⟨rfl,rfl,zqv⟩,?_⟩
  conv=>whnf
  (refine dS ?_;(conv=>whnf))
  apply exA
  focus
   conv=>whnf
   ((conv in (_[_]?)=>tactic=>exact gS (gL _ _));(conv=>whnf))
   exact ⟨rfl,rfl,zqv⟩
  conv=>whnf
  refine ⟨_,cP (c65 m.tNonce) ⟨rfl,rfl,zqv⟩,?_⟩
  conv=>whnf
  (refine dS ?_;(conv=>whnf))
  refine ⟨_,cP (c63 108 [ticketE m.t1 m.t2 m.tKv m.tB,wrapB 4 m.tAu,princE m.t3 m.t4,intE m.tTill,intE m.tNonce] (by simp) (by simp only [zqk,zql,zqf,List.length_nil];omega)) ⟨rfl,rfl,zqv⟩,?_⟩
  conv=>whnf
  refine ⟨_,cP (c62 _ hlen) ⟨rfl,rfl,zqv⟩,?_⟩
  conv=>whnf
  iterate 4 (refine dS ?_;(conv=>whnf))
  exact ⟨(by rw [encV_is hb (by rw [hl];exact hlen),hl] <;> rfl),(Ext.refl _).push _ |>.set (Ext.refl _).len _⟩
 by_cases h3:m.kind=3
 ·have hk:=h3
  have n1:¬m.kind=1:=by omega
  have n2:¬m.kind=2:=by omega
  have n4:¬m.kind=4:=by omega
  have n5:¬m.kind=5:=by omega
  refine ⟨fun h=>?_,fun h=>?_⟩
  ·exact (n1 h).elim
  conv=>whnf
  refine ⟨fun h=>?_,fun h=>?_⟩
  ·exact (n2 h).elim
  conv=>whnf
  refine ⟨fun h=>?_,fun h=>?_⟩
  rotate_left
  ·exact (h hk).elim
  conv=>whnf
  rw [zqo n1] at hm
  rw [zqo n2] at hm
  rw [zqp hk] at hm
  simp only [zqb] at hm
  have g1:=princ_len hm.1.1
  have g2:=tick_len hm.1.2
  have g3:=inZ_le hm.2
  have e0:=princE_len m.r1 m.r2
  have e1:=ticketE_len m.r3 m.r4 m.rKv m.rB
  have e2:=wrapB_len 4 m.rBl
  have hw:=wrapB_len 107 [princE m.r1 m.r2,ticketE m.r3 m.r4 m.rKv m.rB,wrapB 4 m.rBl].flatten
  simp only [zqk,zql,zqf,List.length_nil] at hw
  have hlen:(wrapB 107 [princE m.r1 m.r2,ticketE m.r3 m.r4 m.rKv m.rB,wrapB 4 m.rBl].flatten).length≤2000:=by simp only [zqk,zql];omega
  have hl:laidB m=wrapB 107 [princE m.r1 m.r2,ticketE m.r3 m.r4 m.rKv m.rB,wrapB 4 m.rBl].flatten:=by unfold laidB;rw [zqo n1];rw [zqo n2];rw [zqp hk]
  refine dP2 (by kernel_rfl) ?_
  conv=>whnf
  iterate 3 (refine dS ?_;(conv=>whnf))
  refine ⟨_,cP (c64 m.r1 m.r2 (by omega) (by omega)) ⟨rfl,rfl,zqv⟩,?_⟩
  conv=>whnf
  iterate 3 (refine dS ?_;(conv=>whnf))
  refine ⟨_,cP (c66 m.r3 m.r4 m.rKv m.rB none (by omega) (by omega) (by omega)) ⟨rfl,rfl,zqv⟩,?_⟩
  conv=>whnf
  iterate 3 (refine dS ?_;(conv=>whnf))
  refine ⟨_,cP (c67 m.rBl none (by omega)) ⟨rfl,rfl,zqv⟩,?_⟩
  conv=>whnf
  (refine dS ?_;(conv=>whnf))
  refine ⟨_,cP (c63 107 [princE m.r1 m.r2,ticketE m.r3 m.r4 m.rKv m.rB,wrapB 4 m.rBl] (by simp) (by simp only [zqk,zql,zqf,List.length_nil];omega)) ⟨rfl,rfl,zqv⟩,?_⟩
  conv=>whnf
  refine ⟨_,cP (c62 _ hlen) ⟨rfl,rfl,zqv⟩,?_⟩
  conv=>whnf
  iterate 4 (refine dS ?_;(conv=>whnf))
  exact ⟨(by rw [encV_is hb (by rw [hl];exact hlen),hl] <;> rfl),Ext.refl _⟩
 by_cases h4:m.kind=4
 ·have hk:=h4
  have n1:¬m.kind=1:=by omega
  have n2:¬m.kind=2:=by omega
  have n3:¬m.kind=3:=by omega
  have n5:¬m.kind=5:=by omega
  refine ⟨fun h=>?_,fun h=>?_⟩
  ·exact (n1 h).elim
  conv=>whnf
  refine ⟨fun h=>?_,fun h=>?_⟩
  ·exact (n2 h).elim
  conv=>whnf
  refine ⟨fun h=>?_,fun h=>?_⟩
  ·exact (n3 h).elim
  conv=>whnf
  refine ⟨fun h=>?_,fun h=>?_⟩
  rotate_left
  ·exact (h hk).elim
  conv=>whnf
  rw [zqo n1] at hm
  rw [zqo n2] at hm
  rw [zqo n3] at hm
  rw [zqp hk] at hm
  simp only [zqb] at hm
  have g1:=tick_len hm.1
  have g2:=inZ_le hm.2
  have e0:=ticketE_len m.p1 m.p2 m.pKv m.pB
  have e1:=wrapB_len 4 m.pAu
  have hw:=wrapB_len 110 [ticketE m.p1 m.p2 m.pKv m.pB,wrapB 4 m.pAu].flatten
  simp only [zqk,zql,zqf,List.length_nil] at hw
  have hlen:(wrapB 110 [ticketE m.p1 m.p2 m.pKv m.pB,wrapB 4 m.pAu].flatten).length≤2000:=by simp only [zqk,zql];omega
  have hl:laidB m=wrapB 110 [ticketE m.p1 m.p2 m.pKv m.pB,wrapB 4 m.pAu].flatten:=by unfold laidB;rw [zqo n1];rw [zqo n2];rw [zqo n3];rw [zqp hk]
  refine dP2 (by kernel_rfl) ?_
  conv=>whnf
  iterate 3 (refine dS ?_;(conv=>whnf))
  refine ⟨_,cP (c66 m.p1 m.p2 m.pKv m.pB none (by omega) (by omega) (by omega)) ⟨rfl,rfl,zqv⟩,?_⟩
  conv=>whnf
  iterate 3 (refine dS ?_;(conv=>whnf))
  refine ⟨_,cP (c67 m.pAu none (by omega)) ⟨rfl,rfl,zqv⟩,?_⟩
  conv=>whnf
  (refine dS ?_;(conv=>whnf))
  refine ⟨_,cP (c63 110 [ticketE m.p1 m.p2 m.pKv m.pB,wrapB 4 m.pAu] (by simp) (by simp only [zqk,zql,zqf,List.length_nil];omega)) ⟨rfl,rfl,zqv⟩,?_⟩
  conv=>whnf
  refine ⟨_,cP (c62 _ hlen) ⟨rfl,rfl,zqv⟩,?_⟩
  conv=>whnf
  iterate 4 (refine dS ?_;(conv=>whnf))
  exact ⟨(by rw [encV_is hb (by rw [hl];exact hlen),hl] <;> rfl),Ext.refl _⟩
 have n1:¬m.kind=1:=h1
 have n2:¬m.kind=2:=h2
 have n3:¬m.kind=3:=h3
 have n4:¬m.kind=4:=h4
 refine ⟨fun h=>?_,fun h=>?_⟩
 ·exact (n1 h).elim
 conv=>whnf
 refine ⟨fun h=>?_,fun h=>?_⟩
 ·exact (n2 h).elim
 conv=>whnf
 refine ⟨fun h=>?_,fun h=>?_⟩
 ·exact (n3 h).elim
 conv=>whnf
 refine ⟨fun h=>?_,fun h=>?_⟩
 ·exact (n4 h).elim
 conv=>whnf
 by_cases hk:m.kind=5
 ·skip
  rw [zqo n1] at hm
  rw [zqo n2] at hm
  rw [zqo n3] at hm
  rw [zqo n4] at hm
  rw [zqp hk] at hm
  simp only [zqb] at hm
  have e0:=intE_len m.fErr
  have e1:=intE_len m.fNonce
  have hw:=wrapB_len 126 [intE m.fErr,intE m.fNonce].flatten
  simp only [zqk,zql,zqf,List.length_nil] at hw
  have hlen:(wrapB 126 [intE m.fErr,intE m.fNonce].flatten).length≤2000:=by simp only [zqk,zql];omega
  have hl:laidB m=wrapB 126 [intE m.fErr,intE m.fNonce].flatten:=by unfold laidB;rw [zqo n1];rw [zqo n2];rw [zqo n3];rw [zqo n4];skip
  refine dP2 (by kernel_rfl) ?_
  conv=>whnf
  iterate 3 (refine dS ?_;(conv=>whnf))
  refine ⟨_,cP (c65 m.fErr) ⟨rfl,rfl,zqv⟩,?_⟩
  conv=>whnf
  iterate 3 (refine dS ?_;(conv=>whnf))
  refine ⟨_,cP (c65 m.fNonce) ⟨rfl,rfl,zqv⟩,?_⟩
  conv=>whnf
  (refine dS ?_;(conv=>whnf))
  refine ⟨_,cP (c63 126 [intE m.fErr,intE m.fNonce] (by simp) (by simp only [zqk,zql,zqf,List.length_nil];omega)) ⟨rfl,rfl,zqv⟩,?_⟩
  conv=>whnf
  refine ⟨_,cP (c62 _ hlen) ⟨rfl,rfl,zqv⟩,?_⟩
  conv=>whnf
  iterate 4 (refine dS ?_;(conv=>whnf))
  exact ⟨(by rw [encV_is hb (by rw [hl];exact hlen),hl] <;> rfl),Ext.refl _⟩
 ·rw [zqo n1,zqo n2,zqo n3,zqo n4,zqo hk] at hm
  cases hm
theorem encV_old (m:Msg):oldR (encV m)=true:=by
 unfold encV limV
 split
 ·simp [oldR,oldPs,oldP,sl,oldPs_bytes]
 ·rfl
theorem c24 (m:Msg) (hm:m.fits):Pure prog 24 [.agg m.cells] (encV m):=Pure.of_gc (encV_old m) (c24x m hm)
structure RakS (T:Nat) (zc:List PV) (B K:PH) (r e q:Nat) (s:Option (List UInt8)) (cells:List PV) (ver:Nat):Prop where
 z:K[r]? = some ⟨T,zc,0⟩
 p:K[q]? = some ⟨T,cells,ver⟩
 cur:rcur K e s
 up:Upd (·=e) B K
 lb:B.length≤q
 n1:r≠e
 n3:q≠e
 n5:q≠r
theorem RakS.call {T:Nat} {zc:List PV} {B K K':PH} {r e q:Nat} {s s':Option (List UInt8)} {cells:List PV} {ver:Nat} (h:RakS T zc B K r e q s cells ver) (u:Upd (·=e) K K') (c:rcur K' e s') :
  RakS T zc B K' r e q s' cells ver:=by
 have lt:∀{i:Nat} {o:PObj},K[i]? = some o→i<K.length:=fun h=>(zq1.1 h).1
 exact ⟨(u.2 _ (lt h.z) h.n1).trans h.z,(u.2 _ (lt h.p) h.n3).trans h.p,c,h.up.trans u,h.lb,h.n1,h.n3,h.n5⟩
theorem RakS.store {T:Nat} {zc:List PV} {B K:PH} {r e q:Nat} {s:Option (List UInt8)} {cells:List PV} {ver:Nat} (h:RakS T zc B K r e q s cells ver) (cells':List PV) (ver':Nat) :
  RakS T zc B (K.set q ⟨T,cells',ver'⟩) r e q s cells' ver':=by
 refine ⟨?_,gS h.p,h.cur.set_ne h.n3 _,h.up.set (.inr h.lb) _,h.lb,h.n1,h.n3,h.n5⟩
 rw [zqj h.n5];exact h.z
theorem RakS.new {T:Nat} {zc:List PV} {B K:PH} {r e:Nat} {s:Option (List UInt8)} (hz:B[r]? = some ⟨T,zc,0⟩) (hr:r≠e) (u:Upd (·=e) B K) (c:rcur K e s) (cells:List PV) (ver:Nat) :
  RakS T zc B ((K++[PObj.mk T zc 0]).set K.length ⟨T,cells,ver⟩) r e K.length s cells ver:=by
 have lt:∀{i:Nat} {o:PObj},B[i]? = some o→i<B.length:=fun h=>(zq1.1 h).1
 have l1:=lt hz
 have l2:=u.1
 have l3:=c.lt
 rw [sL]
 refine ⟨?_,gL _ _,c.keep (X:=fun _=>False) ((Upd.refl K).push _) (fun f=>f),u.push _,l2,hr,by omega,by omega⟩
 rw [zq2 (by omega),u.2 _ l1 hr];exact hz
def outR (s t:Option (List UInt8)):Option (List UInt8):=if wholeB t=true then s else none
theorem outR_no {s t:Option (List UInt8)} (h:wholeB t=false):outR s t=none:=zqo (by rw [h];decide)
theorem outR_yes {s t:Option (List UInt8)} (h:wholeB t=true):outR s t=s:=zqp h
theorem outR_none {t:Option (List UInt8)}:outR none t=none:=ite_self _
theorem outR_len {s t:Option (List UInt8)} {B:Nat} (h:∀l,s=some l→l.length≤B):∀l,outR s t=some l→l.length≤B:=by
 intro l hl
 unfold outR at hl
 split at hl
 ·exact h l hl
 ·cases hl
theorem rintC_len {s:Option (List UInt8)} {B:Nat} (h:∀l,s=some l→l.length≤B):∀l,(rintC s).1=some l→l.length≤B:=by
 have hl:=(elemC_len (tag:=2) h).1
 unfold rintC
 revert hl
 generalize elemC 2 s=q
 obtain ⟨s',o⟩:=q
 intro hl l
 cases o with
 | none=>intro e;cases e
 | some b =>
  show (if okR b=true then (s',numR b) else (none,0)).1=some l→_
  split
  ·exact hl l
  ·intro e;cases e
def princR (s:Option (List UInt8)):Option (List UInt8)×(List UInt8×List UInt8) :=
 (outR (elemC 48 s).1 (txtC (txtC (elemC 48 s).2).1).1,((txtC (elemC 48 s).2).2,(txtC (txtC (elemC 48 s).2).1).2))
def tickRD (s:Option (List UInt8)):Tk:=⟨(princR s).2.1,(princR s).2.2,(rintC (princR s).1).2,(octC (rintC (princR s).1).1).2⟩
def tickR (s:Option (List UInt8)):Option (List UInt8)×Tk :=
 (outR (elemC 97 s).1 (octC (rintC (princR (elemC 97 s).2).1).1).1,tickRD (elemC 97 s).2)
theorem c54 (c:Nat) (s:Option (List UInt8)) (H:PH) (hc:rcur H c s) (hl:∀l,s=some l→l.length≤140737488355328) :
  CK prog 54 [.ptr (some (c,0))] H fun r H'=>r=.agg [.str (princR s).2.1,.str (princR s).2.2]∧Upd (·=c) H H'∧rcur H' c (princR s).1:=by
 have hd:=hc.lt
 have g0:=elemC_len (tag:=48) hl
 have hs0:∀l,(elemC 48 s).2=some l→l.length≤140737488355328:=fun l h=>(g0.2 l h).1
 have hs1:=(elemC_len (tag:=27) hs0).1
 (refine fnS (imm:=imm54) ttL_ok func54 ?_;(conv=>whnf))
 obtain ⟨H1,hH1⟩:∃H1,H1=H++[PObj.mk 36 [.str [],.str []] 0]:=⟨_,rfl⟩
 have hl1:H1.length=H.length+1:=by rw [hH1];simp
 have h0:H1[H.length]? = some ⟨36,[.str [],.str []],0⟩:=by rw [hH1];exact gL _ _
 have u1:Upd (·=c) H H1:=by rw [hH1];exact (Upd.refl H).push _
 have hc1:rcur H1 c s:=hc.keep (X:=fun _=>False) (by rw [hH1];exact (Upd.refl H).push _) (fun f=>f)
 rw [←hH1]
 refine cO (c53 c 48 s H1 hc1 hl) ?_
 rintro _ H2 ⟨e,rfl,k1,k2,k3,k4⟩
 have hle:=k4.lt
 have uB:Upd (·=c) H H2:=u1.trans k2
 have h2z:H2[H.length]? = some ⟨36,[.str [],.str []],0⟩:=by rw [k2.2 _ (by omega) (by omega)];exact h0
 conv=>whnf
 refine cO (c98 e _ H2 k4 hs0) ?_
 rintro _ K1 ⟨rfl,u4,g4⟩
 have D1:=RakS.new h2z (by omega) u4 g4 [.str (txtC (elemC 48 s).2).2,.str []] 1
 conv=>whnf
 ((conv in (_[_]?)=>tactic=>exact gL _ _);(conv=>whnf))
 refine cO (c98 e _ _ D1.cur hs1) ?_
 rintro _ K2 ⟨rfl,u5,g5⟩
 have D2:=D1.call u5 g5
 conv=>whnf
 ((conv in (_[_]?)=>tactic=>exact D2.p);(conv=>whnf))
 have D3:=D2.store [.str (txtC (elemC 48 s).2).2,.str (txtC (txtC (elemC 48 s).2).1).2] 2
 have o3:rcur _ c (elemC 48 s).1:=k3.keep D3.up (by omega)
 have hq:=D3.lb
 have fin:∀(s':Option (List UInt8)) (bc:List UInt8) (vc:Nat),(∀l,s'=some l→bc=l)→∀(hcc:(K2.set K1.length (PObj.mk 36 [.str (txtC (elemC 48 s).2).2,.str (txtC (txtC (elemC 48 s).2).1).2] 2))[c]? = some ⟨128,[sl bc,.bool (elemC 48 s).1.isNone],vc⟩) (o:PObj),
   Upd (·=c) H (((K2.set K1.length (PObj.mk 36 [.str (txtC (elemC 48 s).2).2,.str (txtC (txtC (elemC 48 s).2).1).2] 2)).set c ⟨128,[sl bc,.bool s'.isNone],vc+1⟩).set H.length o) ∧
   rcur (((K2.set K1.length (PObj.mk 36 [.str (txtC (elemC 48 s).2).2,.str (txtC (txtC (elemC 48 s).2).1).2] 2)).set c ⟨128,[sl bc,.bool s'.isNone],vc+1⟩).set H.length o) c s':=fun s' bc vc hb hcc o=>by
  have uF:=uB.over D3.up (fun i hi h=>by omega)
  refine ⟨(uF.set (.inl rfl) _).set (.inr (zqn _)) _,?_⟩
  exact rcur.set_ne ⟨bc,vc+1,gS hcc,hb⟩ (by omega) _
 have hpz:∀(o:PObj),((K2.set K1.length (PObj.mk 36 [.str (txtC (elemC 48 s).2).2,.str (txtC (txtC (elemC 48 s).2).1).2] 2)).set c o)[K1.length]? = some ⟨36,[.str (txtC (elemC 48 s).2).2,.str (txtC (txtC (elemC 48 s).2).1).2],2⟩:=fun o=>by
  rw [zqj (by omega)];exact D3.p
 have hzz:∀(o:PObj),((K2.set K1.length (PObj.mk 36 [.str (txtC (elemC 48 s).2).2,.str (txtC (txtC (elemC 48 s).2).1).2] 2)).set c o)[H.length]? = some ⟨36,[.str [],.str []],0⟩:=fun o=>by
  rw [zqj (by omega)];exact D3.z
 unfold princR
 obtain ⟨bc,vc,hcc,hxc⟩:=o3
 ((conv in (_[_]?)=>tactic=>exact hcc);(conv=>whnf))
 revert hcc hxc fin
 generalize (elemC 48 s).1=s1
 intro fin hcc hxc
 cases s1 with
 | none =>
  rw [outR_none]
  conv=>whnf
  ((conv in (_[_]?)=>tactic=>exact hcc);(conv=>whnf))
  ((conv in (_[_]?)=>tactic=>exact hpz _);(conv=>whnf))
  ((conv in (_[_]?)=>tactic=>exact hzz _);(conv=>whnf))
  ((conv in (_[_]?)=>tactic=>exact gS (hzz _));(conv=>whnf))
  exact ⟨rfl,fin none bc vc (fun l h=>by cases h) hcc _⟩
 | some l =>
  conv=>whnf
  refine cO (c99 e _ _ D3.cur) ?_
  rintro _ _ ⟨rfl,rfl⟩
  have hbl:=hxc l rfl
  subst hbl
  show _
  cases hw:wholeB (txtC (txtC (elemC 48 s).2).1).1
  ·have e1:outR (some bc) (txtC (txtC (elemC 48 s).2).1).1=none:=outR_no hw
   rw [e1]
   conv=>whnf
   ((conv in (_[_]?)=>tactic=>exact hcc);(conv=>whnf))
   ((conv in (_[_]?)=>tactic=>exact hpz _);(conv=>whnf))
   ((conv in (_[_]?)=>tactic=>exact hzz _);(conv=>whnf))
   ((conv in (_[_]?)=>tactic=>exact gS (hzz _));(conv=>whnf))
   exact ⟨rfl,fin none bc vc (fun l h=>by cases h) hcc _⟩
  ·have e1:outR (some bc) (txtC (txtC (elemC 48 s).2).1).1=some bc:=outR_yes hw
   rw [e1]
   conv=>whnf
   ((conv in (_[_]?)=>tactic=>exact hcc);(conv=>whnf))
   ((conv in (_[_]?)=>tactic=>exact hpz _);(conv=>whnf))
   ((conv in (_[_]?)=>tactic=>exact hzz _);(conv=>whnf))
   ((conv in (_[_]?)=>tactic=>exact gS (hzz _));(conv=>whnf))
   exact ⟨rfl,fin (some bc) bc vc (fun l h=>Option.some.inj h) hcc _⟩
end Go.Proofs.Tryz
