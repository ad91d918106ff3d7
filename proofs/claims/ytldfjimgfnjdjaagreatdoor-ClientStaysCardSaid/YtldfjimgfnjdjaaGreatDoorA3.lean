import Derived.Test.YtldfjimgfnjdjaaGreatDoorA2
import Derived.Below
import Derived.Maps.RangeRun
import Derived.Tactics
import Derived.Tactics2
import Derived.Defers
import Derived.Laws.Pointers
import Derived.Laws.LoneSync
import Derived.RegionTactic
import Derived.RegionCalls
set_option linter.all false
set_option maxRecDepth 100000
set_option maxHeartbeats 2000000
namespace Go.Proofs.Tryz
open Go Ps
theorem c61 (m:Msg) (hm:m.fits):Pure prog 61 [.agg m.cells] (.bool (isB m)):=by
 intro H
 (refine fnS (imm:=imm61) ttGm_ok func61 ?_;(conv=>whnf))
 refine cutK_of [(1,.elem m.cells),(3,.int .i64 m.kind),(4,.bool (noAs m)),(5,.bool (noTgs m))] H ?_ ?_
 rotate_left
 ·refine dP2 (by kernel_rfl) ?_
  conv=>whnf
  iterate 3 (refine dS ?_;(conv=>whnf))
  cases f1:noAs m
  ·refine ⟨.bool false,?_,?_⟩
   ·conv=>whnf
    refine ⟨⟨fitA _ _ _ _ _ _,fitA [] [] [] [] 0 0⟩,?_⟩
    conv=>whnf
    exact ⟨fun h=>(of_decide_eq_false f1 (Iff.mp as_eq h)).elim,fun _=>⟨rfl,rfl,zqv⟩⟩
   conv=>whnf
   iterate 3 (refine dS ?_;(conv=>whnf))
   refine ⟨_,cP (c105 m.t1 m.t2 m.tKv m.tB none) ⟨rfl,rfl,zqv⟩,?_⟩
   conv=>whnf
   cases f2:noTk m.t1 m.t2 m.tKv m.tB.length
   ·skip
    iterate 28 (refine dS ?_;(conv=>whnf))
    exact ⟨(),trivial,⟨rfl,rfl,rfl,zqm PV.bool (by unfold noTgs;simp only [f2,zq6,zq5,zq3,zq4]),zqv⟩,rfl⟩
   iterate 5 (refine dS ?_;(conv=>whnf))
   cases f3:decide (m.tAu.length=0)
   ·refine ⟨.bool false,?_,?_⟩
    ·conv=>whnf
     exact ⟨fun h=>(of_decide_eq_false f3 (Iff.mp nat0 h)).elim,fun _=>⟨rfl,rfl,zqv⟩⟩
    conv=>whnf
    iterate 22 (refine dS ?_;(conv=>whnf))
    exact ⟨(),trivial,⟨rfl,rfl,rfl,zqm PV.bool (by unfold noTgs;simp only [f2,f3,zq6,zq5,zq3,zq4]),zqv⟩,rfl⟩
   refine ⟨.bool true,?_,?_⟩
   ·conv=>whnf
    exact ⟨fun _=>⟨rfl,rfl,zqv⟩,fun h=>(h (Iff.mpr nat0 (of_decide_eq_true f3))).elim⟩
   conv=>whnf
   iterate 6 (refine dS ?_;(conv=>whnf))
   cases f4:decide (m.t3=[]∧m.t4=[])
   ·refine ⟨.bool false,?_,?_⟩
    ·conv=>whnf
     refine ⟨⟨fitG _ _,fitG [] []⟩,?_⟩
     conv=>whnf
     exact ⟨fun h=>(of_decide_eq_false f4 (Iff.mp pr_eq h)).elim,fun _=>⟨rfl,rfl,zqv⟩⟩
    conv=>whnf
    iterate 15 (refine dS ?_;(conv=>whnf))
    exact ⟨(),trivial,⟨rfl,rfl,rfl,zqm PV.bool (by unfold noTgs;simp only [f2,f3,f4,zq6,zq5,zq3,zq4]),zqv⟩,rfl⟩
   refine ⟨.bool true,?_,?_⟩
   ·conv=>whnf
    refine ⟨⟨fitG _ _,fitG [] []⟩,?_⟩
    conv=>whnf
    exact ⟨fun _=>⟨rfl,rfl,zqv⟩,fun h=>(h (Iff.mpr pr_eq (of_decide_eq_true f4))).elim⟩
   conv=>whnf
   iterate 5 (refine dS ?_;(conv=>whnf))
   cases f5:decide (m.tTill=0)
   ·refine ⟨.bool false,?_,?_⟩
    ·conv=>whnf
     exact ⟨fun h=>(of_decide_eq_false f5 (Iff.mp Iff.rfl h)).elim,fun _=>⟨rfl,rfl,zqv⟩⟩
    conv=>whnf
    iterate 9 (refine dS ?_;(conv=>whnf))
    exact ⟨(),trivial,⟨rfl,rfl,rfl,zqm PV.bool (by unfold noTgs;simp only [f2,f3,f4,f5,zq6,zq5,zq3,zq4]),zqv⟩,rfl⟩
   refine ⟨.bool true,?_,?_⟩
   ·conv=>whnf
    exact ⟨fun _=>⟨rfl,rfl,zqv⟩,fun h=>(h (Iff.mpr Iff.rfl (of_decide_eq_true f5))).elim⟩
   conv=>whnf
   iterate 5 (refine dS ?_;(conv=>whnf))
   cases f6:decide (m.tNonce=0)
   ·refine ⟨.bool false,?_,?_⟩
    ·conv=>whnf
     exact ⟨fun h=>(of_decide_eq_false f6 (Iff.mp Iff.rfl h)).elim,fun _=>⟨rfl,rfl,zqv⟩⟩
    conv=>whnf
    iterate 3 (refine dS ?_;(conv=>whnf))
    exact ⟨(),trivial,⟨rfl,rfl,rfl,zqm PV.bool (by unfold noTgs;simp only [f2,f3,f4,f5,f6,zq6,zq5,zq3,zq4]),zqv⟩,rfl⟩
   refine ⟨.bool true,?_,?_⟩
   ·conv=>whnf
    exact ⟨fun _=>⟨rfl,rfl,zqv⟩,fun h=>(h (Iff.mpr Iff.rfl (of_decide_eq_true f6))).elim⟩
   conv=>whnf
   iterate 3 (refine dS ?_;(conv=>whnf))
   exact ⟨(),trivial,⟨rfl,rfl,rfl,zqm PV.bool (by unfold noTgs;simp only [f2,f3,f4,f5,f6,zq6,zq5,zq3,zq4]),zqv⟩,rfl⟩
  refine ⟨.bool true,?_,?_⟩
  ·conv=>whnf
   refine ⟨⟨fitA _ _ _ _ _ _,fitA [] [] [] [] 0 0⟩,?_⟩
   conv=>whnf
   exact ⟨fun _=>⟨rfl,rfl,zqv⟩,fun h=>(h (Iff.mpr as_eq (of_decide_eq_true f1))).elim⟩
  conv=>whnf
  iterate 3 (refine dS ?_;(conv=>whnf))
  refine ⟨_,cP (c105 m.t1 m.t2 m.tKv m.tB none) ⟨rfl,rfl,zqv⟩,?_⟩
  conv=>whnf
  cases f7:noTk m.t1 m.t2 m.tKv m.tB.length
  ·skip
   iterate 28 (refine dS ?_;(conv=>whnf))
   exact ⟨(),trivial,⟨rfl,rfl,rfl,zqm PV.bool (by unfold noTgs;simp only [f7,zq6,zq5,zq3,zq4]),zqv⟩,rfl⟩
  iterate 5 (refine dS ?_;(conv=>whnf))
  cases f8:decide (m.tAu.length=0)
  ·refine ⟨.bool false,?_,?_⟩
   ·conv=>whnf
    exact ⟨fun h=>(of_decide_eq_false f8 (Iff.mp nat0 h)).elim,fun _=>⟨rfl,rfl,zqv⟩⟩
   conv=>whnf
   iterate 22 (refine dS ?_;(conv=>whnf))
   exact ⟨(),trivial,⟨rfl,rfl,rfl,zqm PV.bool (by unfold noTgs;simp only [f7,f8,zq6,zq5,zq3,zq4]),zqv⟩,rfl⟩
  refine ⟨.bool true,?_,?_⟩
  ·conv=>whnf
   exact ⟨fun _=>⟨rfl,rfl,zqv⟩,fun h=>(h (Iff.mpr nat0 (of_decide_eq_true f8))).elim⟩
  conv=>whnf
  iterate 6 (refine dS ?_;(conv=>whnf))
  cases f9:decide (m.t3=[]∧m.t4=[])
  ·refine ⟨.bool false,?_,?_⟩
   ·conv=>whnf
    refine ⟨⟨fitG _ _,fitG [] []⟩,?_⟩
    conv=>whnf
    exact ⟨fun h=>(of_decide_eq_false f9 (Iff.mp pr_eq h)).elim,fun _=>⟨rfl,rfl,zqv⟩⟩
   conv=>whnf
   iterate 15 (refine dS ?_;(conv=>whnf))
   exact ⟨(),trivial,⟨rfl,rfl,rfl,zqm PV.bool (by unfold noTgs;simp only [f7,f8,f9,zq6,zq5,zq3,zq4]),zqv⟩,rfl⟩
  refine ⟨.bool true,?_,?_⟩
  ·conv=>whnf
   refine ⟨⟨fitG _ _,fitG [] []⟩,?_⟩
   conv=>whnf
   exact ⟨fun _=>⟨rfl,rfl,zqv⟩,fun h=>(h (Iff.mpr pr_eq (of_decide_eq_true f9))).elim⟩
  conv=>whnf
  iterate 5 (refine dS ?_;(conv=>whnf))
  cases f10:decide (m.tTill=0)
  ·refine ⟨.bool false,?_,?_⟩
   ·conv=>whnf
    exact ⟨fun h=>(of_decide_eq_false f10 (Iff.mp Iff.rfl h)).elim,fun _=>⟨rfl,rfl,zqv⟩⟩
   conv=>whnf
   iterate 9 (refine dS ?_;(conv=>whnf))
   exact ⟨(),trivial,⟨rfl,rfl,rfl,zqm PV.bool (by unfold noTgs;simp only [f7,f8,f9,f10,zq6,zq5,zq3,zq4]),zqv⟩,rfl⟩
  refine ⟨.bool true,?_,?_⟩
  ·conv=>whnf
   exact ⟨fun _=>⟨rfl,rfl,zqv⟩,fun h=>(h (Iff.mpr Iff.rfl (of_decide_eq_true f10))).elim⟩
  conv=>whnf
  iterate 5 (refine dS ?_;(conv=>whnf))
  cases f11:decide (m.tNonce=0)
  ·refine ⟨.bool false,?_,?_⟩
   ·conv=>whnf
    exact ⟨fun h=>(of_decide_eq_false f11 (Iff.mp Iff.rfl h)).elim,fun _=>⟨rfl,rfl,zqv⟩⟩
   conv=>whnf
   iterate 3 (refine dS ?_;(conv=>whnf))
   exact ⟨(),trivial,⟨rfl,rfl,rfl,zqm PV.bool (by unfold noTgs;simp only [f7,f8,f9,f10,f11,zq6,zq5,zq3,zq4]),zqv⟩,rfl⟩
  refine ⟨.bool true,?_,?_⟩
  ·conv=>whnf
   exact ⟨fun _=>⟨rfl,rfl,zqv⟩,fun h=>(h (Iff.mpr Iff.rfl (of_decide_eq_true f11))).elim⟩
  conv=>whnf
  iterate 3 (refine dS ?_;(conv=>whnf))
  exact ⟨(),trivial,⟨rfl,rfl,rfl,zqm PV.bool (by unfold noTgs;simp only [f7,f8,f9,f10,f11,zq6,zq5,zq3,zq4]),zqv⟩,rfl⟩
 conv=>whnf
 refine cutK_of [(1,.elem m.cells),(3,.int .i64 m.kind),(4,.bool (noAs m)),(5,.bool (noTgs m)),(6,.bool (noRep m))] H ?_ ?_
 rotate_left
 ·conv=>whnf
  refine ⟨⟨fitG _ _,fitG [] []⟩,?_⟩
  conv=>whnf
  refine ⟨fun h=>?_,fun h=>?_⟩
  rotate_left
  ·have f12:decide (m.r1=[]∧m.r2=[])=false:=zqd fun hh=>h (Iff.mpr pr_eq hh)
   conv=>whnf
   exact ⟨(),trivial,⟨rfl,rfl,rfl,rfl,zqm PV.bool (by unfold noRep;simp only [f12,zq6,zq5,zq3,zq4]),zqv⟩,rfl⟩
  have f12:decide (m.r1=[]∧m.r2=[])=true:=zqe (Iff.mp pr_eq h)
  conv=>whnf
  refine cP (c105 m.r3 m.r4 m.rKv m.rB none) ?_
  cases f13:noTk m.r3 m.r4 m.rKv m.rB.length
  ·conv=>whnf
   exact ⟨(),trivial,⟨rfl,rfl,rfl,rfl,zqm PV.bool (by unfold noRep;simp only [f12,f13,zq6,zq5,zq3,zq4]),zqv⟩,rfl⟩
  conv=>whnf
  refine ⟨fun h=>?_,fun h=>?_⟩
  rotate_left
  ·have f14:decide (m.rBl.length=0)=false:=zqd fun hh=>h (Iff.mpr nat0 hh)
   conv=>whnf
   exact ⟨(),trivial,⟨rfl,rfl,rfl,rfl,zqm PV.bool (by unfold noRep;simp only [f12,f13,f14,zq6,zq5,zq3,zq4]),zqv⟩,rfl⟩
  have f14:decide (m.rBl.length=0)=true:=zqe (Iff.mp nat0 h)
  conv=>whnf
  exact ⟨(),trivial,⟨rfl,rfl,rfl,rfl,zqm PV.bool (by unfold noRep;simp only [f12,f13,f14,zq6,zq5,zq3,zq4]),zqv⟩,rfl⟩
 conv=>whnf
 refine cutK_of [(1,.elem m.cells),(3,.int .i64 m.kind),(4,.bool (noAs m)),(5,.bool (noTgs m)),(6,.bool (noRep m)),(7,.bool (noAp m)),(8,.bool (noFail m))] H ?_ ?_
 rotate_left
 ·refine dP2 (by kernel_rfl) ?_
  conv=>whnf
  iterate 3 (refine dS ?_;(conv=>whnf))
  refine ⟨_,cP (c105 m.p1 m.p2 m.pKv m.pB none) ⟨rfl,rfl,zqv⟩,?_⟩
  conv=>whnf
  cases f15:noTk m.p1 m.p2 m.pKv m.pB.length
  ·skip
   iterate 10 (refine dS ?_;(conv=>whnf))
   cases f16:decide (m.fErr=0∧m.fNonce=0)
   ·refine ⟨.bool false,?_,?_⟩
    ·conv=>whnf
     refine ⟨⟨fitF _ _,fitF 0 0⟩,?_⟩
     conv=>whnf
     exact ⟨fun h=>(of_decide_eq_false f16 (Iff.mp fl_eq h)).elim,fun _=>⟨rfl,rfl,zqv⟩⟩
    conv=>whnf
    iterate 2 (refine dS ?_;(conv=>whnf))
    exact ⟨(),trivial,⟨rfl,rfl,rfl,rfl,rfl,zqm PV.bool (by unfold noAp;simp only [f15,zq6,zq5,zq3,zq4]),zqm PV.bool f16.symm,zqv⟩,rfl⟩
   refine ⟨.bool true,?_,?_⟩
   ·conv=>whnf
    refine ⟨⟨fitF _ _,fitF 0 0⟩,?_⟩
    conv=>whnf
    exact ⟨fun _=>⟨rfl,rfl,zqv⟩,fun h=>(h (Iff.mpr fl_eq (of_decide_eq_true f16))).elim⟩
   conv=>whnf
   iterate 2 (refine dS ?_;(conv=>whnf))
   exact ⟨(),trivial,⟨rfl,rfl,rfl,rfl,rfl,zqm PV.bool (by unfold noAp;simp only [f15,zq6,zq5,zq3,zq4]),zqm PV.bool f16.symm,zqv⟩,rfl⟩
  iterate 5 (refine dS ?_;(conv=>whnf))
  cases f17:decide (m.pAu.length=0)
  ·refine ⟨.bool false,?_,?_⟩
   ·conv=>whnf
    exact ⟨fun h=>(of_decide_eq_false f17 (Iff.mp nat0 h)).elim,fun _=>⟨rfl,rfl,zqv⟩⟩
   conv=>whnf
   iterate 4 (refine dS ?_;(conv=>whnf))
   cases f18:decide (m.fErr=0∧m.fNonce=0)
   ·refine ⟨.bool false,?_,?_⟩
    ·conv=>whnf
     refine ⟨⟨fitF _ _,fitF 0 0⟩,?_⟩
     conv=>whnf
     exact ⟨fun h=>(of_decide_eq_false f18 (Iff.mp fl_eq h)).elim,fun _=>⟨rfl,rfl,zqv⟩⟩
    conv=>whnf
    iterate 2 (refine dS ?_;(conv=>whnf))
    exact ⟨(),trivial,⟨rfl,rfl,rfl,rfl,rfl,zqm PV.bool (by unfold noAp;simp only [f15,f17,zq6,zq5,zq3,zq4]),zqm PV.bool f18.symm,zqv⟩,rfl⟩
   refine ⟨.bool true,?_,?_⟩
   ·conv=>whnf
    refine ⟨⟨fitF _ _,fitF 0 0⟩,?_⟩
    conv=>whnf
    exact ⟨fun _=>⟨rfl,rfl,zqv⟩,fun h=>(h (Iff.mpr fl_eq (of_decide_eq_true f18))).elim⟩
   conv=>whnf
   iterate 2 (refine dS ?_;(conv=>whnf))
   exact ⟨(),trivial,⟨rfl,rfl,rfl,rfl,rfl,zqm PV.bool (by unfold noAp;simp only [f15,f17,zq6,zq5,zq3,zq4]),zqm PV.bool f18.symm,zqv⟩,rfl⟩
  refine ⟨.bool true,?_,?_⟩
  ·conv=>whnf
   exact ⟨fun _=>⟨rfl,rfl,zqv⟩,fun h=>(h (Iff.mpr nat0 (of_decide_eq_true f17))).elim⟩
  conv=>whnf
  iterate 4 (refine dS ?_;(conv=>whnf))
  cases f19:decide (m.fErr=0∧m.fNonce=0)
  ·refine ⟨.bool false,?_,?_⟩
   ·conv=>whnf
    refine ⟨⟨fitF _ _,fitF 0 0⟩,?_⟩
    conv=>whnf
    exact ⟨fun h=>(of_decide_eq_false f19 (Iff.mp fl_eq h)).elim,fun _=>⟨rfl,rfl,zqv⟩⟩
   conv=>whnf
   iterate 2 (refine dS ?_;(conv=>whnf))
   exact ⟨(),trivial,⟨rfl,rfl,rfl,rfl,rfl,zqm PV.bool (by unfold noAp;simp only [f15,f17,zq6,zq5,zq3,zq4]),zqm PV.bool f19.symm,zqv⟩,rfl⟩
  refine ⟨.bool true,?_,?_⟩
  ·conv=>whnf
   refine ⟨⟨fitF _ _,fitF 0 0⟩,?_⟩
   conv=>whnf
   exact ⟨fun _=>⟨rfl,rfl,zqv⟩,fun h=>(h (Iff.mpr fl_eq (of_decide_eq_true f19))).elim⟩
  conv=>whnf
  iterate 2 (refine dS ?_;(conv=>whnf))
  exact ⟨(),trivial,⟨rfl,rfl,rfl,rfl,rfl,zqm PV.bool (by unfold noAp;simp only [f15,f17,zq6,zq5,zq3,zq4]),zqm PV.bool f19.symm,zqv⟩,rfl⟩
 conv=>whnf
 by_cases h1:m.kind=1
 ·have hk:=h1
  have n2:¬m.kind=2:=by omega
  have n3:¬m.kind=3:=by omega
  have n4:¬m.kind=4:=by omega
  have n5:¬m.kind=5:=by omega
  have e1:decide (m.kind=1)=true:=zqe hk
  have e2:decide (m.kind=2)=false:=zqd n2
  have e3:decide (m.kind=3)=false:=zqd n3
  have e4:decide (m.kind=4)=false:=zqd n4
  have e5:decide (m.kind=5)=false:=zqd n5
  refine ⟨fun h=>?_,fun h=>?_⟩
  rotate_left
  ·exact (h hk).elim
  conv=>whnf
  refine cP (c106 m hm) ?_
  cases f20:asB m
  ·conv=>whnf
   exact ⟨zqm PV.bool (by unfold isB othersB;rw [zqp hk];show _=(asB m&&_);simp only [e1,e2,e3,e4,e5,f20,zq6,zq5,zq3,zq4,zq8,zq7,zq9,zqa]),rfl⟩
  conv=>whnf
  cases f21:noTgs m
  ·conv=>whnf
   exact ⟨zqm PV.bool (by unfold isB othersB;rw [zqp hk];show _=(asB m&&_);simp only [e1,e2,e3,e4,e5,f20,f21,zq6,zq5,zq3,zq4,zq8,zq7,zq9,zqa]),rfl⟩
  conv=>whnf
  cases f22:noRep m
  ·conv=>whnf
   exact ⟨zqm PV.bool (by unfold isB othersB;rw [zqp hk];show _=(asB m&&_);simp only [e1,e2,e3,e4,e5,f20,f21,f22,zq6,zq5,zq3,zq4,zq8,zq7,zq9,zqa]),rfl⟩
  conv=>whnf
  cases f23:noAp m
  ·conv=>whnf
   exact ⟨zqm PV.bool (by unfold isB othersB;rw [zqp hk];show _=(asB m&&_);simp only [e1,e2,e3,e4,e5,f20,f21,f22,f23,zq6,zq5,zq3,zq4,zq8,zq7,zq9,zqa]),rfl⟩
  conv=>whnf
  cases f24:noFail m
  ·conv=>whnf
   exact ⟨zqm PV.bool (by unfold isB othersB;rw [zqp hk];show _=(asB m&&_);simp only [e1,e2,e3,e4,e5,f20,f21,f22,f23,f24,zq6,zq5,zq3,zq4,zq8,zq7,zq9,zqa]),rfl⟩
  conv=>whnf
  exact ⟨zqm PV.bool (by unfold isB othersB;rw [zqp hk];show _=(asB m&&_);simp only [e1,e2,e3,e4,e5,f20,f21,f22,f23,f24,zq6,zq5,zq3,zq4,zq8,zq7,zq9,zqa]),rfl⟩
 by_cases h2:m.kind=2
 ·have hk:=h2
  have n1:¬m.kind=1:=by omega
  have n3:¬m.kind=3:=by omega
  have n4:¬m.kind=4:=by omega
  have n5:¬m.kind=5:=by omega
  have e1:decide (m.kind=1)=false:=zqd n1
  have e2:decide (m.kind=2)=true:=zqe hk
  have e3:decide (m.kind=3)=false:=zqd n3
  have e4:decide (m.kind=4)=false:=zqd n4
  have e5:decide (m.kind=5)=false:=zqd n5
  refine ⟨fun h=>?_,fun h=>?_⟩
  ·exact (n1 h).elim
  conv=>whnf
  refine ⟨fun h=>?_,fun h=>?_⟩
  rotate_left
  ·exact (h hk).elim
  conv=>whnf
  refine cP ((c107 m.d hm).of_eq (show PV.bool (tgsB m.d)=.bool (tgsB m) from rfl)) ?_
  cases f25:tgsB m
  ·conv=>whnf
   exact ⟨zqm PV.bool (by unfold isB othersB;rw [zqo n1];rw [zqp hk];show _=(tgsB m&&_);simp only [e1,e2,e3,e4,e5,f25,zq6,zq5,zq3,zq4,zq8,zq7,zq9,zqa]),rfl⟩
  conv=>whnf
  cases f26:noAs m
  ·conv=>whnf
   exact ⟨zqm PV.bool (by unfold isB othersB;rw [zqo n1];rw [zqp hk];show _=(tgsB m&&_);simp only [e1,e2,e3,e4,e5,f25,f26,zq6,zq5,zq3,zq4,zq8,zq7,zq9,zqa]),rfl⟩
  conv=>whnf
  cases f27:noRep m
  ·conv=>whnf
   exact ⟨zqm PV.bool (by unfold isB othersB;rw [zqo n1];rw [zqp hk];show _=(tgsB m&&_);simp only [e1,e2,e3,e4,e5,f25,f26,f27,zq6,zq5,zq3,zq4,zq8,zq7,zq9,zqa]),rfl⟩
  conv=>whnf
  cases f28:noAp m
  ·conv=>whnf
   exact ⟨zqm PV.bool (by unfold isB othersB;rw [zqo n1];rw [zqp hk];show _=(tgsB m&&_);simp only [e1,e2,e3,e4,e5,f25,f26,f27,f28,zq6,zq5,zq3,zq4,zq8,zq7,zq9,zqa]),rfl⟩
  conv=>whnf
  cases f29:noFail m
  ·conv=>whnf
   exact ⟨zqm PV.bool (by unfold isB othersB;rw [zqo n1];rw [zqp hk];show _=(tgsB m&&_);simp only [e1,e2,e3,e4,e5,f25,f26,f27,f28,f29,zq6,zq5,zq3,zq4,zq8,zq7,zq9,zqa]),rfl⟩
  conv=>whnf
  exact ⟨zqm PV.bool (by unfold isB othersB;rw [zqo n1];rw [zqp hk];show _=(tgsB m&&_);simp only [e1,e2,e3,e4,e5,f25,f26,f27,f28,f29,zq6,zq5,zq3,zq4,zq8,zq7,zq9,zqa]),rfl⟩
 by_cases h3:m.kind=3
 ·have hk:=h3
  have n1:¬m.kind=1:=by omega
  have n2:¬m.kind=2:=by omega
  have n4:¬m.kind=4:=by omega
  have n5:¬m.kind=5:=by omega
  have e1:decide (m.kind=1)=false:=zqd n1
  have e2:decide (m.kind=2)=false:=zqd n2
  have e3:decide (m.kind=3)=true:=zqe hk
  have e4:decide (m.kind=4)=false:=zqd n4
  have e5:decide (m.kind=5)=false:=zqd n5
  refine ⟨fun h=>?_,fun h=>?_⟩
  ·exact (n1 h).elim
  conv=>whnf
  refine ⟨fun h=>?_,fun h=>?_⟩
  ·exact (n2 h).elim
  conv=>whnf
  refine ⟨fun h=>?_,fun h=>?_⟩
  rotate_left
  ·exact (h hk).elim
  conv=>whnf
  refine cP (c36 m.r1 m.r2 (by have:=hm.2.2.2.2.2.2.2.2.1;omega) (by have:=hm.2.2.2.2.2.2.2.2.2.1;omega)) ?_
  cases f30:isPrincB m.r1 m.r2
  ·conv=>whnf
   exact ⟨zqm PV.bool (by unfold isB othersB;rw [zqo n1];rw [zqo n2];rw [zqp hk];simp only [e1,e2,e3,e4,e5,f30,zq6,zq5,zq3,zq4,zq8,zq7,zq9,zqa]),rfl⟩
  conv=>whnf
  refine cP (c108 m.r3 m.r4 m.rKv m.rB none (by have:=hm.2.2.2.2.2.2.2.2.2.2.1;omega) (by have:=hm.2.2.2.2.2.2.2.2.2.2.2.1;omega)) ?_
  cases f31:tickB m.r3 m.r4 m.rKv m.rB.length
  ·conv=>whnf
   exact ⟨zqm PV.bool (by unfold isB othersB;rw [zqo n1];rw [zqo n2];rw [zqp hk];simp only [e1,e2,e3,e4,e5,f30,f31,zq6,zq5,zq3,zq4,zq8,zq7,zq9,zqa]),rfl⟩
  conv=>whnf
  refine cP (c109 m.rBl.length _ _) ?_
  cases f32:inZ m.rBl.length 1 800
  ·conv=>whnf
   exact ⟨zqm PV.bool (by unfold isB othersB;rw [zqo n1];rw [zqo n2];rw [zqp hk];simp only [e1,e2,e3,e4,e5,f30,f31,f32,zq6,zq5,zq3,zq4,zq8,zq7,zq9,zqa]),rfl⟩
  conv=>whnf
  cases f33:noAs m
  ·conv=>whnf
   exact ⟨zqm PV.bool (by unfold isB othersB;rw [zqo n1];rw [zqo n2];rw [zqp hk];simp only [e1,e2,e3,e4,e5,f30,f31,f32,f33,zq6,zq5,zq3,zq4,zq8,zq7,zq9,zqa]),rfl⟩
  conv=>whnf
  cases f34:noTgs m
  ·conv=>whnf
   exact ⟨zqm PV.bool (by unfold isB othersB;rw [zqo n1];rw [zqo n2];rw [zqp hk];simp only [e1,e2,e3,e4,e5,f30,f31,f32,f33,f34,zq6,zq5,zq3,zq4,zq8,zq7,zq9,zqa]),rfl⟩
  conv=>whnf
  cases f35:noAp m
  ·conv=>whnf
   exact ⟨zqm PV.bool (by unfold isB othersB;rw [zqo n1];rw [zqo n2];rw [zqp hk];simp only [e1,e2,e3,e4,e5,f30,f31,f32,f33,f34,f35,zq6,zq5,zq3,zq4,zq8,zq7,zq9,zqa]),rfl⟩
  conv=>whnf
  cases f36:noFail m
  ·conv=>whnf
   exact ⟨zqm PV.bool (by unfold isB othersB;rw [zqo n1];rw [zqo n2];rw [zqp hk];simp only [e1,e2,e3,e4,e5,f30,f31,f32,f33,f34,f35,f36,zq6,zq5,zq3,zq4,zq8,zq7,zq9,zqa]),rfl⟩
  conv=>whnf
  exact ⟨zqm PV.bool (by unfold isB othersB;rw [zqo n1];rw [zqo n2];rw [zqp hk];simp only [e1,e2,e3,e4,e5,f30,f31,f32,f33,f34,f35,f36,zq6,zq5,zq3,zq4,zq8,zq7,zq9,zqa]),rfl⟩
 by_cases h4:m.kind=4
 ·have hk:=h4
  have n1:¬m.kind=1:=by omega
  have n2:¬m.kind=2:=by omega
  have n3:¬m.kind=3:=by omega
  have n5:¬m.kind=5:=by omega
  have e1:decide (m.kind=1)=false:=zqd n1
  have e2:decide (m.kind=2)=false:=zqd n2
  have e3:decide (m.kind=3)=false:=zqd n3
  have e4:decide (m.kind=4)=true:=zqe hk
  have e5:decide (m.kind=5)=false:=zqd n5
  refine ⟨fun h=>?_,fun h=>?_⟩
  ·exact (n1 h).elim
  conv=>whnf
  refine ⟨fun h=>?_,fun h=>?_⟩
  ·exact (n2 h).elim
  conv=>whnf
  refine ⟨fun h=>?_,fun h=>?_⟩
  ·exact (n3 h).elim
  conv=>whnf
  refine ⟨fun h=>?_,fun h=>?_⟩
  rotate_left
  ·exact (h hk).elim
  conv=>whnf
  refine cP (c108 m.p1 m.p2 m.pKv m.pB none (by have:=hm.2.2.2.2.2.2.2.2.2.2.2.2.1;omega) (by have:=hm.2.2.2.2.2.2.2.2.2.2.2.2.2;omega)) ?_
  cases f37:tickB m.p1 m.p2 m.pKv m.pB.length
  ·conv=>whnf
   exact ⟨zqm PV.bool (by unfold isB othersB;rw [zqo n1];rw [zqo n2];rw [zqo n3];rw [zqp hk];simp only [e1,e2,e3,e4,e5,f37,zq6,zq5,zq3,zq4,zq8,zq7,zq9,zqa]),rfl⟩
  conv=>whnf
  refine cP (c109 m.pAu.length _ _) ?_
  cases f38:inZ m.pAu.length 1 800
  ·conv=>whnf
   exact ⟨zqm PV.bool (by unfold isB othersB;rw [zqo n1];rw [zqo n2];rw [zqo n3];rw [zqp hk];simp only [e1,e2,e3,e4,e5,f37,f38,zq6,zq5,zq3,zq4,zq8,zq7,zq9,zqa]),rfl⟩
  conv=>whnf
  cases f39:noAs m
  ·conv=>whnf
   exact ⟨zqm PV.bool (by unfold isB othersB;rw [zqo n1];rw [zqo n2];rw [zqo n3];rw [zqp hk];simp only [e1,e2,e3,e4,e5,f37,f38,f39,zq6,zq5,zq3,zq4,zq8,zq7,zq9,zqa]),rfl⟩
  conv=>whnf
  cases f40:noTgs m
  ·conv=>whnf
   exact ⟨zqm PV.bool (by unfold isB othersB;rw [zqo n1];rw [zqo n2];rw [zqo n3];rw [zqp hk];simp only [e1,e2,e3,e4,e5,f37,f38,f39,f40,zq6,zq5,zq3,zq4,zq8,zq7,zq9,zqa]),rfl⟩
  conv=>whnf
  cases f41:noRep m
  ·conv=>whnf
   exact ⟨zqm PV.bool (by unfold isB othersB;rw [zqo n1];rw [zqo n2];rw [zqo n3];rw [zqp hk];simp only [e1,e2,e3,e4,e5,f37,f38,f39,f40,f41,zq6,zq5,zq3,zq4,zq8,zq7,zq9,zqa]),rfl⟩
  conv=>whnf
  cases f42:noFail m
  ·conv=>whnf
   exact ⟨zqm PV.bool (by unfold isB othersB;rw [zqo n1];rw [zqo n2];rw [zqo n3];rw [zqp hk];simp only [e1,e2,e3,e4,e5,f37,f38,f39,f40,f41,f42,zq6,zq5,zq3,zq4,zq8,zq7,zq9,zqa]),rfl⟩
  conv=>whnf
  exact ⟨zqm PV.bool (by unfold isB othersB;rw [zqo n1];rw [zqo n2];rw [zqo n3];rw [zqp hk];simp only [e1,e2,e3,e4,e5,f37,f38,f39,f40,f41,f42,zq6,zq5,zq3,zq4,zq8,zq7,zq9,zqa]),rfl⟩
 by_cases h5:m.kind=5
 ·have hk:=h5
  have n1:¬m.kind=1:=by omega
  have n2:¬m.kind=2:=by omega
  have n3:¬m.kind=3:=by omega
  have n4:¬m.kind=4:=by omega
  have e1:decide (m.kind=1)=false:=zqd n1
  have e2:decide (m.kind=2)=false:=zqd n2
  have e3:decide (m.kind=3)=false:=zqd n3
  have e4:decide (m.kind=4)=false:=zqd n4
  have e5:decide (m.kind=5)=true:=zqe hk
  refine ⟨fun h=>?_,fun h=>?_⟩
  ·exact (n1 h).elim
  conv=>whnf
  refine ⟨fun h=>?_,fun h=>?_⟩
  ·exact (n2 h).elim
  conv=>whnf
  refine ⟨fun h=>?_,fun h=>?_⟩
  ·exact (n3 h).elim
  conv=>whnf
  refine ⟨fun h=>?_,fun h=>?_⟩
  ·exact (n4 h).elim
  conv=>whnf
  refine ⟨fun h=>?_,fun h=>?_⟩
  rotate_left
  ·exact (h hk).elim
  conv=>whnf
  refine cP (c110 m.fErr 1 255) ?_
  cases f43:inZ m.fErr 1 255
  ·conv=>whnf
   exact ⟨zqm PV.bool (by unfold isB othersB;rw [zqo n1];rw [zqo n2];rw [zqo n3];rw [zqo n4];rw [zqp hk];simp only [e1,e2,e3,e4,e5,f43,zq6,zq5,zq3,zq4,zq8,zq7,zq9,zqa]),rfl⟩
  conv=>whnf
  refine cP (c110 m.fNonce 0 1073741824) ?_
  cases f44:inZ m.fNonce 0 1073741824
  ·conv=>whnf
   exact ⟨zqm PV.bool (by unfold isB othersB;rw [zqo n1];rw [zqo n2];rw [zqo n3];rw [zqo n4];rw [zqp hk];simp only [e1,e2,e3,e4,e5,f43,f44,zq6,zq5,zq3,zq4,zq8,zq7,zq9,zqa]),rfl⟩
  conv=>whnf
  cases f45:noAs m
  ·conv=>whnf
   exact ⟨zqm PV.bool (by unfold isB othersB;rw [zqo n1];rw [zqo n2];rw [zqo n3];rw [zqo n4];rw [zqp hk];simp only [e1,e2,e3,e4,e5,f43,f44,f45,zq6,zq5,zq3,zq4,zq8,zq7,zq9,zqa]),rfl⟩
  conv=>whnf
  cases f46:noTgs m
  ·conv=>whnf
   exact ⟨zqm PV.bool (by unfold isB othersB;rw [zqo n1];rw [zqo n2];rw [zqo n3];rw [zqo n4];rw [zqp hk];simp only [e1,e2,e3,e4,e5,f43,f44,f45,f46,zq6,zq5,zq3,zq4,zq8,zq7,zq9,zqa]),rfl⟩
  conv=>whnf
  cases f47:noRep m
  ·conv=>whnf
   exact ⟨zqm PV.bool (by unfold isB othersB;rw [zqo n1];rw [zqo n2];rw [zqo n3];rw [zqo n4];rw [zqp hk];simp only [e1,e2,e3,e4,e5,f43,f44,f45,f46,f47,zq6,zq5,zq3,zq4,zq8,zq7,zq9,zqa]),rfl⟩
  conv=>whnf
  cases f48:noAp m
  ·conv=>whnf
   exact ⟨zqm PV.bool (by unfold isB othersB;rw [zqo n1];rw [zqo n2];rw [zqo n3];rw [zqo n4];rw [zqp hk];simp only [e1,e2,e3,e4,e5,f43,f44,f45,f46,f47,f48,zq6,zq5,zq3,zq4,zq8,zq7,zq9,zqa]),rfl⟩
  conv=>whnf
  exact ⟨zqm PV.bool (by unfold isB othersB;rw [zqo n1];rw [zqo n2];rw [zqo n3];rw [zqo n4];rw [zqp hk];simp only [e1,e2,e3,e4,e5,f43,f44,f45,f46,f47,f48,zq6,zq5,zq3,zq4,zq8,zq7,zq9,zqa]),rfl⟩
 have n1:¬m.kind=1:=h1
 have n2:¬m.kind=2:=h2
 have n3:¬m.kind=3:=h3
 have n4:¬m.kind=4:=h4
 have n5:¬m.kind=5:=h5
 have e1:decide (m.kind=1)=false:=zqd n1
 have e2:decide (m.kind=2)=false:=zqd n2
 have e3:decide (m.kind=3)=false:=zqd n3
 have e4:decide (m.kind=4)=false:=zqd n4
 have e5:decide (m.kind=5)=false:=zqd n5
 refine ⟨fun h=>?_,fun h=>?_⟩
 ·exact (n1 h).elim
 conv=>whnf
 refine ⟨fun h=>?_,fun h=>?_⟩
 ·exact (n2 h).elim
 conv=>whnf
 refine ⟨fun h=>?_,fun h=>?_⟩
 ·exact (n3 h).elim
 conv=>whnf
 refine ⟨fun h=>?_,fun h=>?_⟩
 ·exact (n4 h).elim
 conv=>whnf
 refine ⟨fun h=>?_,fun h=>?_⟩
 ·exact (n5 h).elim
 conv=>whnf
 exact ⟨zqm PV.bool (by unfold isB othersB;rw [zqo n1];rw [zqo n2];rw [zqo n3];rw [zqo n4];rw [zqo n5];simp only [e1,e2,e3,e4,e5,zq6,zq5,zq3,zq4,zq8,zq7,zq9,zqa]),rfl⟩
theorem splitB_sum (c:UInt8):∀(s:List UInt8),((splitB c s).map (fun x=>x.length+1)).sum=s.length+1
 | []=>by simp [splitB]
 | x::s=>by
  have ih:=splitB_sum c s
  have hne:splitB c s≠[]:=fun e=>by rw [e] at ih;simp at ih
  simp only [splitB]
  split
  ·simp [ih];omega
  ·cases hs:splitB c s with
   | nil=>exact absurd hs hne
   | cons a l=>rw [hs] at ih;simp at ih ⊢;omega
theorem sum_le (k:Nat):∀(l:List (List UInt8)),(∀x∈l,x.length≤k)→(l.map (fun x=>x.length+1)).sum≤l.length*(k+1)
 | [],_=>by simp
 | a::l,h=>by
  have:=sum_le k l fun x hx=>h x (List.mem_cons_of_mem _ hx)
  have:=h a List.mem_cons_self
  simp only [List.map_cons,List.sum_cons,List.length_cons,Nat.add_mul];omega
theorem badL_len {c:UInt8} {s:List UInt8} (h:badL (splitB c s)=false):s.length≤35:=by
 unfold badL at h
 rw [Bool.or_eq_false_iff] at h
 have h1:(splitB c s).length≤4:=by have:=of_decide_eq_false h.1;omega
 have h2:=sum_le 8 (splitB c s) fun x hx=>by
  have:=List.any_eq_false.1 h.2 x hx
  have:isWordB x upperB=true:=by simpa using this
  unfold isWordB at this
  rw [zqb,zqb] at this
  exact of_decide_eq_true this.2.1
 rw [splitB_sum] at h2
 have:(splitB c s).length*(8+1)≤4*(8+1):=Nat.mul_le_mul_right _ h1
 omega
theorem realm_len {r:List UInt8} (h:isRealmB r=true):r.length≤36:=by
 replace h:(labelsB r).1≠0:=of_decide_eq_true h
 unfold labelsB at h
 split at h
 ·split at h
  ·exact absurd rfl h
  ·rename_i t hb
   have:=badL_len (c:=47) (s:=t) (by simpa using hb)
   simp;omega
 ·split at h
  ·exact absurd rfl h
  ·rename_i hb
   have:=badL_len (c:=46) (s:=r) (by simpa using hb)
   omega
theorem princ_len {r n:List UInt8} (h:isPrincB r n=true):r.length≤36∧n.length≤43:=by
 unfold isPrincB at h
 rw [zqb,Bool.or_eq_true] at h
 refine ⟨realm_len h.1,?_⟩
 rcases h.2 with h2 | h2
 ·unfold targetB at h2
  split at h2
  ·rename_i hc
   rw [zqb] at hc
   have:=realm_len hc.2
   rw [List.length_drop] at this
   omega
  ·cases h2
 ·unfold isWordB at h2
  rw [zqb,zqb] at h2
  have:=of_decide_eq_true h2.2.1
  omega
theorem inZ_le {n lo hi:Int} (h:inZ n lo hi=true):lo≤n∧n≤hi:=by
 unfold inZ at h
 rw [zqb] at h
 exact ⟨of_decide_eq_true h.1,of_decide_eq_true h.2⟩
theorem tick_len {r n:List UInt8} {kv:Int} {k:Nat} (h:tickB r n kv k=true):r.length≤36∧n.length≤43∧k≤800:=by
 unfold tickB at h
 rw [zqb,zqb] at h
 have h1:=princ_len h.1.1
 have h2:=inZ_le h.2
 exact ⟨h1.1,h1.2,by omega⟩
theorem wrapB_len (t:UInt8) (b:List UInt8):(wrapB t b).length≤b.length+4:=by
 have:=lenB_len b.length
 unfold wrapB
 simp;omega
def princE (r n:List UInt8):List UInt8:=wrapB 48 [wrapB 27 r,wrapB 27 n].flatten
def intE (n:Int):List UInt8:=wrapB 2 (intB (clampI n))
def ticketE (r n:List UInt8) (kv:Int) (b:List UInt8):List UInt8:=wrapB 97 [princE r n,intE kv,wrapB 4 b].flatten
theorem intE_len (n:Int):(intE n).length≤14:=by
 have h1:=wrapB_len 2 (intB (clampI n))
 have h2:=le_len 9 (clampI n)
 have h3:(intB (clampI n)).length≤10:=by
  unfold intB padB
  rw [List.length_reverse]
  split
  ·rw [zqf,List.length_singleton];omega
  ·omega
 unfold intE;omega
theorem princE_len (r n:List UInt8):(princE r n).length≤r.length+n.length+12:=by
 have h:=wrapB_len 48 [wrapB 27 r,wrapB 27 n].flatten
 have h1:=wrapB_len 27 r
 have h2:=wrapB_len 27 n
 simp only [zqk,zql,zqf,List.length_nil] at h
 unfold princE;simp only [zqk,zql] at h ⊢;omega
theorem ticketE_len (r n:List UInt8) (kv:Int) (b:List UInt8):(ticketE r n kv b).length≤r.length+n.length+b.length+34:=by
 have h:=wrapB_len 97 [princE r n,intE kv,wrapB 4 b].flatten
 have h1:=princE_len r n
 have h2:=intE_len kv
 have h3:=wrapB_len 4 b
 simp only [zqk,zql,zqf,List.length_nil] at h
 unfold ticketE;simp only [zqk,zql] at h ⊢;omega
theorem c156p (tag:UInt8) (ls:List (List UInt8)) (hn:ls.length≤1099511627776) (ht:ls.flatten.length≤1099511627000) :
  Pure prog 156 [bC tag,.slice ls.length (ls.map sl) none] (sl (wrapB tag ls.flatten)):=fun H=>c156 tag ls hn ht (Reps.sl H ls)
theorem c165p (p:List UInt8) (hp:p.length≤1099511627000):Pure prog 165 [sl p] (sl (wrapB 4 p)):=fun H=>c165 p hp H
theorem c181p (p:List UInt8) (hp:p.length≤1099511627000):Pure prog 181 [.str p] (sl (wrapB 27 p)):=fun H=>c181 p hp H
def limV (ok:Bool) (b:List UInt8):PV:=if ok=true∧b.length≤2000 then .tup [sl b,.int .i64 0] else .tup [.slice 0 [] (some 5),.int .i64 1]
theorem c118 (ok:Bool) (b:List UInt8):Pure prog 118 [.bool ok,sl b] (limV ok b):=by
 intro H
 (refine fnS (imm:=imm118) ttGm_ok func118 ?_;(conv=>whnf))
 cases ok
 ·conv=>whnf
  exact ⟨by unfold limV;rw [zqo (by simp)];rfl,rfl⟩
 ·conv=>whnf
  refine ⟨fun h=>?_,fun h=>?_⟩
  ·conv=>whnf
   have h:(2000:Int)<(b.length:Int):=h
   exact ⟨by unfold limV;rw [zqo (by omega)];rfl,rfl⟩
  ·conv=>whnf
   have h:¬(2000:Int)<(b.length:Int):=h
   exact ⟨by unfold limV;rw [zqp ⟨rfl,by omega⟩];rfl,rfl⟩
theorem c157 (r n:List UInt8) (hr:r.length≤1000000) (hn:n.length≤1000000):Pure prog 157 [.agg [.str r,.str n]] (sl (princE r n)):=by
 intro H
 have h1:=wrapB_len 27 r
 have h2:=wrapB_len 27 n
 (refine fnS (imm:=imm157) ttGm_ok func157 ?_;(conv=>whnf))
 refine dP2 (by kernel_rfl) ?_
 conv=>whnf
 iterate 2 (refine dS ?_;(conv=>whnf))
 refine ⟨_,cP (c181p r (by omega)) ⟨rfl,rfl,zqv⟩,?_⟩
 conv=>whnf
 iterate 2 (refine dS ?_;(conv=>whnf))
 refine ⟨_,cP (c181p n (by omega)) ⟨rfl,rfl,zqv⟩,?_⟩
 conv=>whnf
 (refine dS ?_;(conv=>whnf))
 refine ⟨_,cP (c156p 48 [wrapB 27 r,wrapB 27 n] (by simp) (by simp only [zqk,zql,zqf,List.length_nil];omega)) ⟨rfl,rfl,zqv⟩,?_⟩
 conv=>whnf
 (refine dS ?_;(conv=>whnf))
 exact ⟨rfl,rfl⟩
theorem c164 (r n:List UInt8) (kv:Int) (b:List UInt8) (o:Option Nat) (hr:r.length≤1000000) (hn:n.length≤1000000) (hb:b.length≤1000000):Pure prog 164 [.agg [.str r,.str n,.int .i64 kv,slo b o]] (sl (ticketE r n kv b)):=by
 intro H
 have h1:=princE_len r n
 have h2:=intE_len kv
 have h3:=wrapB_len 4 b
 (refine fnS (imm:=imm164) ttGm_ok func164 ?_;(conv=>whnf))
 refine dP2 (by kernel_rfl) ?_
 conv=>whnf
 iterate 2 (refine dS ?_;(conv=>whnf))
 refine ⟨_,cP (c157 r n hr hn) ⟨rfl,rfl,zqv⟩,?_⟩
 conv=>whnf
 iterate 2 (refine dS ?_;(conv=>whnf))
 refine ⟨_,cP (c158 kv) ⟨rfl,rfl,zqv⟩,?_⟩
 conv=>whnf
 iterate 2 (refine dS ?_;(conv=>whnf))
 refine ⟨_,cP (c165p b (by omega)) ⟨rfl,rfl,zqv⟩,?_⟩
 conv=>whnf
 (refine dS ?_;(conv=>whnf))
 refine ⟨_,cP (c156p 97 [princE r n,intE kv,wrapB 4 b] (by simp) (by simp only [zqk,zql,zqf,List.length_nil];omega)) ⟨rfl,rfl,zqv⟩,?_⟩
 conv=>whnf
 (refine dS ?_;(conv=>whnf))
 exact ⟨rfl,rfl⟩
def laidB (m:Msg):List UInt8 :=
 if m.kind=1 then wrapB 106 [princE m.a1 m.a2,princE m.a3 m.a4,intE m.aTill,intE m.aNonce].flatten
 else if m.kind=2 then wrapB 108 [ticketE m.t1 m.t2 m.tKv m.tB,wrapB 4 m.tAu,princE m.t3 m.t4,intE m.tTill,intE m.tNonce].flatten
 else if m.kind=3 then wrapB 107 [princE m.r1 m.r2,ticketE m.r3 m.r4 m.rKv m.rB,wrapB 4 m.rBl].flatten
 else if m.kind=4 then wrapB 110 [ticketE m.p1 m.p2 m.pKv m.pB,wrapB 4 m.pAu].flatten
 else wrapB 126 [intE m.fErr,intE m.fNonce].flatten
theorem c119x (m:Msg) (hm:isB m=true) (H:PH):CK prog 119 [.agg m.cells] H fun r H'=>r=sl (laidB m)∧∃ext,H'=H++ext:=by
 have hm:=(zqb _ _▸hm:_∧_).1
 (refine fnS (imm:=imm119) ttGm_ok func119 ?_;(conv=>whnf))
 conv=>whnf
 by_cases h1:m.kind=1
 ·have hk:=h1
  have n2:¬m.kind=2:=by omega
  have n3:¬m.kind=3:=by omega
  have n4:¬m.kind=4:=by omega
  have n5:¬m.kind=5:=by omega
  rw [zqp hk] at hm
  simp only [zqb] at hm
  have g1:=princ_len hm.1.1.1
  have g2:=princ_len hm.1.1.2
  have g3:=princE_len m.a1 m.a2
  have g4:=princE_len m.a3 m.a4
  have g5:=intE_len m.aTill
  have g6:=intE_len m.aNonce
  refine ⟨fun h=>?_,fun h=>?_⟩
  rotate_left
  ·exact (h hk).elim
  conv=>whnf
  ((conv in (_[_]?)=>tactic=>exact gL _ _);(conv=>whnf))
  refine dP2 (by kernel_rfl) ?_
  conv=>whnf
  (refine dS ?_;(conv=>whnf))
  apply exA
  focus
   conv=>whnf
   ((conv in (_[_]?)=>tactic=>exact gS (gL _ _));(conv=>whnf))
   exact ⟨rfl,rfl,zqv⟩
  conv=>whnf
  refine ⟨_,cP (c157 m.a1 m.a2 (by omega) (by omega)) ⟨rfl,rfl,zqv⟩,?_⟩
  conv=>whnf
  (refine dS ?_;(conv=>whnf))
  apply exA
  focus
   conv=>whnf
   ((conv in (_[_]?)=>tactic=>exact gS (gL _ _));(conv=>whnf))
   exact ⟨rfl,rfl,zqv⟩
  conv=>whnf
  refine ⟨_,cP (c157 m.a3 m.a4 (by omega) (by omega)) ⟨rfl,rfl,zqv⟩,?_⟩
  conv=>whnf
  (refine dS ?_;(conv=>whnf))
  apply exA
  focus
   conv=>whnf
   ((conv in (_[_]?)=>tactic=>exact gS (gL _ _));(conv=>whnf))
   exact ⟨rfl,rfl,zqv⟩
  conv=>whnf
  refine ⟨_,cP (c158 m.aTill) ⟨rfl,rfl,zqv⟩,?_⟩
  conv=>whnf
  (refine dS ?_;(conv=>whnf))
  apply exA
  focus
   conv=>whnf
   ((conv in (_[_]?)=>tactic=>exact gS (gL _ _));(conv=>whnf))
   exact ⟨rfl,rfl,zqv⟩
  conv=>whnf
  refine ⟨_,cP (c158 m.aNonce) ⟨rfl,rfl,zqv⟩,?_⟩
  conv=>whnf
  (refine dS ?_;(conv=>whnf))
  refine ⟨_,cP (c156p 106 [princE m.a1 m.a2,princE m.a3 m.a4,intE m.aTill,intE m.aNonce] (by simp) (by simp only [zqk,zql,zqf,List.length_nil];omega)) ⟨rfl,rfl,zqv⟩,?_⟩
  conv=>whnf
  (refine dS ?_;(conv=>whnf))
  exact ⟨by unfold laidB;rw [zqp hk];rfl,(Ext.refl _).push _ |>.set (Ext.refl _).len _⟩
 by_cases h2:m.kind=2
 ·have hk:=h2
  have n1:¬m.kind=1:=by omega
  have n3:¬m.kind=3:=by omega
  have n4:¬m.kind=4:=by omega
  have n5:¬m.kind=5:=by omega
  rw [zqo n1] at hm
  rw [zqp hk] at hm
  simp only [zqb] at hm
  have g1:=tick_len hm.1.1.1.1
  have g2:=inZ_le hm.1.1.1.2
  have g3:=princ_len hm.1.1.2
  have g4:=ticketE_len m.t1 m.t2 m.tKv m.tB
  have g5:=wrapB_len 4 m.tAu
  have g6:=princE_len m.t3 m.t4
  have g7:=intE_len m.tTill
  have g8:=intE_len m.tNonce
  refine ⟨fun h=>?_,fun h=>?_⟩
  ·exact (n1 h).elim
  conv=>whnf
  refine ⟨fun h=>?_,fun h=>?_⟩
  rotate_left
  ·exact (h hk).elim
  conv=>whnf
  ((conv in (_[_]?)=>tactic=>exact gL _ _);(conv=>whnf))
  refine dP2 (by kernel_rfl) ?_
  conv=>whnf
  (refine dS ?_;(conv=>whnf))
  apply exA
  focus
   conv=>whnf
   ((conv in (_[_]?)=>tactic=>exact gS (gL _ _));(conv=>whnf))
   exact ⟨rfl,rfl,zqv⟩
  conv=>whnf
  refine ⟨_,cP (c164 m.t1 m.t2 m.tKv m.tB none (by omega) (by omega) (by omega)) ⟨rfl,rfl,zqv⟩,?_⟩
  conv=>whnf
  (refine dS ?_;(conv=>whnf))
  apply exA
  focus
   conv=>whnf
   ((conv in (_[_]?)=>tactic=>exact gS (gL _ _));(conv=>whnf))
   exact ⟨rfl,rfl,zqv⟩
  conv=>whnf
  refine ⟨_,cP (c165p m.tAu (by omega)) ⟨rfl,rfl,zqv⟩,?_⟩
  conv=>whnf
  (refine dS ?_;(conv=>whnf))
  apply exA
  focus
   conv=>whnf
   ((conv in (_[_]?)=>tactic=>exact gS (gL _ _));(conv=>whnf))
   exact ⟨rfl,rfl,zqv⟩
  conv=>whnf
  refine ⟨_,cP (c157 m.t3 m.t4 (by omega) (by omega)) ⟨rfl,rfl,zqv⟩,?_⟩
  conv=>whnf
  (refine dS ?_;(conv=>whnf))
  apply exA
  focus
   conv=>whnf
   ((conv in (_[_]?)=>tactic=>exact gS (gL _ _));(conv=>whnf))
   exact ⟨rfl,rfl,zqv⟩
  conv=>whnf
  refine ⟨_,cP (c158 m.tTill) ⟨rfl,rfl,zqv⟩,?_⟩
  conv=>whnf
  (refine dS ?_;(conv=>whnf))
  apply exA
  focus
   conv=>whnf
   ((conv in (_[_]?)=>tactic=>exact gS (gL _ _));(conv=>whnf))
   exact ⟨rfl,rfl,zqv⟩
  conv=>whnf
  refine ⟨_,cP (c158 m.tNonce) ⟨rfl,rfl,zqv⟩,?_⟩
  conv=>whnf
  (refine dS ?_;(conv=>whnf))
  refine ⟨_,cP (c156p 108 [ticketE m.t1 m.t2 m.tKv m.tB,wrapB 4 m.tAu,princE m.t3 m.t4,intE m.tTill,intE m.tNonce] (by simp) (by simp only [zqk,zql,zqf,List.length_nil];omega)) ⟨rfl,rfl,zqv⟩,?_⟩
  conv=>whnf
  (refine dS ?_;(conv=>whnf))
  exact ⟨by unfold laidB;rw [zqo n1];rw [zqp hk];rfl,(Ext.refl _).push _ |>.set (Ext.refl _).len _⟩
 by_cases h3:m.kind=3
 ·have hk:=h3
  have n1:¬m.kind=1:=by omega
  have n2:¬m.kind=2:=by omega
  have n4:¬m.kind=4:=by omega
  have n5:¬m.kind=5:=by omega
  rw [zqo n1] at hm
  rw [zqo n2] at hm
  rw [zqp hk] at hm
  simp only [zqb] at hm
  have g1:=princ_len hm.1.1
  have g2:=tick_len hm.1.2
  have g3:=inZ_le hm.2
  have g4:=princE_len m.r1 m.r2
  have g5:=ticketE_len m.r3 m.r4 m.rKv m.rB
  have g6:=wrapB_len 4 m.rBl
  refine ⟨fun h=>?_,fun h=>?_⟩
  ·exact (n1 h).elim
  conv=>whnf
  refine ⟨fun h=>?_,fun h=>?_⟩
  ·exact (n2 h).elim
  conv=>whnf
  refine ⟨fun h=>?_,fun h=>?_⟩
  rotate_left
  ·exact (h hk).elim
  conv=>whnf
  refine dP2 (by kernel_rfl) ?_
  conv=>whnf
  iterate 3 (refine dS ?_;(conv=>whnf))
  refine ⟨_,cP (c157 m.r1 m.r2 (by omega) (by omega)) ⟨rfl,rfl,zqv⟩,?_⟩
  conv=>whnf
  iterate 3 (refine dS ?_;(conv=>whnf))
  refine ⟨_,cP (c164 m.r3 m.r4 m.rKv m.rB none (by omega) (by omega) (by omega)) ⟨rfl,rfl,zqv⟩,?_⟩
  conv=>whnf
  iterate 3 (refine dS ?_;(conv=>whnf))
  refine ⟨_,cP (c165p m.rBl (by omega)) ⟨rfl,rfl,zqv⟩,?_⟩
  conv=>whnf
  (refine dS ?_;(conv=>whnf))
  refine ⟨_,cP (c156p 107 [princE m.r1 m.r2,ticketE m.r3 m.r4 m.rKv m.rB,wrapB 4 m.rBl] (by simp) (by simp only [zqk,zql,zqf,List.length_nil];omega)) ⟨rfl,rfl,zqv⟩,?_⟩
  conv=>whnf
  (refine dS ?_;(conv=>whnf))
  exact ⟨by unfold laidB;rw [zqo n1];rw [zqo n2];rw [zqp hk];rfl,Ext.refl _⟩
 by_cases h4:m.kind=4
 ·have hk:=h4
  have n1:¬m.kind=1:=by omega
  have n2:¬m.kind=2:=by omega
  have n3:¬m.kind=3:=by omega
  have n5:¬m.kind=5:=by omega
  rw [zqo n1] at hm
  rw [zqo n2] at hm
  rw [zqo n3] at hm
  rw [zqp hk] at hm
  simp only [zqb] at hm
  have g1:=tick_len hm.1
  have g2:=inZ_le hm.2
  have g3:=ticketE_len m.p1 m.p2 m.pKv m.pB
  have g4:=wrapB_len 4 m.pAu
  refine ⟨fun h=>?_,fun h=>?_⟩
  ·exact (n1 h).elim
  conv=>whnf
  refine ⟨fun h=>?_,fun h=>?_⟩
  ·exact (n2 h).elim
  conv=>whnf
  refine ⟨fun h=>?_,fun h=>?_⟩
  ·exact (n3 h).elim
  conv=>whnf
  refine ⟨fun h=>?_,fun h=>?_⟩
  rotate_left
  ·exact (h hk).elim
  conv=>whnf
  refine dP2 (by kernel_rfl) ?_
  conv=>whnf
  iterate 3 (refine dS ?_;(conv=>whnf))
  refine ⟨_,cP (c164 m.p1 m.p2 m.pKv m.pB none (by omega) (by omega) (by omega)) ⟨rfl,rfl,zqv⟩,?_⟩
  conv=>whnf
  iterate 3 (refine dS ?_;(conv=>whnf))
  refine ⟨_,cP (c165p m.pAu (by omega)) ⟨rfl,rfl,zqv⟩,?_⟩
  conv=>whnf
  (refine dS ?_;(conv=>whnf))
  refine ⟨_,cP (c156p 110 [ticketE m.p1 m.p2 m.pKv m.pB,wrapB 4 m.pAu] (by simp) (by simp only [zqk,zql,zqf,List.length_nil];omega)) ⟨rfl,rfl,zqv⟩,?_⟩
  conv=>whnf
  (refine dS ?_;(conv=>whnf))
  exact ⟨by unfold laidB;rw [zqo n1];rw [zqo n2];rw [zqo n3];rw [zqp hk];rfl,Ext.refl _⟩
 have n1:¬m.kind=1:=h1
 have n2:¬m.kind=2:=h2
 have n3:¬m.kind=3:=h3
 have n4:¬m.kind=4:=h4
 have g1:=intE_len m.fErr
 have g2:=intE_len m.fNonce
 refine ⟨fun h=>?_,fun h=>?_⟩
 ·exact (n1 h).elim
 conv=>whnf
 refine ⟨fun h=>?_,fun h=>?_⟩
 ·exact (n2 h).elim
 conv=>whnf
 refine ⟨fun h=>?_,fun h=>?_⟩
 ·exact (n3 h).elim
 conv=>whnf
 refine ⟨fun h=>?_,fun h=>?_⟩
 ·exact (n4 h).elim
 conv=>whnf
 refine dP2 (by kernel_rfl) ?_
 conv=>whnf
 iterate 3 (refine dS ?_;(conv=>whnf))
 refine ⟨_,cP (c158 m.fErr) ⟨rfl,rfl,zqv⟩,?_⟩
 conv=>whnf
 iterate 3 (refine dS ?_;(conv=>whnf))
 refine ⟨_,cP (c158 m.fNonce) ⟨rfl,rfl,zqv⟩,?_⟩
 conv=>whnf
 (refine dS ?_;(conv=>whnf))
 refine ⟨_,cP (c156p 126 [intE m.fErr,intE m.fNonce] (by simp) (by simp only [zqk,zql,zqf,List.length_nil];omega)) ⟨rfl,rfl,zqv⟩,?_⟩
 conv=>whnf
 (refine dS ?_;(conv=>whnf))
 exact ⟨by unfold laidB;rw [zqo n1];rw [zqo n2];rw [zqo n3];rw [zqo n4];rfl,Ext.refl _⟩
theorem c119 (m:Msg) (hm:isB m=true):Pure prog 119 [.agg m.cells] (sl (laidB m)):=Pure.of_gc (oldPs_bytes _) (c119x m hm)
theorem isd {m:Msg}:isB m.d=isB m:=rfl
theorem laidd {m:Msg}:laidB m.d=laidB m:=rfl
def encV (m:Msg):PV:=limV (isB m) (laidB m)
theorem c72 (m:Msg) (hm:m.fits):Pure prog 72 [.agg m.cells] (encV m):=by
 intro H
 (refine fnS (imm:=imm72) ttGm_ok func72 ?_;(conv=>whnf))
 refine cP ((c117 m.d hm).of_eq (show PV.bool (isB m.d)=.bool (isB m) from rfl)) ?_
 unfold encV
 cases hb:isB m
 ·conv=>whnf
  exact ⟨by unfold limV;rw [zqo (by simp)];rfl,rfl⟩
 ·conv=>whnf
  refine cP ((c119 m.d hb).of_eq (show sl (laidB m.d)=sl (laidB m) from rfl)) ?_
  conv=>whnf
  refine cP (c118 true (laidB m)) ?_
  unfold limV
  by_cases hl:(laidB m).length≤2000
  ·rw [zqp ⟨rfl,hl⟩]
   conv=>whnf
   exact ⟨rfl,rfl⟩
  ·rw [zqo (by simp [hl])]
   conv=>whnf
   exact ⟨rfl,rfl⟩
def okT8 (b:UInt8):Bool:=decide (32≤b.toNat)&&decide (b.toNat≤126)
def isTextB (s:List UInt8):Bool:=decide (s.length≤300)&&s.all okT8
set_option maxHeartbeats 1000000
def ttC:TT:=[(3,⟨.int .i64,1,8,[.int .i64 0]⟩),(4,⟨.bool,1,1,[.bool false]⟩),(5,⟨.int .u8,1,1,[.int .u8 0]⟩),(9,⟨.str,1,16,[.str []]⟩),(36,⟨.strct [(9,0),(9,1)],2,32,[.str [],.str []]⟩),(26,⟨.int .i64,1,8,[.int .i64 0]⟩),(31,⟨.arr 32 5,32,32,List.replicate 32 (.int .u8 0)⟩),(253,⟨.slice 3,1,24,[.slice 0 [] (some 3)]⟩),(25,⟨.slice 5,1,24,[.slice 0 [] (some 5)]⟩),(33,⟨.strct [(28,0),(29,1),(3,2),(31,3),(3,35)],36,64,[.ptr none,.ptr none,.int .i64 0]++List.replicate 32 (.int .u8 0)++[.int .i64 0]⟩),(288,⟨.fn,1,8,[.nilF]⟩),(213,⟨.ptr,1,8,[.ptr none]⟩),(215,⟨.strct [(213,0)],1,8,[.ptr none]⟩),(294,⟨.fn,1,8,[.nilF]⟩),(192,⟨.slice 25,1,24,[.slice 0 [] (some 25)]⟩),(265,⟨.strct [(25,0),(4,1)],2,32,[.slice 0 [] (some 5),.bool false]⟩)]
theorem ttC_ok:ttOk prog ttC=true:=by kernel_rfl
def imm131:List Nat:=[]
def imm170:List Nat:=[]
def imm171:List Nat:=[]
def imm137:List Nat:=[]
def imm173:List Nat:=[1000003]
def imm174:List Nat:=[]
def imm175:List Nat:=[]
def imm132:List Nat:=[]
def imm193:List Nat:=[]
def imm194:List Nat:=[]
def imm133:List Nat:=[]
def imm134:List Nat:=[1]
def imm143:List Nat:=[1]
def imm172:List Nat:=[]
def imm135:List Nat:=[]
theorem c131 (b:List UInt8) (hb:b.length≤140737488355328):Pure prog 131 [sl b] (slo b (some 5)):=by
 intro H
 (refine fnS (imm:=imm131) ttC_ok func131 ?_;(conv=>whnf))
 have ht:∀K:PV→PH→Prop,K (slo b (some 5)) H→K (.slice (0+b.length) ([]++b.map bC) (some 5)) H:=fun K k=>by
  rw [Nat.zero_add,List.nil_append];exact k
 have happ:(0+b.length)*1≤140737488355328∧(b.map bC).length=b.length*1∧(b.map bC).all oneP=true:=⟨by omega,by simp,allOne b⟩
 refine ⟨fun h=>?_,fun h=>⟨?_,?_⟩⟩
 ·conv=>whnf
  refine ⟨happ,?_⟩
  conv=>whnf
  exact ⟨by rw [Nat.zero_add];rfl,rfl⟩
 ·conv=>whnf
  have e:b=[]:=List.length_eq_zero_iff.1 h
  subst e
  exact ⟨rfl,rfl⟩
 ·conv=>whnf
  refine ⟨happ,?_⟩
  conv=>whnf
  exact ⟨by rw [Nat.zero_add];rfl,rfl⟩
def curAt (H:PH) (c:Nat) (s:Option (List UInt8)):Prop:=∃x v,H[c]? = some ⟨265,[x,.bool s.isNone],v⟩∧∀l,s=some l→x=sl l
def Upd (X:Nat→Prop) (H H':PH):Prop:=H.length≤H'.length∧∀i,i<H.length→¬X i→H'[i]? = H[i]?
theorem Upd.refl {X:Nat→Prop} (H:PH):Upd X H H:=⟨zqn _,fun _ _ _=>rfl⟩
theorem Upd.trans {X:Nat→Prop} {H H1 H2:PH} (h:Upd X H H1) (k:Upd X H1 H2):Upd X H H2:=⟨Nat.le_trans h.1 k.1,fun i hi hx=>(k.2 i (Nat.lt_of_lt_of_le hi h.1) hx).trans (h.2 i hi hx)⟩
theorem Upd.mono {X Y:Nat→Prop} {H H1:PH} (h:Upd X H H1) (k:∀i,i<H.length→X i→Y i):Upd Y H H1:=⟨h.1,fun i hi hx=>h.2 i hi fun hX=>hx (k i hi hX)⟩
theorem Upd.set {X:Nat→Prop} {H H1:PH} (h:Upd X H H1) {c:Nat} (hc:X c∨H.length≤c) (o:PObj):Upd X H (H1.set c o):=⟨by rw [List.length_set];exact h.1,fun i hi hx=>by
 rw [zqj (fun e=>by subst e;rcases hc with hc | hc;exact hx hc;omega)];exact h.2 i hi hx⟩
theorem Upd.push {X:Nat→Prop} {H H1:PH} (h:Upd X H H1) (o:PObj):Upd X H (H1++[o]):=⟨by rw [zqf];exact Nat.le_add_right_of_le h.1,fun i hi hx=>by
 rw [zq2 (Nat.lt_of_lt_of_le hi h.1)];exact h.2 i hi hx⟩
theorem Upd.ext {H H':PH} (h:Upd (fun _=>False) H H'):∃ext,H'=H++ext:=by
 refine ⟨H'.drop H.length,?_⟩
 apply List.ext_getElem?
 intro i
 by_cases hi:i<H.length
 ·rw [zq2 hi,h.2 i hi (fun f=>f)]
 ·rw [zqi (by omega),zqt]
  congr 1;omega
theorem curAt.lt {H:PH} {c:Nat} {s:Option (List UInt8)} (h:curAt H c s):c<H.length:=by
 obtain ⟨x,v,h,_⟩:=h
 exact (zq1.1 h).1
theorem curAt.keep {X:Nat→Prop} {H H':PH} {c:Nat} {s:Option (List UInt8)} (h:curAt H c s) (k:Upd X H H') (hc:¬X c):curAt H' c s:=by
 have hl:=h.lt
 obtain ⟨x,v,h,h2⟩:=h
 exact ⟨x,v,(k.2 c hl hc).trans h,h2⟩
theorem c193 (c:Nat) (s:Option (List UInt8)) (H:PH) (hc:curAt H c s):CK prog 193 [.ptr (some (c,0))] H fun r H'=>r=.bool (!s.isNone)∧H'=H:=by
 obtain ⟨x,v,hc,_⟩:=hc
 (refine fnS (imm:=imm193) ttC_ok func193 ?_;(conv=>whnf))
 ((conv in (_[_]?)=>tactic=>exact hc);(conv=>whnf))
 exact ⟨rfl,rfl⟩
theorem c175 (c:Nat) (s:Option (List UInt8)) (H:PH) (hc:curAt H c s):CK prog 175 [.ptr (some (c,0))] H fun r H'=>r=.slice 0 [] (some 5)∧Upd (·=c) H H'∧curAt H' c none∧∀y u,H[c]? = some ⟨265,[y,.bool s.isNone],u⟩→H'=H.set c ⟨265,[.nilS,.bool true],u+2⟩:=by
 obtain ⟨x,v,hc,_⟩:=hc
 (refine fnS (imm:=imm175) ttC_ok func175 ?_;(conv=>whnf))
 ((conv in (_[_]?)=>tactic=>exact hc);(conv=>whnf))
 ((conv in (_[_]?)=>tactic=>exact gS hc);(conv=>whnf))
 exact ⟨rfl,((Upd.refl (X:=(·=c)) H).set (c:=c) (.inl rfl) _).set (c:=c) (.inl rfl) _,⟨.nilS,v+2,gS (gS hc),(fun l h=>by cases h)⟩,fun y u hy=>by
  rw [hc] at hy
  cases hy
  exact List.set_set ..⟩
def headB:List UInt8→Nat×Nat×Bool
 | []=>(0,0,false)
 | [x]=>if x.toNat<128 then (1,x.toNat,true) else (0,0,false)
 | [x,y]=>if x.toNat<128 then (1,x.toNat,true) else if x.toNat=129∧128≤y.toNat then (2,y.toNat,true) else (0,0,false)
 | x::y::z::_=>if x.toNat<128 then (1,x.toNat,true) else if x.toNat=129∧128≤y.toNat then (2,y.toNat,true)
  else if x.toNat=130∧0<y.toNat then (3,y.toNat*256+z.toNat,true) else (0,0,false)
theorem head_0:headB []=(0,0,false):=rfl
theorem head_1 (x:UInt8):headB [x]=if x.toNat<128 then (1,x.toNat,true) else (0,0,false):=rfl
theorem head_2 (x y:UInt8):headB [x,y]=if x.toNat<128 then (1,x.toNat,true) else if x.toNat=129∧128≤y.toNat then (2,y.toNat,true) else (0,0,false):=rfl
theorem head_3 (x y z:UInt8) (r:List UInt8):headB (x::y::z::r)=if x.toNat<128 then (1,x.toNat,true) else if x.toNat=129∧128≤y.toNat then (2,y.toNat,true)
  else if x.toNat=130∧0<y.toNat then (3,y.toNat*256+z.toNat,true) else (0,0,false):=rfl
def headV (h:Nat×Nat×Bool):PV:=.tup [.int .i64 h.1,.int .i64 h.2.1,.bool h.2.2]
theorem at1 {cs:List PV} {k:Nat} {x:PV} (h:cs[k]? = some x):∀(j:Nat) (c:PV),[x][j]? = some c→cs[k+j]? = some c:=by
 intro j c hj
 match j with
 | 0=>simpa using h.trans hj
 | j+1=>simp at hj
theorem wrapB1 (x:UInt8):IntKind.i64.wrap (x.toNat:Int)=(x.toNat:Int):=by
 have:=x.toNat_lt
 rw [w64 (by omega) (by omega)]
theorem wrapB2 (y z:UInt8):IntKind.i64.wrap (ishl .i64 (IntKind.i64.wrap (y.toNat:Int)) 8+IntKind.i64.wrap (z.toNat:Int))=((y.toNat*256+z.toNat:Nat):Int):=by
 have:=y.toNat_lt
 have:=z.toNat_lt
 have h:ishl .i64 (IntKind.i64.wrap (y.toNat:Int)) 8=(y.toNat:Int)*256:=by
  rw [wrapB1]
  unfold ishl
  rw [show (2:Int) ^ (min (Int.toNat 8) IntKind.i64.bits)=256 from rfl,w64 (by omega) (by omega)]
 rw [h,wrapB1,w64 (by omega) (by omega)]
 omega
theorem c194_0 (H:PH):CK prog 194 [sl ([])] H fun r H'=>r=headV (headB ([]))∧H'=H:=by
 (refine fnS (imm:=imm194) ttC_ok func194 ?_;(conv=>whnf))
 refine ⟨fun h=>absurd h (by first | decide | omega | (simp;done) | (simp;omega)),fun _=>?_⟩
 conv=>whnf
 refine ⟨fun h=>absurd h (by first | decide | omega | (simp;done) | (simp;omega)),fun _=>?_⟩
 conv=>whnf
 refine ⟨fun h=>absurd h (by first | decide | omega | (simp;done) | (simp;omega)),fun _=>?_⟩
 conv=>whnf
 refine ⟨?_,rfl⟩
 rw [head_0]
 rfl
theorem c194_1 (x:UInt8) (H:PH):CK prog 194 [sl ([x])] H fun r H'=>r=headV (headB ([x]))∧H'=H:=by
 (refine fnS (imm:=imm194) ttC_ok func194 ?_;(conv=>whnf))
 refine ⟨fun _=>?_,fun h=>absurd (by first | decide | omega | (simp;done) | (simp;omega)) h⟩
 conv=>whnf
 refine ⟨⟨by first | decide | omega | (simp;done) | (simp;omega),by first | decide | omega | (simp;done) | (simp;omega)⟩,[bC x],at1 (k:=0*1) rfl,?_⟩
 conv=>whnf
 refine ⟨fun h1=>?_,fun h1=>?_⟩
 ·conv=>whnf
  have h1:(x.toNat:Int)<128:=h1
  refine dP2 (by kernel_rfl) ?_
  conv=>whnf
  (refine dS ?_;(conv=>whnf))
  refine ⟨.elem [bC x],⟨⟨by first | decide | omega | (simp;done) | (simp;omega),by first | decide | omega | (simp;done) | (simp;omega)⟩,[bC x],at1 (k:=0*1) rfl,rfl,rfl,zqv⟩,?_⟩
  conv=>whnf
  iterate 5 (refine dS ?_;(conv=>whnf))
  refine ⟨?_,rfl⟩
  rw [head_1]
  rw [zqp (by omega)]
  show PV.tup [_,PV.int .i64 (IntKind.i64.wrap (x.toNat:Int)),_]=PV.tup [_,_,_]
  rw [wrapB1]
  rfl
 conv=>whnf
 have h1:¬(x.toNat:Int)<128:=h1
 refine ⟨fun h=>absurd h (by first | decide | omega | (simp;done) | (simp;omega)),fun _=>?_⟩
 conv=>whnf
 refine ⟨fun h=>absurd h (by first | decide | omega | (simp;done) | (simp;omega)),fun _=>?_⟩
 conv=>whnf
 refine ⟨?_,rfl⟩
 rw [head_1]
 rw [zqo (by omega)]
 rfl
theorem c194_2 (x y:UInt8) (H:PH):CK prog 194 [sl ([x,y])] H fun r H'=>r=headV (headB ([x,y]))∧H'=H:=by
 (refine fnS (imm:=imm194) ttC_ok func194 ?_;(conv=>whnf))
 refine ⟨fun _=>?_,fun h=>absurd (by first | decide | omega | (simp;done) | (simp;omega)) h⟩
 conv=>whnf
 refine ⟨⟨by first | decide | omega | (simp;done) | (simp;omega),by first | decide | omega | (simp;done) | (simp;omega)⟩,[bC x],at1 (k:=0*1) rfl,?_⟩
 conv=>whnf
 refine ⟨fun h1=>?_,fun h1=>?_⟩
 ·conv=>whnf
  have h1:(x.toNat:Int)<128:=h1
  refine dP2 (by kernel_rfl) ?_
  conv=>whnf
  (refine dS ?_;(conv=>whnf))
  refine ⟨.elem [bC x],⟨⟨by first | decide | omega | (simp;done) | (simp;omega),by first | decide | omega | (simp;done) | (simp;omega)⟩,[bC x],at1 (k:=0*1) rfl,rfl,rfl,zqv⟩,?_⟩
  conv=>whnf
  iterate 5 (refine dS ?_;(conv=>whnf))
  refine ⟨?_,rfl⟩
  rw [head_2]
  rw [zqp (by omega)]
  show PV.tup [_,PV.int .i64 (IntKind.i64.wrap (x.toNat:Int)),_]=PV.tup [_,_,_]
  rw [wrapB1]
  rfl
 conv=>whnf
 have h1:¬(x.toNat:Int)<128:=h1
 refine ⟨fun _=>?_,fun h=>absurd (by first | decide | omega | (simp;done) | (simp;omega)) h⟩
 conv=>whnf
 refine ⟨⟨by first | decide | omega | (simp;done) | (simp;omega),by first | decide | omega | (simp;done) | (simp;omega)⟩,[bC x],at1 (k:=0*1) rfl,?_⟩
 conv=>whnf
 refine ⟨fun h2=>?_,fun h2=>?_⟩
 ·conv=>whnf
  have h2:(x.toNat:Int)=129:=h2
  refine ⟨⟨by first | decide | omega | (simp;done) | (simp;omega),by first | decide | omega | (simp;done) | (simp;omega)⟩,[bC y],at1 (k:=1*1) rfl,?_⟩
  conv=>whnf
  refine ⟨fun h5=>?_,fun h5=>?_⟩
  ·conv=>whnf
   have h5:(128:Int)≤(y.toNat:Int):=h5
   refine dP2 (by kernel_rfl) ?_
   conv=>whnf
   (refine dS ?_;(conv=>whnf))
   refine ⟨.elem [bC y],⟨⟨by first | decide | omega | (simp;done) | (simp;omega),by first | decide | omega | (simp;done) | (simp;omega)⟩,[bC y],at1 (k:=1*1) rfl,rfl,rfl,zqv⟩,?_⟩
   conv=>whnf
   iterate 5 (refine dS ?_;(conv=>whnf))
   refine ⟨?_,rfl⟩
   rw [head_2]
   rw [zqo (by omega)]
   rw [zqp ⟨by omega,by omega⟩]
   show PV.tup [_,PV.int .i64 (IntKind.i64.wrap (y.toNat:Int)),_]=PV.tup [_,_,_]
   rw [wrapB1]
   rfl
  ·conv=>whnf
   have h5:¬(128:Int)≤(y.toNat:Int):=h5
   refine ⟨fun h=>absurd h (by first | decide | omega | (simp;done) | (simp;omega)),fun _=>?_⟩
   conv=>whnf
   refine ⟨?_,rfl⟩
   rw [head_2]
   rw [zqo (by omega)]
   rw [zqo (fun hh=>by omega)]
   rfl
 ·conv=>whnf
  have h2:¬(x.toNat:Int)=129:=h2
  refine ⟨fun h=>absurd h (by first | decide | omega | (simp;done) | (simp;omega)),fun _=>?_⟩
  conv=>whnf
  refine ⟨?_,rfl⟩
  rw [head_2]
  rw [zqo (by omega)]
  rw [zqo (fun hh=>by omega)]
  rfl
theorem c194_3 (x y z:UInt8) (t:List UInt8) (H:PH):CK prog 194 [sl (x::y::z::t)] H fun r H'=>r=headV (headB (x::y::z::t))∧H'=H:=by
 (refine fnS (imm:=imm194) ttC_ok func194 ?_;(conv=>whnf))
 refine ⟨fun _=>?_,fun h=>absurd (by first | decide | omega | (simp;done) | (simp;omega)) h⟩
 conv=>whnf
 refine ⟨⟨by first | decide | omega | (simp;done) | (simp;omega),by first | decide | omega | (simp;done) | (simp;omega)⟩,[bC x],at1 (k:=0*1) rfl,?_⟩
 conv=>whnf
 refine ⟨fun h1=>?_,fun h1=>?_⟩
 ·conv=>whnf
  have h1:(x.toNat:Int)<128:=h1
  refine dP2 (by kernel_rfl) ?_
  conv=>whnf
  (refine dS ?_;(conv=>whnf))
  refine ⟨.elem [bC x],⟨⟨by first | decide | omega | (simp;done) | (simp;omega),by first | decide | omega | (simp;done) | (simp;omega)⟩,[bC x],at1 (k:=0*1) rfl,rfl,rfl,zqv⟩,?_⟩
  conv=>whnf
  iterate 5 (refine dS ?_;(conv=>whnf))
  refine ⟨?_,rfl⟩
  rw [head_3]
  rw [zqp (by omega)]
  show PV.tup [_,PV.int .i64 (IntKind.i64.wrap (x.toNat:Int)),_]=PV.tup [_,_,_]
  rw [wrapB1]
  rfl
 conv=>whnf
 have h1:¬(x.toNat:Int)<128:=h1
 refine ⟨fun _=>?_,fun h=>absurd (by first | decide | omega | (simp;done) | (simp;omega)) h⟩
 conv=>whnf
 refine ⟨⟨by first | decide | omega | (simp;done) | (simp;omega),by first | decide | omega | (simp;done) | (simp;omega)⟩,[bC x],at1 (k:=0*1) rfl,?_⟩
 conv=>whnf
 refine ⟨fun h2=>?_,fun h2=>?_⟩
 ·conv=>whnf
  have h2:(x.toNat:Int)=129:=h2
  refine ⟨⟨by first | decide | omega | (simp;done) | (simp;omega),by first | decide | omega | (simp;done) | (simp;omega)⟩,[bC y],at1 (k:=1*1) rfl,?_⟩
  conv=>whnf
  refine ⟨fun h5=>?_,fun h5=>?_⟩
  ·conv=>whnf
   have h5:(128:Int)≤(y.toNat:Int):=h5
   refine dP2 (by kernel_rfl) ?_
   conv=>whnf
   (refine dS ?_;(conv=>whnf))
   refine ⟨.elem [bC y],⟨⟨by first | decide | omega | (simp;done) | (simp;omega),by first | decide | omega | (simp;done) | (simp;omega)⟩,[bC y],at1 (k:=1*1) rfl,rfl,rfl,zqv⟩,?_⟩
   conv=>whnf
   iterate 5 (refine dS ?_;(conv=>whnf))
   refine ⟨?_,rfl⟩
   rw [head_3]
   rw [zqo (by omega)]
   rw [zqp ⟨by omega,by omega⟩]
   show PV.tup [_,PV.int .i64 (IntKind.i64.wrap (y.toNat:Int)),_]=PV.tup [_,_,_]
   rw [wrapB1]
   rfl
  ·conv=>whnf
   have h5:¬(128:Int)≤(y.toNat:Int):=h5
   refine ⟨fun _=>?_,fun h=>absurd (by first | decide | omega | (simp;done) | (simp;omega)) h⟩
   conv=>whnf
   refine ⟨⟨by first | decide | omega | (simp;done) | (simp;omega),by first | decide | omega | (simp;done) | (simp;omega)⟩,[bC x],at1 (k:=0*1) rfl,?_⟩
   conv=>whnf
   refine ⟨fun h3=>?_,fun h3=>?_⟩
   ·conv=>whnf
    have h3:(x.toNat:Int)=130:=h3
    refine ⟨⟨by first | decide | omega | (simp;done) | (simp;omega),by first | decide | omega | (simp;done) | (simp;omega)⟩,[bC y],at1 (k:=1*1) rfl,?_⟩
    conv=>whnf
    refine ⟨fun h4=>?_,fun h4=>?_⟩
    ·conv=>whnf
     have h4:(0:Int)<(y.toNat:Int):=h4
     refine dP2 (by kernel_rfl) ?_
     conv=>whnf
     (refine dS ?_;(conv=>whnf))
     refine ⟨.elem [bC y],⟨⟨by first | decide | omega | (simp;done) | (simp;omega),by first | decide | omega | (simp;done) | (simp;omega)⟩,[bC y],at1 (k:=1*1) rfl,rfl,rfl,zqv⟩,?_⟩
     conv=>whnf
     iterate 4 (refine dS ?_;(conv=>whnf))
     refine ⟨.elem [bC z],⟨⟨by first | decide | omega | (simp;done) | (simp;omega),by first | decide | omega | (simp;done) | (simp;omega)⟩,[bC z],at1 (k:=2*1) rfl,rfl,rfl,zqv⟩,?_⟩
     conv=>whnf
     iterate 6 (refine dS ?_;(conv=>whnf))
     refine ⟨?_,rfl⟩
     rw [head_3]
     rw [zqo (by omega)]
     rw [zqo (fun hh=>by omega)]
     rw [zqp ⟨by omega,by omega⟩]
     show PV.tup [_,PV.int .i64 (IntKind.i64.wrap (ishl .i64 (IntKind.i64.wrap (y.toNat:Int)) 8+IntKind.i64.wrap (z.toNat:Int))),_]=PV.tup [_,_,_]
     rw [wrapB2]
     rfl
    ·conv=>whnf
     have h4:¬(0:Int)<(y.toNat:Int):=h4
     refine ⟨?_,rfl⟩
     rw [head_3]
     rw [zqo (by omega)]
     rw [zqo (fun hh=>by omega)]
     rw [zqo (fun hh=>by omega)]
     rfl
   ·conv=>whnf
    have h3:¬(x.toNat:Int)=130:=h3
    refine ⟨?_,rfl⟩
    rw [head_3]
    rw [zqo (by omega)]
    rw [zqo (fun hh=>by omega)]
    rw [zqo (fun hh=>by omega)]
    rfl
 ·conv=>whnf
  have h2:¬(x.toNat:Int)=129:=h2
  refine ⟨fun _=>?_,fun h=>absurd (by first | decide | omega | (simp;done) | (simp;omega)) h⟩
  conv=>whnf
  refine ⟨⟨by first | decide | omega | (simp;done) | (simp;omega),by first | decide | omega | (simp;done) | (simp;omega)⟩,[bC x],at1 (k:=0*1) rfl,?_⟩
  conv=>whnf
  refine ⟨fun h3=>?_,fun h3=>?_⟩
  ·conv=>whnf
   have h3:(x.toNat:Int)=130:=h3
   refine ⟨⟨by first | decide | omega | (simp;done) | (simp;omega),by first | decide | omega | (simp;done) | (simp;omega)⟩,[bC y],at1 (k:=1*1) rfl,?_⟩
   conv=>whnf
   refine ⟨fun h4=>?_,fun h4=>?_⟩
   ·conv=>whnf
    have h4:(0:Int)<(y.toNat:Int):=h4
    refine dP2 (by kernel_rfl) ?_
    conv=>whnf
    (refine dS ?_;(conv=>whnf))
    refine ⟨.elem [bC y],⟨⟨by first | decide | omega | (simp;done) | (simp;omega),by first | decide | omega | (simp;done) | (simp;omega)⟩,[bC y],at1 (k:=1*1) rfl,rfl,rfl,zqv⟩,?_⟩
    conv=>whnf
    iterate 4 (refine dS ?_;(conv=>whnf))
    refine ⟨.elem [bC z],⟨⟨by first | decide | omega | (simp;done) | (simp;omega),by first | decide | omega | (simp;done) | (simp;omega)⟩,[bC z],at1 (k:=2*1) rfl,rfl,rfl,zqv⟩,?_⟩
    conv=>whnf
    iterate 6 (refine dS ?_;(conv=>whnf))
    refine ⟨?_,rfl⟩
    rw [head_3]
    rw [zqo (by omega)]
    rw [zqo (fun hh=>by omega)]
    rw [zqp ⟨by omega,by omega⟩]
    show PV.tup [_,PV.int .i64 (IntKind.i64.wrap (ishl .i64 (IntKind.i64.wrap (y.toNat:Int)) 8+IntKind.i64.wrap (z.toNat:Int))),_]=PV.tup [_,_,_]
    rw [wrapB2]
    rfl
   ·conv=>whnf
    have h4:¬(0:Int)<(y.toNat:Int):=h4
    refine ⟨?_,rfl⟩
    rw [head_3]
    rw [zqo (by omega)]
    rw [zqo (fun hh=>by omega)]
    rw [zqo (fun hh=>by omega)]
    rfl
  ·conv=>whnf
   have h3:¬(x.toNat:Int)=130:=h3
   refine ⟨?_,rfl⟩
   rw [head_3]
   rw [zqo (by omega)]
   rw [zqo (fun hh=>by omega)]
   rw [zqo (fun hh=>by omega)]
   rfl
theorem c194 (b:List UInt8):Pure prog 194 [sl b] (headV (headB b)):=fun H=>match b with
 | []=>c194_0 H
 | [x]=>c194_1 x H
 | [x,y]=>c194_2 x y H
 | x::y::z::r=>c194_3 x y z r H
theorem c132 (a b:List UInt8):Pure prog 132 [sl a,sl b] (.bool (decide (a=b))):=by
 intro H
 (refine fnS (imm:=imm132) ttC_ok func132 ?_;(conv=>whnf))
 refine ⟨a,⟨rfl,rfl⟩,?_⟩
 conv=>whnf
 refine ⟨b,⟨rfl,rfl⟩,?_⟩
 conv=>whnf
 refine ⟨fun h=>?_,fun h=>?_⟩
 ·conv=>whnf
  exact ⟨zqm PV.bool (zqe h).symm,rfl⟩
 ·conv=>whnf
  exact ⟨zqm PV.bool (zqd h).symm,rfl⟩
def isNumB:List UInt8→Bool
 | []=>false
 | [x]=>decide (x.toNat<128)
 | x::y::t=>decide (t.length≤6)&&(decide (x.toNat<128)&&(decide (x.toNat≠0)||decide (128≤y.toNat)))
theorem c174 (b:List UInt8):Pure prog 174 [sl b] (.bool (isNumB b)):=by
 intro H
 (refine fnS (imm:=imm174) ttC_ok func174 ?_;(conv=>whnf))
 match b with
 | [] =>
  refine ⟨fun _=>?_,fun h=>absurd rfl h⟩
  conv=>whnf
  exact ⟨rfl,rfl⟩
 | [x] =>
  refine ⟨fun h=>absurd h (by simp),fun _=>?_⟩
  conv=>whnf
  refine ⟨fun h=>absurd h (by simp),fun _=>?_⟩
  conv=>whnf
  refine ⟨⟨by decide,by simp⟩,[bC x],at1 (k:=0*1) rfl,?_⟩
  conv=>whnf
  refine ⟨fun h=>?_,fun h=>?_⟩
  ·conv=>whnf
   have h:(128:Int)≤(x.toNat:Int):=h
   exact ⟨zqm PV.bool (zqd (by omega)).symm,rfl⟩
  ·conv=>whnf
   have h:¬(128:Int)≤(x.toNat:Int):=h
   refine ⟨fun h=>absurd h (by simp),fun _=>?_⟩
   conv=>whnf
   exact ⟨zqm PV.bool (zqe (by omega)).symm,rfl⟩
 | x::y::t =>
  refine ⟨fun h=>absurd h (by simp;omega),fun _=>?_⟩
  conv=>whnf
  refine ⟨fun h=>?_,fun h=>?_⟩
  ·conv=>whnf
   have h:(8:Int)<((t.length+1+1:Nat):Int):=h
   exact ⟨zqm PV.bool (show false=(decide (t.length≤6)&&_) by rw [zqd (by omega)];rfl),rfl⟩
  conv=>whnf
  have h:¬(8:Int)<((t.length+1+1:Nat):Int):=h
  have e1:decide (t.length≤6)=true:=zqe (by omega)
  refine ⟨⟨by decide,by simp;omega⟩,[bC x],at1 (k:=0*1) rfl,?_⟩
  conv=>whnf
  refine ⟨fun h2=>?_,fun h2=>?_⟩
  ·conv=>whnf
   have h2:(128:Int)≤(x.toNat:Int):=h2
   exact ⟨zqm PV.bool (show false=(decide (t.length≤6)&&(decide (x.toNat<128)&&_)) by rw [e1,zqd (show ¬x.toNat<128 by omega)];rfl),rfl⟩
  conv=>whnf
  have h2:¬(128:Int)≤(x.toNat:Int):=h2
  have e2:decide (x.toNat<128)=true:=zqe (by omega)
  refine ⟨fun _=>?_,fun h=>absurd (by simp;omega) h⟩
  conv=>whnf
  refine ⟨⟨by decide,by simp;omega⟩,[bC x],at1 (k:=0*1) rfl,?_⟩
  conv=>whnf
  refine ⟨fun h3=>?_,fun h3=>?_⟩
  ·conv=>whnf
   have h3:(x.toNat:Int)=0:=h3
   have e3:decide (x.toNat≠0)=false:=zqd (by omega)
   refine ⟨⟨by decide,by simp;omega⟩,[bC y],at1 (k:=1*1) rfl,?_⟩
   conv=>whnf
   refine ⟨fun h4=>?_,fun h4=>?_⟩
   ·conv=>whnf
    have h4:(128:Int)≤(y.toNat:Int):=h4
    exact ⟨zqm PV.bool (show true=(decide (t.length≤6)&&(decide (x.toNat<128)&&(decide (x.toNat≠0)||decide (128≤y.toNat)))) by rw [e1,e2,e3,zqe (show 128≤y.toNat by omega)];rfl),rfl⟩
   ·conv=>whnf
    have h4:¬(128:Int)≤(y.toNat:Int):=h4
    exact ⟨zqm PV.bool (show false=(decide (t.length≤6)&&(decide (x.toNat<128)&&(decide (x.toNat≠0)||decide (128≤y.toNat)))) by rw [e1,e2,e3,zqd (show ¬128≤y.toNat by omega)];rfl),rfl⟩
  ·conv=>whnf
   have h3:¬(x.toNat:Int)=0:=h3
   have e3:decide (x.toNat≠0)=true:=zqe (by omega)
   exact ⟨zqm PV.bool (show true=(decide (t.length≤6)&&(decide (x.toNat<128)&&(decide (x.toNat≠0)||decide (128≤y.toNat)))) by rw [e1,e2,e3];rfl),rfl⟩
theorem c170 (b:List UInt8) (hb:b.length≤140737488355328) (H:PH):CK prog 170 [sl b] H fun r H'=>r=.ptr (some (H.length,0))∧H'=H++[⟨265,[sl b,.bool false],0⟩]:=by
 (refine fnS (imm:=imm170) ttC_ok func170 ?_;(conv=>whnf))
 refine cP (c131 b hb) ?_
 conv=>whnf
 exact ⟨rfl,rfl⟩
def elemB (tag:UInt8):List UInt8→Option (List UInt8×List UInt8)
 | []=>none
 | t::b=>if t=tag then (if (headB b).2.2=true∧(headB b).1+(headB b).2.1≤b.length then some ((b.drop (headB b).1).take (headB b).2.1,b.drop ((headB b).1+(headB b).2.1)) else none) else none
def elemC (tag:UInt8) (s:Option (List UInt8)):Option (List UInt8)×Option (List UInt8):=match s with
 | none=>(none,none)
 | some l=>match elemB tag l with
  | none=>(none,none)
  | some (x,r)=>(some r,some x)
theorem head_le (b:List UInt8):(headB b).2.2=true→(headB b).1≤3∧(headB b).1≤b.length∧(headB b).2.1≤65535:=by
 match b with
 | []=>intro h;cases h
 | [x] =>
  rw [head_1]
  have:=x.toNat_lt
  split <;> intro h <;> first | (cases h;done) | (simp;omega)
 | [x,y] =>
  rw [head_2]
  have:=x.toNat_lt
  have:=y.toNat_lt
  split <;> (try split) <;> intro h <;> first | (cases h;done) | (simp;omega)
 | x::y::z::t =>
  rw [head_3]
  have:=x.toNat_lt
  have:=y.toNat_lt
  have:=z.toNat_lt
  split <;> (try split) <;> (try split) <;> intro h <;> first | (cases h;done) | (simp;omega)
theorem sl_cut (b:List UInt8) (l h:Int) (h0:0≤l∧l≤h∧h≤b.length) :
  PV.slice (h.toNat - l.toNat) (((b.map bC).take (h.toNat*1)).drop (l.toNat*1)) none=sl ((b.take h.toNat).drop l.toNat):=by
 unfold sl
 have:((b.take h.toNat).drop l.toNat).length=h.toNat - l.toNat:=by rw [List.length_drop,zqr];omega
 rw [this,List.map_drop,List.map_take,Nat.mul_one,Nat.mul_one]
def elemV (o:Option (List UInt8)):PV:=.tup [slo (o.getD []) (some 5),.bool o.isSome]
theorem elemC_bad {tag:UInt8} {l:List UInt8} (h:elemB tag l=none):elemC tag (some l)=(none,none):=by
 show (match elemB tag l with | none=>(none,none) | some (x,r)=>(some r,some x))=_
 rw [h]
def curStep (tag:UInt8) (s:Option (List UInt8)) (v:Nat):PObj:=match (elemC tag s).1 with
 | some r=>⟨265,[sl r,.bool false],v+1⟩
 | none=>⟨265,[.nilS,.bool true],v+2⟩
theorem curStep_no {tag:UInt8} {s:Option (List UInt8)} {v:Nat} (h:elemC tag s=(none,none)):curStep tag s v=⟨265,[.nilS,.bool true],v+2⟩:=by unfold curStep;rw [h]
theorem curStep_yes {tag:UInt8} {s:Option (List UInt8)} {v:Nat} {r x:List UInt8} (h:elemC tag s=(some r,some x)):curStep tag s v=⟨265,[sl r,.bool false],v+1⟩:=by unfold curStep;rw [h]
theorem c173 (c:Nat) (tag:UInt8) (s:Option (List UInt8)) (H:PH) (hc:curAt H c s) (hl:∀l,s=some l→l.length≤140737488355328) :
  CK prog 173 [.ptr (some (c,0)),bC tag] H fun r H'=>r=elemV (elemC tag s).2∧Upd (·=c) H H'∧curAt H' c (elemC tag s).1∧∀y u,H[c]? = some ⟨265,[y,.bool s.isNone],u⟩→H'=H.set c (curStep tag s u):=by
 (refine fnS (imm:=imm173) ttC_ok func173 ?_;(conv=>whnf))
 refine cO (c193 c s H hc) ?_
 rintro _ _ ⟨rfl,rfl⟩
 rename_i H
 have errs:∀(K:PV→PH→Prop),elemC tag s=(none,none)→(∀H',Upd (·=c) H H'→curAt H' c none→(∀y u,H[c]? = some ⟨265,[y,.bool s.isNone],u⟩→H'=H.set c (curStep tag s u))→K (.slice 0 [] (some 5)) H')→callK prog 175 [.ptr (some (c,0))] H K:=fun K he k =>
  cO (c175 c s H hc) fun r H' ⟨h1,h2,h3,h4⟩=>by rw [h1];exact k H' h2 h3 fun y u hy=>by rw [curStep_no he];exact h4 y u hy
 cases s with
 | none =>
  conv=>whnf
  refine errs _ rfl fun H' h1 h2 h3=>?_
  conv=>whnf
  exact ⟨rfl,h1,h2,h3⟩
 | some l =>
  have hll:=hl l rfl
  obtain ⟨x,v,hc0,hx⟩:=hc
  have hx:=hx l rfl
  subst hx
  conv=>whnf
  ((conv in (_[_]?)=>tactic=>exact hc0);(conv=>whnf))
  cases l with
  | nil =>
   refine ⟨fun _=>?_,fun h=>absurd rfl h⟩
   conv=>whnf
   refine errs _ rfl fun H' h1 h2 h3=>?_
   conv=>whnf
   exact ⟨rfl,h1,h2,h3⟩
  | cons t b =>
   refine ⟨fun h=>absurd h (by simp <;> omega),fun _=>?_⟩
   conv=>whnf
   ((conv in (_[_]?)=>tactic=>exact hc0);(conv=>whnf))
   refine ⟨⟨by decide,by first | (simp;done) | (simp;omega)⟩,[bC t],at1 (k:=0*1) rfl,?_⟩
   conv=>whnf
   refine ⟨fun h=>?_,fun h=>?_⟩
   ·have ht:t=tag:=by
     have h:(t.toNat:Int)=(tag.toNat:Int):=h
     exact UInt8.toNat_inj.1 (by omega)
    subst ht
    conv=>whnf
    refine cutK_of [(0,.ptr (some (c,0))),(6,sl b)] H ?_ ?_
    rotate_left
    ·conv=>whnf
     ((conv in (_[_]?)=>tactic=>exact hc0);(conv=>whnf))
     refine ⟨⟨by decide,by simp <;> omega,by simp⟩,?_⟩
     conv=>whnf
     have e:=sl_cut (t::b) 1 ((t::b).length:Int) ⟨by decide,by simp <;> omega,by simp⟩
     refine ⟨(),trivial,⟨rfl,e.trans (by rw [Int.toNat_natCast,List.take_length];rfl),zqv⟩,rfl⟩
    conv=>whnf
    refine cP (c194 b) ?_
    have hle:=head_le b
    have heb:elemB t (t::b)=if (headB b).2.2=true∧(headB b).1+(headB b).2.1≤b.length then some ((b.drop (headB b).1).take (headB b).2.1,b.drop ((headB b).1+(headB b).2.1)) else none:=by
     show (if t=t then _ else none)=_
     rw [zqp rfl]
    revert hle heb
    generalize hq:headB b=q
    obtain ⟨at',n,ok⟩:=q
    intro hle heb
    have hbl:b.length+1≤140737488355328:=hll
    cases ok
    ·conv=>whnf
     refine errs _ (elemC_bad (by rw [heb];rfl)) fun H' h1 h2 h3=>?_
     conv=>whnf
     rw [elemC_bad (by rw [heb];rfl)]
     exact ⟨rfl,h1,h2,h3⟩
    ·obtain ⟨k1,k2,k3⟩:=hle rfl
     have k1:at'≤3:=k1
     have k2:at'≤b.length:=k2
     have k3:n≤65535:=k3
     conv=>whnf
     have hw:IntKind.i64.wrap ((b.length:Int) - (at':Int))=(b.length:Int) - at':=by rw [w64 (by omega) (by omega)]
     have hw2:IntKind.i64.wrap ((at':Int)+(n:Int))=((at'+n:Nat):Int):=by rw [w64 (by omega) (by omega)];rfl
     refine ⟨fun h=>?_,fun h=>?_⟩
     ·conv=>whnf
      have h:IntKind.i64.wrap ((b.length:Int) - (at':Int))<(n:Int):=h
      rw [hw] at h
      have hn:elemB t (t::b)=none:=by rw [heb,zqo (fun hh=>by have hh:at'+n≤b.length:=hh.2;omega)]
      refine errs _ (elemC_bad hn) fun H' h1 h2 h3=>?_
      conv=>whnf
      rw [elemC_bad hn]
      exact ⟨rfl,h1,h2,h3⟩
     ·conv=>whnf
      have h:¬IntKind.i64.wrap ((b.length:Int) - (at':Int))<(n:Int):=h
      rw [hw] at h
      have hfit:at'+n≤b.length:=by omega
      have hs:elemC t (some (t::b))=(some (b.drop (at'+n)),some ((b.drop at').take n)):=by
       show (match elemB t (t::b) with | none=>(none,none) | some (x,r)=>(some r,some x))=_
       rw [heb,zqp ⟨rfl,hfit⟩]
      refine ⟨⟨by show 0≤IntKind.i64.wrap ((at':Int)+(n:Int));rw [hw2];omega,by show IntKind.i64.wrap ((at':Int)+(n:Int))≤(b.length:Int);rw [hw2];omega,by omega⟩,?_⟩
      conv=>whnf
      ((conv in (_[_]?)=>tactic=>exact hc0);(conv=>whnf))
      refine ⟨⟨by show (0:Int)≤(at':Int);omega,by show (at':Int)≤IntKind.i64.wrap ((at':Int)+(n:Int));rw [hw2];omega,by show IntKind.i64.wrap ((at':Int)+(n:Int))≤(b.length:Int);rw [hw2];omega⟩,?_⟩
      conv=>whnf
      have e1:=sl_cut b (at':Int) (IntKind.i64.wrap ((at':Int)+(n:Int))) ⟨by omega,by rw [hw2];omega,by rw [hw2];omega⟩
      have e2:=sl_cut b (IntKind.i64.wrap ((at':Int)+(n:Int))) (b.length:Int) ⟨by rw [hw2];omega,by rw [hw2];omega,by omega⟩
      have e3:(b.take (IntKind.i64.wrap ((at':Int)+(n:Int))).toNat).drop (at':Int).toNat=(b.drop at').take n:=by
       rw [hw2,Int.toNat_natCast,Int.toNat_natCast,List.drop_take]
       congr 1;omega
      have e4:(b.take (b.length:Int).toNat).drop (IntKind.i64.wrap ((at':Int)+(n:Int))).toNat=b.drop (at'+n):=by
       rw [hw2,Int.toNat_natCast,Int.toNat_natCast,List.take_length]
      refine cA (args':=[sl ((b.drop at').take n)]) (zqm (fun x=>[x]) (e1.trans (by rw [e3]))) (cP (c131 _ (by rw [zqr,List.length_drop];omega)) ?_)
      conv=>whnf
      rw [hs]
      exact ⟨rfl,(Upd.refl (X:=(·=c)) H).set (c:=c) (.inl rfl) _,⟨_,v+1,gS hc0,fun l hl=>by
       have hl:b.drop (at'+n)=l:=Option.some.inj hl
       rw [←hl]
       exact e2.trans (by rw [e4])⟩,fun y u hy=>by
       rw [hc0] at hy
       cases hy
       rw [curStep_yes hs,←e4,←e2];rfl⟩
   ·have ht:¬t=tag:=fun e=>h (show (t.toNat:Int)=(tag.toNat:Int) by rw [e])
    have hn:elemB tag (t::b)=none:=by
     show (if t=tag then _ else none)=none
     rw [zqo ht]
    conv=>whnf
    refine errs _ (elemC_bad hn) fun H' h1 h2 h3=>?_
    conv=>whnf
    rw [elemC_bad hn]
    exact ⟨rfl,h1,h2,h3⟩
theorem c171 (c:Nat) (tag:UInt8) (s:Option (List UInt8)) (H:PH) (hc:curAt H c s) (hl:∀l,s=some l→l.length≤140737488355328) :
  CK prog 171 [.ptr (some (c,0)),bC tag] H fun r H'=>∃d,r=.ptr (some (d,0))∧H.length≤d∧Upd (·=c) H H'∧curAt H' c (elemC tag s).1∧curAt H' d (elemC tag s).2:=by
 (refine fnS (imm:=imm171) ttC_ok func171 ?_;(conv=>whnf))
 refine cO (c173 c tag s H hc hl) ?_
 rintro _ H1 ⟨rfl,h1,h2,h3⟩
 revert h2
 generalize elemC tag s=q
 obtain ⟨s',o⟩:=q
 intro h2
 have h2:curAt H1 c s':=h2
 cases o with
 | none =>
  conv=>whnf
  exact ⟨H1.length,rfl,h1.1,h1.push _,h2.keep (X:=fun _=>False) ((Upd.refl H1).push _) (fun f=>f),_,0,gL _ _,fun l hl=>by cases hl⟩
 | some x =>
  conv=>whnf
  exact ⟨H1.length,rfl,h1.1,h1.push _,h2.keep (X:=fun _=>False) ((Upd.refl H1).push _) (fun f=>f),sl x,0,gL _ _,fun l hl=>by cases hl;rfl⟩
theorem c172 (c:Nat) (s:Option (List UInt8)) (H:PH) (hc:curAt H c s) (hl:∀l,s=some l→l.length≤140737488355328) :
  CK prog 172 [.ptr (some (c,0))] H fun r H'=>r=.str ((elemC 27 s).2.getD [])∧Upd (·=c) H H'∧curAt H' c (elemC 27 s).1:=by
 (refine fnS (imm:=imm172) ttC_ok func172 ?_;(conv=>whnf))
 refine cO (c173 c 27 s H hc hl) ?_
 rintro _ H1 ⟨rfl,h1,h2,h3⟩
 conv=>whnf
 refine ⟨_,⟨rfl,rfl⟩,?_⟩
 conv=>whnf
 exact ⟨rfl,h1,h2⟩
theorem c137 (c:Nat) (s:Option (List UInt8)) (H:PH) (hc:curAt H c s) (hl:∀l,s=some l→l.length≤140737488355328) :
  CK prog 137 [.ptr (some (c,0))] H fun r H'=>r=sl ((elemC 4 s).2.getD [])∧Upd (·=c) H H'∧curAt H' c (elemC 4 s).1∧∀y u,H[c]? = some ⟨265,[y,.bool s.isNone],u⟩→H'=H.set c (curStep 4 s u):=by
 (refine fnS (imm:=imm137) ttC_ok func137 ?_;(conv=>whnf))
 refine cO (c173 c 4 s H hc hl) ?_
 rintro _ H1 ⟨rfl,h1,h2,h3⟩
 conv=>whnf
 exact ⟨rfl,h1,h2,h3⟩
def numW (l:List UInt8):Int:=l.foldl (fun n x=>IntKind.i64.wrap (ishl .i64 n 8+IntKind.i64.wrap (x.toNat:Int))) 0
def intR (s':Option (List UInt8)):Option (List UInt8)→Option (List UInt8)×Int
 | none=>(s',0)
 | some b=>if isNumB b=true∧numW (b.take 8)≤4611686018427387904 then (s',numW (b.take 8)) else (none,0)
def intC (s:Option (List UInt8)):Option (List UInt8)×Int:=intR (elemC 2 s).1 (elemC 2 s).2
theorem intR_no {s':Option (List UInt8)} {b:List UInt8} (h:¬(isNumB b=true∧numW (b.take 8)≤4611686018427387904)):intR s' (some b)=(none,0):=zqo h
theorem intR_yes {s':Option (List UInt8)} {b:List UInt8} (h:isNumB b=true∧numW (b.take 8)≤4611686018427387904):intR s' (some b)=(s',numW (b.take 8)):=zqp h
structure NuS where
 k:Nat
theorem c135 (c:Nat) (s:Option (List UInt8)) (H:PH) (hc:curAt H c s) (hl:∀l,s=some l→l.length≤140737488355328) :
  CK prog 135 [.ptr (some (c,0))] H fun r H'=>r=.int .i64 (intC s).2∧Upd (·=c) H H'∧curAt H' c (intC s).1:=by
 (refine fnS (imm:=imm135) ttC_ok func135 ?_;(conv=>whnf))
 refine cO (c173 c 2 s H hc hl) ?_
 rintro _ H1 ⟨rfl,h1,h2,h3⟩
 unfold intC
 revert h2
 generalize elemC 2 s=q
 obtain ⟨s',o⟩:=q
 intro h2
 have h2:curAt H1 c s':=h2
 cases o with
 | none =>
  conv=>whnf
  exact ⟨rfl,h1,h2⟩
 | some b =>
  conv=>whnf
  have hcut:=sl_cut b 0 (min (b.length:Int) 8) ⟨by decide,by omega,by omega⟩
  have hL:(b.take (min (b.length:Int) 8).toNat).drop (0:Int).toNat=b.take 8:=by
   show (b.take (min (b.length:Int) 8).toNat).drop 0=_
   rw [List.drop_zero]
   by_cases h:b.length≤8
   ·rw [show (min (b.length:Int) 8).toNat=b.length by omega,List.take_length,List.take_of_length_le h]
   ·rw [show (min (b.length:Int) 8).toNat=8 by omega]
  rw [hL] at hcut
  have hm:(min (b.length:Int) 8).toNat - (0:Int).toNat=(b.take 8).length:=by rw [zqr];omega
  refine ⟨⟨by decide,by show (0:Int)≤min (b.length:Int) 8;omega,by show min (b.length:Int) 8≤(b.length:Int);omega⟩,?_⟩
  conv=>whnf
  refine lO NuS (fun x=>[(0,.ptr (some (c,0))),(3,slo b (some 5)),(19,sl (b.take 8)),(20,.int .i64 (b.take 8).length),(21,.int .i64 x.k),(5,.int .i64 (numW ((b.take 8).take x.k)))]) (fun _=>H1) (fun x=>x.k≤(b.take 8).length) (fun x=>(b.take 8).length - x.k)
   ⟨⟨0⟩,Nat.zero_le _,⟨rfl,rfl,hcut,zqm (fun n:Nat=>PV.int .i64 (n:Int)) hm,rfl,rfl,zqv⟩,rfl⟩ ?_
  rintro ⟨k⟩ hk
  have hk:k≤(b.take 8).length:=hk
  have h8:(b.take 8).length≤8:=by rw [zqr];omega
  conv=>whnf
  refine ⟨fun h=>?_,fun h=>?_⟩
  ·conv=>whnf
   have h:(k:Int)<((b.take 8).length:Int):=h
   have hi:k<(b.take 8).length:=by omega
   refine ⟨⟨by show (0:Int)≤(k:Int);omega,h⟩,[bC (b.take 8)[k]],at1 ?_,?_⟩
   ·show ((b.take 8).map bC)[(k:Int).toNat*1]? = _
    rw [Int.toNat_natCast,Nat.mul_one,List.getElem?_map,zqc hi];rfl
   conv=>whnf
   refine ⟨by decide,?_⟩
   conv=>whnf
   refine ⟨⟨k+1⟩,by show k+1≤_;omega,⟨rfl,rfl,rfl,rfl,?_,?_,zqv⟩,rfl,by show (b.take 8).length - (k+1)<(b.take 8).length - k;omega⟩
   ·show PV.int _ (IntKind.i64.wrap ((k:Int)+1))=PV.int _ ((k+1:Nat):Int)
    rw [w64 (by omega) (by omega)];rfl
   ·rw [List.take_succ_eq_append_getElem hi]
    unfold numW
    rw [List.foldl_append]
    rfl
  ·conv=>whnf
   have h:¬(k:Int)<((b.take 8).length:Int):=h
   rw [List.take_of_length_le (l:=b.take 8) (by omega)]
   refine cP (c174 b) ?_
   cases hn:isNumB b
   ·conv=>whnf
    refine cO (c175 c s' H1 h2) fun r H2 ⟨k1,k2,k3,_⟩=>?_
    subst k1
    conv=>whnf
    have hq:intR s' (some b)=(none,0):=intR_no (fun hh=>by rw [hn] at hh;cases hh.1)
    rw [show intR (s',some b).1 (s',some b).2=(none,0) from hq]
    exact ⟨rfl,h1.trans k2,k3⟩
   ·conv=>whnf
    refine ⟨fun h5=>?_,fun h5=>?_⟩
    ·conv=>whnf
     have h5:(4611686018427387904:Int)<numW (b.take 8):=h5
     refine cO (c175 c s' H1 h2) fun r H2 ⟨k1,k2,k3,_⟩=>?_
     subst k1
     conv=>whnf
     have hq:intR s' (some b)=(none,0):=intR_no (fun hh=>by omega)
     rw [show intR (s',some b).1 (s',some b).2=(none,0) from hq]
     exact ⟨rfl,h1.trans k2,k3⟩
    ·conv=>whnf
     have h5:¬(4611686018427387904:Int)<numW (b.take 8):=h5
     have hq:intR s' (some b)=(s',numW (b.take 8)):=intR_yes ⟨hn,by omega⟩
     rw [show intR (s',some b).1 (s',some b).2=(s',numW (b.take 8)) from hq]
     exact ⟨rfl,h1,h2⟩
theorem lenB_head (n:Nat) (hn:n≤65535) (r:List UInt8):headB (lenB n++r)=((lenB n).length,n,true):=by
 unfold lenB
 split
 ·rename_i h
  have e:(UInt8.ofNat n).toNat=n:=by rw [UInt8.toNat_ofNat'];omega
  match r with
  | []=>show headB [_]=_;rw [head_1,e,zqp h];rfl
  | [y]=>show headB [_,_]=_;rw [head_2,e,zqp h];rfl
  | y::z::t=>show headB (_::_::_::_)=_;rw [head_3,e,zqp h];rfl
 ·rename_i h
  split
  ·rename_i h2
   have e:(UInt8.ofNat n).toNat=n:=by rw [UInt8.toNat_ofNat'];omega
   match r with
   | []=>show headB [_,_]=_;rw [head_2,e,zqo (by decide),zqp ⟨by decide,by omega⟩];rfl
   | y::t=>show headB (_::_::_::_)=_;rw [head_3,e,zqo (by decide),zqp ⟨by decide,by omega⟩];rfl
  ·rename_i h2
   have e1:(UInt8.ofNat (n / 256)).toNat=n / 256:=by rw [UInt8.toNat_ofNat'];omega
   have e2:(UInt8.ofNat n).toNat=n % 256:=by rw [UInt8.toNat_ofNat']
   show headB (_::_::_::_)=_
   rw [head_3,e1,e2,zqo (by decide),zqo (fun hh=>absurd hh.1 (by decide)),zqp ⟨by decide,by omega⟩]
   show (3,n / 256*256+n % 256,true)=(3,n,true)
   rw [show n / 256*256+n % 256=n by omega]
theorem elem_wrap (tag:UInt8) (x rest:List UInt8) (hx:x.length≤65535):elemB tag (wrapB tag x++rest)=some (x,rest):=by
 have e:wrapB tag x++rest=tag::(lenB x.length++(x++rest)):=by unfold wrapB;simp
 rw [e]
 show (if tag=tag then (if (headB (lenB x.length++(x++rest))).2.2=true∧(headB (lenB x.length++(x++rest))).1+(headB (lenB x.length++(x++rest))).2.1≤(lenB x.length++(x++rest)).length then some (((lenB x.length++(x++rest)).drop (headB (lenB x.length++(x++rest))).1).take (headB (lenB x.length++(x++rest))).2.1,(lenB x.length++(x++rest)).drop ((headB (lenB x.length++(x++rest))).1+(headB (lenB x.length++(x++rest))).2.1)) else none) else none)=_
 rw [zqp rfl,lenB_head _ hx]
 rw [zqp ⟨rfl,by show (lenB x.length).length+x.length≤_;simp⟩]
 show some (((lenB x.length++(x++rest)).drop (lenB x.length).length).take x.length,(lenB x.length++(x++rest)).drop ((lenB x.length).length+x.length))=_
 rw [List.drop_left,List.take_left,←List.drop_drop,List.drop_left,List.drop_left]
theorem elemC_wrap (tag:UInt8) (x rest:List UInt8) (hx:x.length≤65535):elemC tag (some (wrapB tag x++rest))=(some rest,some x):=by
 show (match elemB tag (wrapB tag x++rest) with | none=>(none,none) | some (x,r)=>(some r,some x))=_
 rw [elem_wrap tag x rest hx]
theorem ishl8 (v:Int):ishl .i64 v 8=IntKind.i64.wrap (v*256):=by
 unfold ishl
 rw [show (2:Int) ^ (min (Int.toNat 8) IntKind.i64.bits)=256 from rfl]
def stepV (n:Nat) (x:UInt8):Nat:=n*256+x.toNat
def valB (l:List UInt8):Nat:=l.foldl stepV 0
theorem fold_pow:∀(l:List UInt8) (a:Nat),a*256 ^ l.length≤l.foldl stepV a
 | [],a=>by simp
 | x::l,a=>by
  have h:=fold_pow l (stepV a x)
  refine Nat.le_trans ?_ h
  unfold stepV
  rw [List.length_cons,Nat.pow_succ,Nat.mul_comm (256 ^ l.length) 256,←Nat.mul_assoc]
  exact Nat.mul_le_mul_right _ (Nat.le_add_right _ _)
theorem fold_ge (l:List UInt8) (a:Nat):a≤l.foldl stepV a :=
 Nat.le_trans (Nat.le_mul_of_pos_right _ (Nat.pow_pos (by decide))) (fold_pow l a)
theorem numW_fold:∀(l:List UInt8) (a:Nat),l.foldl stepV a<9223372036854775808→l.foldl (fun n x=>IntKind.i64.wrap (ishl .i64 n 8+IntKind.i64.wrap (x.toNat:Int))) (a:Int)=((l.foldl stepV a:Nat):Int)
 | [],a,_=>rfl
 | x::l,a,h=>by
  have h:l.foldl stepV (stepV a x)<9223372036854775808:=h
  have h1:=fold_ge l (stepV a x)
  have h2:stepV a x=a*256+x.toNat:=rfl
  have hx:=x.toNat_lt
  show l.foldl _ (IntKind.i64.wrap (ishl .i64 (a:Int) 8+IntKind.i64.wrap (x.toNat:Int)))=((l.foldl stepV (stepV a x):Nat):Int)
  rw [←numW_fold l (stepV a x) h]
  congr 1
  rw [ishl8,wrapB1,w64 (x:=(a:Int)*256) (by omega) (by omega),w64 (by omega) (by omega),h2]
  omega
theorem numW_val (l:List UInt8) (h:valB l<9223372036854775808):numW l=(valB l:Int):=numW_fold l 0 h
theorem le_val:∀(f n:Nat),n<256 ^ f→valB (le f n).reverse=n
 | 0,n,h=>by simp at h;subst h;rfl
 | f+1,n,h=>by
  unfold le
  split
  ·rename_i e;rw [e];rfl
  ·rw [List.reverse_cons]
   unfold valB
   rw [List.foldl_append]
   have ih:(le f (n / 256)).reverse.foldl stepV 0=n / 256:=le_val f (n / 256) (by rw [Nat.pow_succ] at h;omega)
   rw [ih]
   show n / 256*256+(UInt8.ofNat n).toNat=n
   rw [UInt8.toNat_ofNat'];omega
theorem le_top:∀(f n:Nat),n<256 ^ f→∀x t,(le f n).reverse=x::t→0<x.toNat
 | 0,n,_=>fun x t e=>by simp [le] at e
 | f+1,n,h=>fun x t e=>by
  have h':n / 256<256 ^ f:=by rw [Nat.pow_succ] at h;omega
  unfold le at e
  split at e
  ·cases e
  ·rename_i hn
   rw [List.reverse_cons] at e
   cases hd:(le f (n / 256)).reverse with
   | nil =>
    have hv:=le_val f (n / 256) h'
    rw [hd] at hv
    have hv:0=n / 256:=hv
    rw [hd] at e
    cases e
    rw [UInt8.toNat_ofNat'];omega
   | cons y u =>
    rw [hd] at e
    cases e
    exact le_top f (n / 256) h' _ _ hd
theorem le_nil (f n:Nat) (h:n<256 ^ f) (e:le f n=[]):n=0:=by
 have:=le_val f n h
 rw [e] at this
 exact this.symm
theorem intB_ok (n : Nat) (hn : n ≤ 4611686018427387904) : isNumB (intB n) = true ∧ valB (intB n) = n ∧ (intB n).length ≤ 8 := by
  have h9 : n < 256 ^ 9 := by omega
  have hv := le_val 9 n h9
  have ht := le_top 9 n h9
  unfold intB padB
  generalize hd : (le 9 n).reverse = b at hv ht
  have hl : le 9 n = b.reverse := by rw [← hd, List.reverse_reverse]
  rw [hl]
  cases b with
  | nil => exact ⟨by decide, by rw [← hv]; rfl, by decide⟩
  | cons x t =>
    have hx := ht x t rfl
    have hp : x.toNat * 256 ^ t.length ≤ n := by
      have h := fold_pow t (stepV 0 x)
      have e : t.foldl stepV (stepV 0 x) = n := hv
      rw [e] at h
      have e2 : stepV 0 x = x.toNat := by unfold stepV; omega
      rw [e2] at h; exact h
    have hg : ((x :: t).reverse.getLast?.getD 0) = x := by simp
    rw [hg]
    have p7 : 7 ≤ t.length → 256 ^ 7 ≤ 256 ^ t.length := fun h => Nat.pow_le_pow_right (by decide) h
    have p8 : 8 ≤ t.length → 256 ^ 8 ≤ 256 ^ t.length := fun h => Nat.pow_le_pow_right (by decide) h
    have k8 : t.length ≤ 7 := by
      refine Nat.le_of_not_lt fun h => ?_
      have := p8 h
      have : 256 ^ t.length ≤ x.toNat * 256 ^ t.length := Nat.le_mul_of_pos_left _ hx
      have e : (256 : Nat) ^ 8 = 18446744073709551616 := by decide
      omega
    by_cases hc : 128 ≤ x.toNat
    · rw [zqp (.inr hc)]
      have k7 : t.length ≤ 6 := by
        refine Nat.le_of_not_lt fun h => ?_
        have h1 := p7 h
        have : x.toNat * 256 ^ 7 ≤ x.toNat * 256 ^ t.length := Nat.mul_le_mul_left _ h1
        have e : (256 : Nat) ^ 7 = 72057594037927936 := by decide
        rw [e] at this
        omega
      rw [List.reverse_append, List.reverse_reverse]
      refine ⟨?_, ?_, ?_⟩
      · show (decide (t.length ≤ 6) && (decide ((0 : UInt8).toNat < 128) && (decide ((0 : UInt8).toNat ≠ 0) || decide (128 ≤ x.toNat)))) = true
        rw [zqe k7, zqe hc]; rfl
      · exact hv
      · show t.length + 1 + 1 ≤ 8
        omega
    · rw [zqo (fun hh => by rcases hh with hh | hh; · simp at hh
                            · exact hc hh)]
      rw [List.reverse_reverse]
      refine ⟨?_, hv, by show t.length + 1 ≤ 8; omega⟩
      cases t with
      | nil => exact zqe (by omega)
      | cons y u =>
        show (decide (u.length ≤ 6) && (decide (x.toNat < 128) && (decide (x.toNat ≠ 0) || decide (128 ≤ y.toNat)))) = true
        have : u.length + 1 ≤ 7 := k8
        rw [zqe (show u.length ≤ 6 by omega), zqe (show x.toNat < 128 by omega), zqe (show x.toNat ≠ 0 by omega)]; rfl
theorem intC_wrap (n:Int) (h0:0≤n) (h1:n≤4611686018427387904) (rest:List UInt8):intC (some (intE n++rest))=(some rest,n):=by
 have hc:clampI n=n.toNat:=by unfold clampI;omega
 obtain ⟨k1,k2,k3⟩:=intB_ok n.toNat (by omega)
 unfold intC intE
 rw [hc,elemC_wrap 2 _ rest (by omega)]
 have e8:(intB n.toNat).take 8=intB n.toNat:=List.take_of_length_le k3
 have hw:numW ((intB n.toNat).take 8)=n:=by rw [e8,numW_val _ (by omega),k2];omega
 show intR (some rest) (some (intB n.toNat))=_
 rw [intR_yes ⟨k1,by rw [hw];exact h1⟩,hw]
def princC (s:Option (List UInt8)):Option (List UInt8)×(List UInt8×List UInt8) :=
 ((elemC 48 s).1,((elemC 27 (elemC 48 s).2).2.getD [],(elemC 27 (elemC 27 (elemC 48 s).2).1).2.getD []))
theorem princC_wrap (r n rest:List UInt8) (hr:r.length≤1000) (hn:n.length≤1000):princC (some (princE r n++rest))=(some rest,(r,n)):=by
 have h1:=wrapB_len 27 r
 have h2:=wrapB_len 27 n
 unfold princC princE
 rw [elemC_wrap 48 _ rest (by simp only [zqk,zql,zqf,List.length_nil];omega)]
 show (some rest,((elemC 27 (some [wrapB 27 r,wrapB 27 n].flatten)).2.getD [],(elemC 27 (elemC 27 (some [wrapB 27 r,wrapB 27 n].flatten)).1).2.getD []))=_
 simp only [zqk,zql]
 rw [elemC_wrap 27 r _ (by omega)]
 show (some rest,(r,(elemC 27 (some (wrapB 27 n++[]))).2.getD []))=_
 rw [elemC_wrap 27 n _ (by omega)]
 rfl
theorem elemB_len {tag:UInt8} {l x r:List UInt8} (h:elemB tag l=some (x,r)):x.length≤l.length∧r.length≤l.length∧x.length≤65535:=by
 cases l with
 | nil=>cases h
 | cons t b =>
  have h:(if t=tag then (if (headB b).2.2=true∧(headB b).1+(headB b).2.1≤b.length then some ((b.drop (headB b).1).take (headB b).2.1,b.drop ((headB b).1+(headB b).2.1)) else none) else none)=some (x,r):=h
  split at h
  ·split at h
   ·rename_i h1 h2
    have:=head_le b h2.1
    cases h
    simp only [zqr,List.length_drop,List.length_cons]
    omega
   ·cases h
  ·cases h
theorem elemC_len {tag:UInt8} {s:Option (List UInt8)} {B:Nat} (h:∀l,s=some l→l.length≤B):(∀l,(elemC tag s).1=some l→l.length≤B)∧(∀l,(elemC tag s).2=some l→l.length≤B∧l.length≤65535):=by
 cases s with
 | none=>exact ⟨(fun l h=>by cases h),(fun l h=>by cases h)⟩
 | some l =>
  have hb:=h l rfl
  have e:elemC tag (some l)=(match elemB tag l with | none=>(none,none) | some (x,r)=>(some r,some x)):=rfl
  rw [e]
  cases he:elemB tag l with
  | none=>exact ⟨(fun l h=>by cases h),(fun l h=>by cases h)⟩
  | some p =>
   obtain ⟨x,r⟩:=p
   have hl:=elemB_len he
   exact ⟨(fun l h=>by cases h;omega),(fun l h=>by cases h;omega)⟩
theorem intC_len {s:Option (List UInt8)} {B:Nat} (h:∀l,s=some l→l.length≤B):∀l,(intC s).1=some l→l.length≤B:=by
 have hl:=(elemC_len (tag:=2) h).1
 unfold intC
 revert hl
 generalize elemC 2 s=q
 obtain ⟨s',o⟩:=q
 intro hl l
 cases o with
 | none=>exact hl l
 | some b =>
  show (if isNumB b=true∧numW (b.take 8)≤4611686018427387904 then (s',numW (b.take 8)) else (none,0)).1=some l→_
  split
  ·exact hl l
  ·intro e;cases e
def keyC (k:Nat→UInt8):List PV:=[bC (k 0),bC (k 1),bC (k 2),bC (k 3),bC (k 4),bC (k 5),bC (k 6),bC (k 7),bC (k 8),bC (k 9),bC (k 10),bC (k 11),bC (k 12),bC (k 13),bC (k 14),bC (k 15),bC (k 16),bC (k 17),bC (k 18),bC (k 19),bC (k 20),bC (k 21),bC (k 22),bC (k 23),bC (k 24),bC (k 25),bC (k 26),bC (k 27),bC (k 28),bC (k 29),bC (k 30),bC (k 31)]
def keyB (k:Nat→UInt8):List UInt8:=[k 0,k 1,k 2,k 3,k 4,k 5,k 6,k 7,k 8,k 9,k 10,k 11,k 12,k 13,k 14,k 15,k 16,k 17,k 18,k 19,k 20,k 21,k 22,k 23,k 24,k 25,k 26,k 27,k 28,k 29,k 30,k 31]
def keyOf (x:List UInt8):Nat→UInt8:=fun i=>x.getD i 0
theorem keyC_map (k:Nat→UInt8):keyC k=(keyB k).map bC:=rfl
theorem keyB_len (k:Nat→UInt8):(keyB k).length=32:=rfl
theorem keyB_of (k:Nat→UInt8):keyB (keyOf (keyB k))=keyB k:=rfl
structure Prt where
 r:List UInt8
 n:List UInt8
 k:Nat→UInt8
 tr:List UInt8
 st:Int
 en:Int
def Prt.cells (p:Prt):List PV:=[.str p.r,.str p.n]++keyC p.k++[.str p.tr,.int .i64 p.st,.int .i64 p.en]
def isPartB (p:Prt):Bool:=isPrincB p.r p.n&&isTextB p.tr&&(inZ p.st 0 1073741824&&inZ p.en 0 1073741824)
def partL (p:Prt):List UInt8:=wrapB 99 [princE p.r p.n,wrapB 4 (keyB p.k),wrapB 27 p.tr,intE p.st,intE p.en].flatten
def octC (s:Option (List UInt8)):Option (List UInt8)×List UInt8:=((elemC 4 s).1,(elemC 4 s).2.getD [])
def txtC (s:Option (List UInt8)):Option (List UInt8)×List UInt8:=((elemC 27 s).1,(elemC 27 s).2.getD [])
theorem octC_wrap (x rest:List UInt8) (hx:x.length≤65535):octC (some (wrapB 4 x++rest))=(some rest,x):=by
 unfold octC;rw [elemC_wrap 4 x rest hx];rfl
theorem txtC_wrap (x rest:List UInt8) (hx:x.length≤65535):txtC (some (wrapB 27 x++rest))=(some rest,x):=by
 unfold txtC;rw [elemC_wrap 27 x rest hx];rfl
def Prt.same (p q:Prt):Prop:=p.r=q.r∧p.n=q.n∧keyB p.k=keyB q.k∧p.tr=q.tr∧p.st=q.st∧p.en=q.en
end Go.Proofs.Tryz
/- PSem, part 34: as part 25, where what the kit asks speaks of the objects too. -/
namespace Ps
open Go Go.RowKit
section
variable {P : Program}
end
end Ps
/- PSem, part 35: what is known of a call in a world of which nothing is named holds in every world. -/
namespace Ps
open Go Go.RowKit
section
variable {P : Program}
end
end Ps
/- PSem, part 36: what is known of a call in a world of which nothing is named holds in every world: answers and arguments that name no object. -/
namespace Ps
open Go Go.RowKit
section
variable {P : Program}
def argQ (p:PV):Bool:=oldP p&&!isOwn p&&(match p with | .tup _=>false | _=>true)
theorem argQ.v {p:PV} (h:argQ p=true) {g g':Gh} {w:World} (hI:∀b o,g.I b o→g'.I b o) {v:Value} (hv:VC P g w v p):V g' w v p:=by
 unfold argQ at h
 simp only [zqb,Bool.not_eq_true'] at h
 obtain ⟨⟨h1,h2⟩,h3⟩:=h
 exact V.old hI (hv.V' (fun cs e=>by subst e;cases h3) h2) h1
end
end Ps
/- PSem, part 27: a law over arguments of a bound. -/
namespace Ps
open Go Go.RowKit
section
variable {P : Program}
section
variable {H : Type} {enc : TypeId × Value → H}
end
end
end Ps
/- A call's new row becomes a value of its own. -/
namespace Ps
open Go
section
variable {P : Program}
structure Kept (H H1:PH):Prop where
 len:H1.length=H.length
 old:∀(id:Nat) (o':PObj),H1[id]? = some o'→∃o,H[id]? = some o∧∀c,c∈o'.cs→flatP c=true∨c∈o.cs
theorem CK.own {f:Nat} {args:List PV} {H:PH} {Q:PV→PH→Prop} {R:PH→Prop} {nn e0 sz:Nat} {cs:List PV} (h:CK P f args H Q) (hps:psize P e0=sz) (hsz:0<sz) (hcs:cs.length=nn*sz) (hfl:cs.all flatP=true)
  (hq:∀r H',Q r H'→∃H1 ext id cap o,H'=H1++ext∧Kept H H1∧R H1∧r=.sref id 0 nn cap∧H.length≤id∧H'[id]? = some o∧o.T=e0∧o.cs.length=cap*sz∧o.cs.take cs.length=cs) :
  CK P f args H fun r H'=>r=.slice nn cs (some e0)∧R H':=by
 intro g w vs hs hr
 refine (h g w vs hs hr).mono ?_
 rintro e w' ⟨v,r,H',g',rfl,q,hr',st,ho,hc⟩
 obtain ⟨H1,ext,id0,cap,ob,rfl,hkp,hR,rfl,hid0,hob,hT,hcp,htk⟩:=hq r H' q
 have hl1:=hkp.len
 have h0:VC P g' w' v (.sref id0 0 nn cap):=hr'.e 0
 have h0:V g' w' v (.sref id0 0 nn cap):=by
  rcases h0 with h0 | ⟨_,_,_,_,h0,_⟩
  ·exact h0
  ·cases h0
 obtain ⟨b0,rfl,hb0,hle,hkd⟩:=h0.inv_sref
 obtain ⟨us0,o1,o2,o3⟩:=hr'.h.obj id0 b0 ob hob hb0 hkd
 have hlen:g.ι.length=H.length:=hr.h.len
 have hcl:cs.length≤ob.cs.length:=by rw [hcp,hcs];exact Nat.mul_le_mul_right _ hle
 have hfull:∀(id b:Nat),id<H.length→g'.ι[id]? = some (some b)→∃b0,g.ι[id]? = some (some b0):=fun id b hl h=>by
  have hlt:id<g.ι.length:=by omega
  cases hx:g.ι[id] with
  | some b0=>exact ⟨b0,by rw [zqc hlt,hx]⟩
  | none =>
   have:=st.nil id (by rw [zqc hlt,hx])
   rw [h] at this;cases this
 have hnew:w.heap.size≤b0:=by
  rcases st.ι id0 b0 hb0 with h | h
  ·exact absurd (zq1.1 h).1 (by omega)
  ·exact h
 let I2:Nat→Nat→Prop:=fun b o=>g'.I b o∨(b=b0∧o<cs.length)
 have hI2:∀b o,g'.I b o→I2 b o:=fun b o h=>.inl h
 have htake:∀(id b:Nat),(g'.ι.take H.length)[id]? = some (some b)→id<H.length∧g'.ι[id]? = some (some b):=fun id b hi=>by
  rw [zqs] at hi
  split at hi
  ·exact ⟨by assumption,hi⟩
  ·cases hi
 have hmk:∀(id b:Nat),id<g.ι.length→g'.ι[id]? = some (some b)→(g'.ι.take H.length)[id]? = some (some b):=fun id b hl hi=>by
  rw [zqs,zqp (by omega)];exact hi
 have hsub:∀(id b:Nat),(g'.ι.take H.length)[id]? = some (some b)→g'.ι[id]? = some (some b):=fun id b hi=>(htake id b hi).2
 have hne:∀(id:Nat),(g'.ι.take H.length)[id]?≠some (some b0):=fun id hi=>by
  obtain ⟨k1,k2⟩:=htake id b0 hi
  have:=hr'.h.inj id id0 b0 k2 hb0
  omega
 have hcell:∀id j b,cellOwnAt ⟨g'.ι.take H.length,I2⟩ w' H1 id j b→cellOwnAt g' w' (H1++ext) id j b:=fun id j b ⟨o,c,b0,v,h1,h2,h3,h4,h5,h6⟩ =>
  ⟨o,c,b0,v,by rw [zq2 (zq1.1 h1).1];exact h1,h2,h3,hsub _ _ h4,h5,h6⟩
 have hown:∀{u:Value} {n:Nat} {cs':List PV} {e b:Nat},OwnF P g' w' u n cs' e b→OwnF P ⟨g'.ι.take H.length,I2⟩ w' u n cs' e b:=fun hf =>
  ⟨hf.ex,fun id hi=>hf.obj id (hsub id _ hi),fun o ho hi=>by
   rcases hi with hi | ⟨rfl,_⟩
   ·exact hf.spare o ho hi
   ·exact hf.obj id0 hb0⟩
 have hv:V ⟨g'.ι.take H.length,I2⟩ w' (.slice (some ⟨b0,0,none⟩) nn cap) (.slice nn cs none):=by
  refine .slice b0 0 nn cap cs (fun j=>us0.getD j undef) hle (fun j c hj=>?_) fun j c hj=>?_
  ·have hlt:j<cs.length:=(zq1.1 hj).1
   refine ⟨.inr ⟨rfl,by omega⟩,?_⟩
   rw [cell?_cells o1,Nat.zero_add]
   have:j<us0.size:=by omega
   simp [this]
  ·have hlt:j<cs.length:=(zq1.1 hj).1
   have hoc:ob.cs[j]? = some c:=by
    rw [←htk,zqs,zqp hlt] at hj;exact hj
   obtain ⟨u,y1,y2⟩:=o3 j c hoc
   have hcf:flatP c=true:=List.all_eq_true.1 hfl c (List.mem_of_getElem? hj)
   simp only [Array.getD_eq_getD_getElem?,y1,Option.getD_some]
   exact (y2.flat hcf).flat hcf
 have hnI:∀o,¬g'.I b0 o:=fun o hi=>(hr'.h.imm b0 o hi).1 id0 hb0
 have hf:OwnF P ⟨g'.ι.take H.length,I2⟩ w' (.slice (some ⟨b0,0,none⟩) nn cap) nn cs e0 b0:=by
  refine ⟨⟨cap,us0,rfl,hle,by rw [←hT];exact o1,by rw [hps];exact hsz,by rw [hps];exact hcs,by rw [hps];omega⟩,hne,fun o ho hi=>?_⟩
  rcases hi with hi | ⟨_,hi⟩
  ·exact hnI o hi
  ·omega
 have hget:∀t,VC P ⟨g'.ι.take H.length,I2⟩ w' (one (.slice (some ⟨b0,0,none⟩) nn cap) t) (Env.get [(0,.slice nn cs (some e0))] t):=fun t=>by
  rw [Env.get_cons]
  unfold one
  by_cases e:t=0
  ·rw [zqp e,zqp e.symm];exact .inr ⟨nn,cs,e0,b0,rfl,hv,hf⟩
  ·rw [zqo e,zqo (Ne.symm e)];exact (V.undef _).vc
 have hwho:∀t i b,ownAt (one (.slice (some ⟨b0,0,none⟩) nn cap) t) (Env.get [(0,.slice nn cs (some e0))] t) i b→t=0∧i=0∧b=b0:=fun t i b h=>by
  rw [Env.get_cons] at h
  unfold one at h
  by_cases e:t=0
  ·rw [zqp e,zqp e.symm] at h
   exact ⟨e,h.1,(Option.some.inj h.2.2).symm⟩
  ·rw [zqo (Ne.symm e)] at h;cases h.2.1
 have hnc:¬cellOwn g' w' (H1++ext) b0:=by
  rintro ⟨id,j,o,c,b1,u,h1,h2,h3,h4,h5,h6⟩
  obtain ⟨vs,k1,k2,k3⟩:=hr'.h.obj id b1 o h1 h4 (cell_kind h5)
  obtain ⟨u',y1,y2⟩:=k3 j c h2
  rw [cell?_cells k1,y1] at h5
  obtain rfl:=Option.some.inj h5
  rcases y2 with y2 | ⟨n,cs',e,bb,rfl,_,hf'⟩
  ·cases c with
   | slice n cs' o' =>
    cases o' with
    | some e =>
     obtain ⟨rfl,rfl,rfl⟩:=y2.own_nil
     cases y2;cases h6
    | none=>cases h3
   | _=>cases h3
  ·obtain ⟨cap',vs',rfl,_⟩:=hf'.ex
   have:bb=b0:=Option.some.inj h6
   subst this
   exact hf'.obj id0 hb0
 refine ⟨_,.slice nn cs (some e0),H1,⟨g'.ι.take H.length,I2⟩,rfl,⟨rfl,hR⟩,⟨⟨?_,fun id id' b h1 h2=>hr'.h.inj id id' b (hsub _ _ h1) (hsub _ _ h2),fun id b o h1 h2=>?_,fun id b o h1 h2 hk1=>?_,fun b o hi=>?_⟩,hget,fun t i t' i' b h h'=>?_,fun t i b h hh=>?_,fun id j id' j' b h1 h2=>hr'.cc id j id' j' b (hcell _ _ _ h1) (hcell _ _ _ h2)⟩,
  ⟨⟨fun id o ho=>?_,fun id b o o' hi h1 h2 hv=>?_⟩,st.os,st.tape,st.output,st.size,⟨fun id b hi=>hmk id b (zq1.1 hi).1 (st.keeps.ι id b hi),fun b o hi=>⟨.inl (st.keeps.I b o hi).1,(st.keeps.I b o hi).2⟩,st.keeps.kind⟩,fun id b hi=>st.ι id b (hsub id b hi),fun b hb h1 h2=>?_,fun id h=>by
   have hlt:=(zq1.1 h).1
   show (g'.ι.take H.length)[id]? = some none
   rw [zqs,zqp (by omega)];exact st.nil id h⟩,
  fun i b h=>?_,fun b ⟨id,j,h1⟩=>hc b ⟨id,j,hcell _ _ _ h1⟩⟩
 ·have:=hr'.h.len
  simp at this ⊢
  omega
 ·obtain ⟨hl,h2'⟩:=htake id b h2
  obtain ⟨b1,hb1⟩:=hfull id b hl h2'
  have hbb:b=b1:=by
   have:=st.keeps.ι id b1 hb1
   rw [h2'] at this
   exact Option.some.inj (Option.some.inj this)
  obtain ⟨oo,q1,q2⟩:=hkp.old id o h1
  rcases hr'.h.full id b o (by rw [zq2 (by omega)];exact h1) h2' with hk | hm
  ·exact .inl hk
  ·refine .inr (hm.kept (hr.h.full id b1 oo q1 hb1) ?_ flatP (fun c hc=>q2 c hc) (fun p u a hf=>a.flat hf) fun p u u0 a0 a1=>V.both (g:=g') (h:=a1) (g0:=g) (g':=⟨g'.ι.take H.length,I2⟩) hI2 hmk a0)
   rw [←st.keeps.kind id b1 hb1,←hbb,hm.kind];decide
 ·obtain ⟨hl,h2'⟩:=htake id b h2
  obtain ⟨us,k1,k2,k3⟩:=hr'.h.obj id b o (by rw [zq2 (by omega)];exact h1) h2' hk1
  refine ⟨us,k1,k2,fun j c hj=>?_⟩
  obtain ⟨u,y1,y2⟩:=k3 j c hj
  refine ⟨u,y1,?_⟩
  obtain ⟨b1,hb1⟩:=hfull id b hl h2'
  obtain ⟨oo,q1,q2⟩:=hkp.old id o h1
  rcases q2 c (List.mem_of_getElem? hj) with hcf | hcm
  ·exact .inl ((y2.flat hcf).flat hcf)
  obtain ⟨j0,hj0⟩:=List.getElem?_of_mem hcm
  have hbb:b=b1:=by
   have:=st.keeps.ι id b1 hb1
   rw [h2'] at this
   exact Option.some.inj (Option.some.inj this)
  obtain ⟨us1,z1,z2,z3⟩:=hr.h.obj id b1 oo q1 hb1 (by rw [←st.keeps.kind id b1 hb1,←hbb];exact hk1)
  obtain ⟨u0,x1,x2⟩:=z3 j0 c hj0
  have both:∀(p:PV) (u u0:Value),V g w u0 p→V g' w' u p→V ⟨g'.ι.take H.length,I2⟩ w' u p:=fun p u u0 a0 a1=>V.both (g:=g') (h:=a1) (g0:=g) (g':=⟨g'.ι.take H.length,I2⟩) hI2 hmk a0
  rcases y2 with y2 | ⟨n,cs',e,bb,rfl,hv',hf⟩
  ·cases c with
   | slice n cs' o' =>
    cases o' with
    | some e =>
     obtain ⟨rfl,rfl,rfl⟩:=y2.own_nil
     exact .inl (.snil _)
    | none=>exact .inl (both _ _ _ x2.dem y2)
   | tup cs'=>exact x2.not_tup.elim
   | _=>exact .inl (both _ _ _ x2.dem y2)
  ·exact .inr ⟨n,cs',e,bb,rfl,both _ _ _ x2.dem hv',hown hf⟩
 ·rcases hi with hi | ⟨rfl,hi⟩
  ·obtain ⟨k1,k2⟩:=hr'.h.imm b o hi
   exact ⟨fun id h2=>k1 id (hsub _ _ h2),k2⟩
  ·exact ⟨hne,us0,_,_,o1,by omega⟩
 ·obtain ⟨rfl,rfl,_⟩:=hwho t i b h
  obtain ⟨rfl,rfl,_⟩:=hwho t' i' b h'
  exact ⟨rfl,rfl⟩
 ·obtain ⟨_,_,rfl⟩:=hwho t i b h
  obtain ⟨id,j,h2⟩:=hh
  exact hnc ⟨id,j,hcell _ _ _ h2⟩
 ·obtain ⟨o',k1,k2⟩:=st.fr.more id o ho
  have:=(zq1.1 ho).1
  rw [zq2 (by omega)] at k1
  exact ⟨o',k1,k2⟩
 ·have:=(zq1.1 h1).1
  exact st.fr.same id b o o' hi h1 (by rw [zq2 (by omega)];exact h2) hv
 ·obtain ⟨k1,k2⟩:=st.far b hb h1 h2
  refine ⟨k1,fun o hi=>?_⟩
  rcases hi with hi | ⟨rfl,_⟩
  ·exact k2 o hi
  ·omega
 ·have:b=b0:=(Option.some.inj h.2.2).symm
  subst this
  exact .inl hnew
end
end Ps
/- A call's own row becomes an object. -/
namespace Ps
open Go
section
variable {P : Program}
theorem Imm.flatAt {g:Gh} {w:World} {b off n cap:Nat} {cs:List PV} (h:V g w (.slice (some ⟨b,off,none⟩) n cap) (.slice n cs none)) {j:Nat} {c:PV} (hj:cs[j]? = some c):∃u,w.cell? ⟨b,off+j,none⟩=some u∧V g w u c:=by
 cases h with
 | slice _ _ _ _ _ u hn h1 h2=>exact ⟨u j,(h1 j c hj).2,h2 j c hj⟩
theorem CK.obj {f:Nat} {args:List PV} {H:PH} {n e0 sz:Nat} {cs:List PV} (h:CK P f args H fun r H'=>r=.slice n cs (some e0)∧H'=H) (hn:0<n) (hps:psize P e0=sz) (hfl:cs.all flatP=true) :
  CK P f args H fun r H'=>∃cap k,n≤cap∧cs.length+k=cap*sz∧r=.sref H.length 0 n cap∧H'=H++[⟨e0,cs++List.replicate k .undef,0⟩]:=by
 intro g w vs hs hr
 refine (h g w vs hs hr).mono ?_
 rintro e w' ⟨v,r,H',g',rfl,⟨rfl,rfl⟩,hr',st,ho,hc⟩
 have h0:VC P g' w' v (.slice n cs (some e0)):=hr'.e 0
 have h0:VH P g' w' v (.slice n cs (some e0)):=h0
 obtain ⟨b,hv,hf⟩:∃b,V g' w' v (.slice n cs none)∧OwnF P g' w' v n cs e0 b:=by
  rcases h0 with h0 | ⟨n',cs',e',b,he,hv,hf⟩
  ·have:=h0.own_nil.2.1
   omega
  ·cases he
   exact ⟨b,hv,hf⟩
 obtain ⟨cap,us,rfl,hle,hus,hp0,hcl,huz⟩:=hf.ex
 rw [hps] at hp0 hcl huz
 have hlen:g.ι.length=H'.length:=hr.h.len
 have hlen':g'.ι.length=H'.length:=hr'.h.len
 have hown:ownAt (one (.slice (some ⟨b,0,none⟩) n cap) 0) (Env.get [(0,.slice n cs (some e0))] 0) 0 b:=⟨rfl,rfl,rfl⟩
 have hnc:¬cellOwn g' w' H' b:=hr'.sc 0 0 b hown
 have hheap:∀(id b1:Nat) (o:PObj),g.ι[id]? = some (some b1)→H'[id]? = some o→w'.heap[b1]? = w.heap[b1]?:=fun id b1 o h1 h2=>(st.fr.same id b1 o o h1 h2 h2 rfl)
 have hfull:∀(id b1:Nat),id<H'.length→g'.ι[id]? = some (some b1)→g.ι[id]? = some (some b1):=fun id b1 hl h=>by
  have hlt:id<g.ι.length:=by omega
  cases hx:g.ι[id] with
  | some b0 =>
   have k1:g.ι[id]? = some (some b0):=by rw [zqc hlt,hx]
   have k2:=st.keeps.ι id b0 k1
   rw [h] at k2
   cases k2
   exact k1
  | none =>
   have:=st.nil id (by rw [zqc hlt,hx])
   rw [h] at this;cases this
 have hcellold:∀id j b1,cellOwnAt g w H' id j b1→cellOwnAt g' w' H' id j b1:=fun id j b1 ⟨o,c,b0,u,h1,h2,h3,h4,h5,h6⟩ =>
  ⟨o,c,b0,u,h1,h2,h3,st.keeps.ι _ _ h4,by
   obtain ⟨vs1,k1,_⟩:=hr.h.obj id b0 o h1 h4 (cell_kind h5)
   have k2:=(hheap id b0 o h4 h1).trans k1
   rw [cell?_cells k2,←cell?_cells k1];exact h5,h6⟩
 have hnew:w.heap.size≤b:=by
  rcases ho 0 b ⟨rfl,rfl,rfl⟩ with h | ⟨id,j,h⟩
  ·exact h
  ·exact absurd ⟨id,j,hcellold id j b h⟩ hnc
 let g2:Gh:=⟨g'.ι++[some b],fun b1 o=>g'.I b1 o∧b1≠b⟩
 have hι:∀(id b1:Nat),g2.ι[id]? = some (some b1)→(id<H'.length∧g'.ι[id]? = some (some b1))∨(id=H'.length∧b1=b):=fun id b1 hi=>by
  by_cases hl:id<H'.length
  ·exact .inl ⟨hl,by rw [←hi];exact (zq2 (by omega)).symm⟩
  ·have hlt:=(zq1.1 hi).1
   simp only [g2,zqf,List.length_cons,List.length_nil] at hlt
   have e:id=g'.ι.length:=by omega
   subst e
   have:(g'.ι++[some b])[g'.ι.length]? = some (some b):=by simp
   rw [show g2.ι[g'.ι.length]? = (g'.ι++[some b])[g'.ι.length]? from rfl,this] at hi
   cases hi
   exact .inr ⟨hlen',rfl⟩
 have hold:∀(id b1:Nat),g'.ι[id]? = some (some b1)→g2.ι[id]? = some (some b1):=fun id b1 hi=>by
  have hlt:=(zq1.1 hi).1
  rw [←hi];exact zq2 hlt
 have hat:g2.ι[H'.length]? = some (some b):=by
  show (g'.ι++[some b])[H'.length]? = _
  rw [←hlen'];simp
 have hkeep:Keeps g w g2 w':=⟨fun id b1 hi=>hold _ _ (st.keeps.ι id b1 hi),fun b1 o hi=>⟨⟨(st.keeps.I b1 o hi).1,fun e=>by
  have:=hr.h.ilt hi
  omega⟩,(st.keeps.I b1 o hi).2⟩,fun id b1 hi=>st.keeps.kind id b1 hi⟩
 have hget2:∀(t:Nat) (x:PObj),(H'++[x])[t]? = if t<H'.length then H'[t]? else if t=H'.length then some x else none:=fun t x=>by
  split
  ·exact zq2 (by assumption)
  ·split
   ·rename_i h1 h2;subst h2;simp
   ·rw [List.getElem?_eq_none (by simp;omega)]
 generalize hX:PObj.mk e0 (cs++List.replicate (cap*sz - cs.length) .undef) 0=X
 have hXc:∀(j:Nat) (c:PV),X.cs[j]? = some c→(flatP c=true∧cs[j]? = some c)∨(c=.undef∧j<cap*sz):=fun j c hj=>by
  subst hX
  by_cases hl:j<cs.length
  ·rw [zq2 hl] at hj
   exact .inl ⟨List.all_eq_true.1 hfl c (List.mem_of_getElem? hj),hj⟩
  ·rw [zqi (by omega)] at hj
   have h1:=(zq1.1 hj).1
   rw [List.length_replicate] at h1
   rw [List.getElem?_replicate,zqp h1] at hj
   exact .inr ⟨(Option.some.inj hj).symm,by omega⟩
 have hcc:∀id j b1,cellOwnAt g2 w' (H'++[X]) id j b1→cellOwnAt g' w' H' id j b1:=fun id j b1 ⟨o,c,b0,u,h1,h2,h3,h4,h5,h6⟩=>by
  rcases hι _ _ h4 with ⟨k1,k2⟩ | ⟨k1,k2⟩
  ·rw [zq2 k1] at h1
   exact ⟨o,c,b0,u,h1,h2,h3,k2,h5,h6⟩
  ·subst k1
   have:(H'++[X])[H'.length]? = some X:=by simp
   rw [this] at h1;cases h1
   rcases hXc j c h2 with ⟨q,_⟩ | ⟨rfl,_⟩
   ·cases c <;> first | (cases q;done) | (cases h3;done)
   ·cases h3
 have hno:∀t i b1,¬ownAt (one (.slice (some ⟨b,0,none⟩) n cap) t) (Env.get [(0,.sref H'.length 0 n cap)] t) i b1:=fun t i b1 h=>by
  rw [Env.get_cons] at h
  unfold one at h
  by_cases e:t=0
  ·rw [zqp e,zqp e.symm] at h;cases h.2.1
  ·rw [zqo (Ne.symm e)] at h;cases h.2.1
 have hcs:cs.length≤cap*sz:=by rw [hcl];exact Nat.mul_le_mul_right _ hle
 refine ⟨_,.sref H'.length 0 n cap,H'++[X],g2,rfl,⟨cap,cap*sz - cs.length,hle,by omega,rfl,by rw [hX]⟩,⟨⟨?_,fun id id' b1 h1 h2=>?_,fun id b1 o h1 h2=>?_,fun id b1 o h1 h2 hk1=>?_,fun b1 o hi=>?_⟩,fun t=>?_,fun t i t' i' b1 h _=>absurd h (hno t i b1),fun t i b1 h _=>hno t i b1 h,fun id j id' j' b1 h1 h2=>hr'.cc id j id' j' b1 (hcc _ _ _ h1) (hcc _ _ _ h2)⟩,
  ⟨⟨fun id o h=>⟨o,by rw [zq2 (zq1.1 h).1];exact h,zqn _⟩,fun id b1 o o' hi h1 h2 hv=>?_⟩,st.os,st.tape,st.output,st.size,hkeep,fun id b1 hi=>?_,fun b1 hb h1 h2=>?_,fun id h=>?_⟩,
  fun i b1 h=>?_,fun b1 ⟨id,j,h1⟩=>hc b1 ⟨id,j,hcc _ _ _ h1⟩⟩
 ·show (g'.ι++[some b]).length=_
  simp [hlen']
 ·rcases hι _ _ h1 with ⟨a1,a2⟩ | ⟨a1,a2⟩ <;> rcases hι _ _ h2 with ⟨c1,c2⟩ | ⟨c1,c2⟩
  ·exact hr'.h.inj id id' b1 a2 c2
  ·subst c2;exact absurd a2 (hf.obj id)
  ·subst a2;exact absurd c2 (hf.obj id')
  ·omega
 ·rcases hι _ _ h2 with ⟨a1,a2⟩ | ⟨a1,a2⟩
  ·rw [zq2 a1] at h1
   have hg:=hfull id b1 a1 a2
   exact hr.h.fullKeep hkeep (hheap id b1 o hg h1) h1 hg
  ·subst a2;exact .inl (kindAt_cells hus)
 ·rcases hι _ _ h2 with ⟨a1,a2⟩ | ⟨a1,a2⟩
  ·rw [zq2 a1] at h1
   obtain ⟨us1,k1,k2,k3⟩:=hr'.h.obj id b1 o h1 a2 hk1
   have hg:=hfull id b1 a1 a2
   obtain ⟨us2,z1,z2,z3⟩:=hr.h.obj id b1 o h1 hg ((st.keeps.kind id b1 hg).symm.trans hk1)
   have:=(hheap id b1 o hg h1).trans z1
   rw [k1] at this
   cases this
   refine ⟨us1,k1,k2,fun j c hj=>?_⟩
   obtain ⟨u,y1,y2⟩:=k3 j c hj
   obtain ⟨u',x1,x2⟩:=z3 j c hj
   rw [y1] at x1;cases x1
   refine ⟨u,y1,?_⟩
   rcases x2 with x2 | ⟨nn,cc,ee,bb,rfl,xv,xf⟩
   ·exact .inl (x2.mono hkeep)
   ·rcases y2 with y2 | ⟨_,_,_,bb',he,yv,yf⟩
    ·obtain ⟨rfl,rfl,rfl⟩:=y2.own_nil
     exact .inl (.snil _)
    ·cases he
     refine .inr ⟨nn,cc,ee,bb',rfl,xv.mono hkeep,⟨yf.ex,fun id2 hi=>?_,fun o2 ho2 hi=>yf.spare o2 ho2 hi.1⟩⟩
     rcases hι _ _ hi with ⟨_,q⟩ | ⟨_,q⟩
     ·exact yf.obj id2 q
     ·subst q
      exact hnc ⟨id,j,o,_,b1,u,h1,hj,rfl,a2,by rw [cell?_cells k1];exact y1,yf.blk⟩
  ·subst a1;subst a2
   have:(H'++[X])[H'.length]? = some X:=by simp
   rw [this] at h1;cases h1
   refine ⟨us,by rw [←hX];exact hus,?_,fun j c hj=>?_⟩
   ·rw [←hX]
    simp only [zqf,List.length_replicate]
    omega
   ·rcases hXc j c hj with ⟨q1,q2⟩ | ⟨rfl,q2⟩
    ·obtain ⟨u,x1,x2⟩:=Imm.flatAt hv q2
     rw [Nat.zero_add,cell?_cells hus] at x1
     exact ⟨u,x1,.inl (x2.flat q1)⟩
    ·have hj2:j<us.size:=by omega
     exact ⟨us[j],by simp [hj2],.inl (.undef _)⟩
 ·obtain ⟨k1,k2⟩:=hr'.h.imm b1 o hi.1
  refine ⟨fun id h2=>?_,k2⟩
  rcases hι _ _ h2 with ⟨_,q⟩ | ⟨_,q⟩
  ·exact k1 id q
  ·exact hi.2 q
 ·rw [Env.get_cons]
  unfold one
  by_cases e:t=0
  ·rw [zqp e,zqp e.symm];exact (V.sref _ b 0 n cap hat hle (kindAt_cells hus)).vc
  ·rw [zqo e,zqo (Ne.symm e)];exact (V.undef _).vc
 ·have hl:=(zq1.1 h1).1
  rw [zq2 hl,h1] at h2
  cases h2
  exact hheap id b1 o hi h1
 ·rcases hι _ _ hi with ⟨_,q⟩ | ⟨_,q⟩
  ·exact st.ι id b1 q
  ·subst q;exact .inr hnew
 ·obtain ⟨k1,k2⟩:=st.far b1 hb h1 h2
  exact ⟨k1,fun o hi=>k2 o hi.1⟩
 ·have:=st.nil id h
  have hlt:=(zq1.1 this).1
  rw [←this];exact zq2 hlt
 ·cases h.2.1
end
end Ps
/- An argument that is nil is a row of nothing. -/
namespace Ps
open Go
end Ps
/- What a call made is forgotten; what it wrote stays. -/
namespace Ps
open Go
section
variable {P : Program}
theorem CK.gcK {f:Nat} {args:List PV} {H:PH} {Q R:PV→PH→Prop} (h:CK P f args H Q) (hq:∀r H',Q r H'→oldR r=true∧∃H1 ext,H'=H1++ext∧Kept H H1∧R r H1) :
  CK P f args H R:=by
 intro g w vs hs hr
 refine (h g w vs hs hr).mono ?_
 rintro e w' ⟨v,r,H',g',rfl,q,hr',st,ho,hc⟩
 obtain ⟨hold,H1,ext,rfl,hkp,hR⟩:=hq r H' q
 have hl1:=hkp.len
 have hlen:g.ι.length=H.length:=hr.h.len
 have hfull:∀(id b:Nat),id<H.length→g'.ι[id]? = some (some b)→∃b0,g.ι[id]? = some (some b0):=fun id b hl h=>by
  have hlt:id<g.ι.length:=by omega
  cases hx:g.ι[id] with
  | some b0=>exact ⟨b0,by rw [zqc hlt,hx]⟩
  | none =>
   have:=st.nil id (by rw [zqc hlt,hx])
   rw [h] at this;cases this
 have htake:∀(id b:Nat),(g'.ι.take H.length)[id]? = some (some b)→id<H.length∧g'.ι[id]? = some (some b):=fun id b hi=>by
  rw [zqs] at hi
  split at hi
  ·exact ⟨by assumption,hi⟩
  ·cases hi
 have hmk:∀(id b:Nat),id<g.ι.length→g'.ι[id]? = some (some b)→(g'.ι.take H.length)[id]? = some (some b):=fun id b hl hi=>by
  rw [zqs,zqp (by omega)];exact hi
 have hsub:∀(id b:Nat),(g'.ι.take H.length)[id]? = some (some b)→g'.ι[id]? = some (some b):=fun id b hi=>(htake id b hi).2
 have hV:V (⟨g'.ι.take H.length,g'.I⟩) w'=V (⟨g'.ι.take H.length,g'.I⟩) w':=rfl
 have hcell:∀id j b,cellOwnAt ⟨g'.ι.take H.length,g'.I⟩ w' H1 id j b→cellOwnAt g' w' (H1++ext) id j b:=fun id j b ⟨o,c,b0,v,h1,h2,h3,h4,h5,h6⟩ =>
  ⟨o,c,b0,v,by rw [zq2 (zq1.1 h1).1];exact h1,h2,h3,hsub _ _ h4,h5,h6⟩
 have hRV:∀(u:Value) (p:PV),oldP p=true→VH P g' w' u p→VH P ⟨g'.ι.take H.length,g'.I⟩ w' u p:=fun u p hp hu=>by
  rcases hu with hu | ⟨n,cs,e,b,rfl,hv,hf⟩
  ·exact .inl (V.old (g:=g') (h:=hu) (g':=⟨g'.ι.take H.length,g'.I⟩) (fun _ _ h=>h) hp)
  ·exact .inr ⟨n,cs,e,b,rfl,V.old (g:=g') (h:=hv) (g':=⟨g'.ι.take H.length,g'.I⟩) (fun _ _ h=>h) (by simpa [oldP] using hp),OwnF.sub (g:=g') (h:=hf) (g':=⟨g'.ι.take H.length,g'.I⟩) rfl hsub⟩
 have hRC:VC P ⟨g'.ι.take H.length,g'.I⟩ w' v r:=by
  have h0:=hr'.e 0
  have h0:VC P g' w' v r:=h0
  cases r with
  | tup cs =>
   obtain ⟨us,rfl,k1,k2⟩:=h0
   exact ⟨us,rfl,k1,fun j c hj=>hRV _ _ (oldPs_get hold j c hj) (k2 j c hj)⟩
  | _=>exact hRV _ _ hold h0
 have hget:∀t,VC P ⟨g'.ι.take H.length,g'.I⟩ w' (one v t) (Env.get [(0,r)] t):=fun t=>by
  rw [Env.get_cons]
  unfold one
  by_cases e:t=0
  ·rw [zqp e,zqp e.symm];exact hRC
  ·rw [zqo e,zqo (Ne.symm e)];exact (V.undef _).vc
 refine ⟨v,r,H1,⟨g'.ι.take H.length,g'.I⟩,rfl,hR,⟨⟨?_,fun id id' b h1 h2=>hr'.h.inj id id' b (hsub _ _ h1) (hsub _ _ h2),fun id b o h1 h2=>?_,fun id b o h1 h2 hk1=>?_,fun b o hi=>?_⟩,hget,hr'.ss,fun t i b h1 h2=>?_,fun id j id' j' b h1 h2=>hr'.cc id j id' j' b (hcell _ _ _ h1) (hcell _ _ _ h2)⟩,
  ⟨⟨fun id o ho=>?_,fun id b o o' hi h1 h2 hv=>?_⟩,st.os,st.tape,st.output,st.size,⟨fun id b hi=>hmk id b (zq1.1 hi).1 (st.keeps.ι id b hi),st.keeps.I,st.keeps.kind⟩,fun id b hi=>st.ι id b (hsub id b hi),st.far,fun id h=>by
   have hlt:=(zq1.1 h).1
   show (g'.ι.take H.length)[id]? = some none
   rw [zqs,zqp (by omega)];exact st.nil id h⟩,ho,fun b ⟨id,j,h1⟩=>hc b ⟨id,j,hcell _ _ _ h1⟩⟩
 ·have:=hr'.h.len
  simp at this ⊢
  omega
 ·obtain ⟨hl,h2'⟩:=htake id b h2
  obtain ⟨b1,hb1⟩:=hfull id b hl h2'
  have hbb:b=b1:=by
   have:=st.keeps.ι id b1 hb1
   rw [h2'] at this
   exact Option.some.inj (Option.some.inj this)
  obtain ⟨oo,q1,q2⟩:=hkp.old id o h1
  rcases hr'.h.full id b o (by rw [zq2 (by omega)];exact h1) h2' with hk | hm
  ·exact .inl hk
  ·refine .inr (hm.kept (hr.h.full id b1 oo q1 hb1) ?_ flatP (fun c hc=>q2 c hc) (fun p u a hf=>a.flat hf) fun p u u0 a0 a1=>V.both (g:=g') (h:=a1) (g0:=g) (g':=⟨g'.ι.take H.length,g'.I⟩) (fun _ _ h=>h) hmk a0)
   rw [←st.keeps.kind id b1 hb1,←hbb,hm.kind];decide
 ·obtain ⟨hl,h2'⟩:=htake id b h2
  obtain ⟨us,k1,k2,k3⟩:=hr'.h.obj id b o (by rw [zq2 (by omega)];exact h1) h2' hk1
  refine ⟨us,k1,k2,fun j c hj=>?_⟩
  obtain ⟨u,y1,y2⟩:=k3 j c hj
  refine ⟨u,y1,?_⟩
  obtain ⟨b0,hb0⟩:=hfull id b hl h2'
  obtain ⟨oo,q1,q2⟩:=hkp.old id o h1
  rcases q2 c (List.mem_of_getElem? hj) with hcf | hcm
  ·exact .inl ((y2.flat hcf).flat hcf)
  obtain ⟨j0,hj0⟩:=List.getElem?_of_mem hcm
  have hbb:b=b0:=by
   have:=st.keeps.ι id b0 hb0
   rw [h2'] at this
   exact Option.some.inj (Option.some.inj this)
  obtain ⟨us0,z1,z2,z3⟩:=hr.h.obj id b0 oo q1 hb0 (by rw [←st.keeps.kind id b0 hb0,←hbb];exact hk1)
  obtain ⟨u0,x1,x2⟩:=z3 j0 c hj0
  have both:∀(p:PV) (u u0:Value),V g w u0 p→V g' w' u p→V ⟨g'.ι.take H.length,g'.I⟩ w' u p:=fun p u u0 a0 a1=>V.both (g:=g') (h:=a1) (g0:=g) (g':=⟨g'.ι.take H.length,g'.I⟩) (fun _ _ h=>h) hmk a0
  rcases y2 with y2 | ⟨n,cs,e,bb,rfl,hv,hf⟩
  ·cases c with
   | slice n cs o' =>
    cases o' with
    | some e =>
     obtain ⟨rfl,rfl,rfl⟩:=y2.own_nil
     exact .inl (.snil _)
    | none=>exact .inl (both _ _ _ x2.dem y2)
   | tup cs=>exact x2.not_tup.elim
   | _=>exact .inl (both _ _ _ x2.dem y2)
  ·exact .inr ⟨n,cs,e,bb,rfl,both _ _ _ x2.dem hv,OwnF.sub (g:=g') (h:=hf) (g':=⟨g'.ι.take H.length,g'.I⟩) rfl hsub⟩
 ·obtain ⟨k1,k2⟩:=hr'.h.imm b o hi
  exact ⟨fun id h2=>k1 id (hsub _ _ h2),k2⟩
 ·obtain ⟨id,j,h2⟩:=h2
  exact hr'.sc t i b h1 ⟨id,j,hcell _ _ _ h2⟩
 ·obtain ⟨o',k1,k2⟩:=st.fr.more id o ho
  have:=(zq1.1 ho).1
  rw [zq2 (by omega)] at k1
  exact ⟨o',k1,k2⟩
 ·have:=(zq1.1 h1).1
  exact st.fr.same id b o o' hi h1 (by rw [zq2 (by omega)];exact h2) hv
end
end Ps
/- PSem, part 37: a walk of the kit's kind over PSem's invariant; maps that are ranged over, and what is deleted from them. -/
namespace Ps
open Go Go.ChangeMaps
section
variable {P : Program} {tt : TT} {imm : List Nat} {g0 : Gh} {w0 : World} {H0 : PH} {F0 : Nat → Prop} {N : Nat} {g : Gh} {w : World} {a : Act} {E : Env} {H : PH}
/-! ### a map's entries, paired -/
end
end Ps
namespace Go.Proofs.Tryz
open Go Ps Go.ChangeMaps
structure Crd where
 r:List UInt8
 n:List UInt8
 kv:Int
 b:List UInt8
 k:Nat→UInt8
 en:Int
def Crd.cells (c:Crd):List PV:=[.str c.r,.str c.n]++[.int .i64 c.kv,.slice c.b.length (c.b.map bC) none]++keyC c.k++[.int .i64 c.en]
def z83c:PObj:=⟨83,[.str [],.str [],.int .i64 0,.slice 0 [] (some 5)]++List.replicate 32 (.int .u8 0)++[.int .i64 0],0⟩
open Go Ps
def ttW:TT:=[(3,⟨.int .i64,1,8,[.int .i64 0]⟩),(5,⟨.int .u8,1,1,[.int .u8 0]⟩),(25,⟨.slice 5,1,24,[.slice 0 [] (some 5)]⟩),(179,⟨.arr 16 5,16,16,List.replicate 16 (.int .u8 0)⟩),(134,⟨.int .u64,1,8,[.int .u64 0]⟩),(145,⟨.int .u64,1,8,[.int .u64 0]⟩),(192,⟨.slice 25,1,24,[.slice 0 [] (some 25)]⟩),(268,⟨.ptr,1,8,[.ptr none]⟩),(269,⟨.arr 4 134,4,32,[.int .u64 0,.int .u64 0,.int .u64 0,.int .u64 0]⟩)]
theorem ttW_ok:ttOk prog ttW=true:=by kernel_rfl
def imm209:List Nat:=[]
def imm197:List Nat:=[]
def imm196:List Nat:=[]
def imm195:List Nat:=[]
def imm176:List Nat:=[2]
def rotS (k:Int):Int:=ibits .and .u64 (IntKind.u64.wrap k) 63
def rotC (x k:Int):Int:=ibits .or .u64 (ishl .u64 x (rotS k)) (ishr .u64 x (IntKind.u64.wrap (64 - rotS k)))
theorem u64_nonneg (x:Int):0≤IntKind.u64.wrap x:=by
 show 0≤x % _
 exact Int.emod_nonneg _ (by decide)
theorem c209 (x k:Int):Pure prog 209 [.int .u64 x,.int .i64 k] (.int .u64 (rotC x k)):=by
 intro H
 (refine fnS (imm:=imm209) ttW_ok func209 ?_;(conv=>whnf))
 refine ⟨u64_nonneg _,?_⟩
 conv=>whnf
 refine ⟨u64_nonneg _,?_⟩
 conv=>whnf
 exact ⟨rfl,rfl⟩
structure S4 where
 a:Int
 b:Int
 c:Int
 d:Int
def S4.O (s:S4) (v:Nat):PObj:=⟨269,[.int .u64 s.a,.int .u64 s.b,.int .u64 s.c,.int .u64 s.d],v⟩
def addW (x y:Int):Int:=IntKind.u64.wrap (x+y)
def xorW (x y:Int):Int:=ibits .xor .u64 x y
def S4.s0 (s:S4):S4:=⟨addW s.a s.b,s.b,s.c,s.d⟩
def S4.s1 (s:S4):S4:=⟨s.a,xorW (rotC s.b 13) s.a,s.c,s.d⟩
def S4.s2 (s:S4):S4:=⟨rotC s.a 32,s.b,s.c,s.d⟩
def S4.s3 (s:S4):S4:=⟨s.a,s.b,addW s.c s.d,s.d⟩
def S4.s4 (s:S4):S4:=⟨s.a,s.b,s.c,xorW (rotC s.d 16) s.c⟩
def S4.s5 (s:S4):S4:=⟨addW s.a s.d,s.b,s.c,s.d⟩
def S4.s6 (s:S4):S4:=⟨s.a,s.b,s.c,xorW (rotC s.d 21) s.a⟩
def S4.s7 (s:S4):S4:=⟨s.a,s.b,addW s.c s.b,s.d⟩
def S4.s8 (s:S4):S4:=⟨s.a,xorW (rotC s.b 17) s.c,s.c,s.d⟩
def S4.s9 (s:S4):S4:=⟨s.a,s.b,rotC s.c 32,s.d⟩
def S4.rnd (s:S4):S4:=s.s0.s1.s2.s3.s4.s5.s6.s7.s8.s9
def S4.rnds:Nat→S4→S4
 | 0,s=>s
 | n+1,s=>(S4.rnds n s).rnd
theorem S4.look (s:S4) (v:Nat) {id:Nat} {H:PH} {o:PObj} (h:H[id]? = some o):(H.set id (s.O v))[id]? = some ⟨269,[.int .u64 s.a,.int .u64 s.b,.int .u64 s.c,.int .u64 s.d],v⟩:=gS h
def D197_2:Draw:={ imp:=[11],win:=[] }
def D197_3:Draw:={ imp:=[13],win:=[] }
def D197_4:Draw:={ imp:=[8],win:=[] }
def D197_5:Draw:={ imp:=[11],win:=[] }
def D197_6:Draw:={ imp:=[13],win:=[] }
def D197_7:Draw:={ imp:=[11],win:=[] }
def D197_8:Draw:={ imp:=[13],win:=[] }
def D197_9:Draw:={ imp:=[11],win:=[] }
def D197_10:Draw:={ imp:=[13],win:=[] }
def D197_11:Draw:={ imp:=[8],win:=[] }
theorem c197 (n:Nat) (hn:n≤1000) (s:S4) (id v:Nat) (H:PH) (hid:H[id]? = some (s.O v)) :
  CK prog 197 [.ptr (some (id,0)),.int .i64 n] H fun r H'=>r=.tup []∧∃v',H'=H.set id ((S4.rnds n s).O v'):=by
 (refine fnS (imm:=imm197) ttW_ok func197 ?_;(conv=>whnf))
 refine lO (Nat×Nat) (fun x=>[(0,.ptr (some (id,0))),(4,.int .i64 n),(5,.int .i64 x.1)]) (fun x=>H.set id ((S4.rnds x.1 s).O x.2)) (fun x=>x.1≤n) (fun x=>n - x.1) ⟨(0,v),Nat.zero_le _,⟨rfl,rfl,rfl,zqv⟩,(set_self hid).symm⟩ ?_
 rintro ⟨i,w⟩ hi
 replace hi:i≤n:=hi
 conv=>whnf
 refine ⟨fun h=>?_,fun h=>?_⟩
 ·have h:(i:Int)<n:=h
  conv=>whnf
  generalize hs:S4.rnds i s=z0
  refine dO2 D197_2 [H.set id (z0.O (w+0)),H.set id (z0.s0.O (w+1))] (by kernel_rfl) rfl trivial ?_
  conv=>whnf
  iterate 3 (refine dS ?_;(conv=>whnf))
  apply exA
  ·conv=>whnf
   ((conv in (_[_]?)=>tactic=>exact (z0.look (w+0) hid));(conv=>whnf))
   exact ⟨rfl,rfl,zqv⟩
  conv=>whnf
  iterate 3 (refine dS ?_;(conv=>whnf))
  apply exA
  ·conv=>whnf
   ((conv in (_[_]?)=>tactic=>exact (z0.look (w+0) hid));(conv=>whnf))
   exact ⟨rfl,rfl,zqv⟩
  conv=>whnf
  iterate 3 (refine dS ?_;(conv=>whnf))
  apply exA
  ·conv=>whnf
   ((conv in (_[_]?)=>tactic=>exact (z0.look (w+0) hid));(conv=>whnf))
   exact ⟨rfl,List.set_set ..,zqv⟩
  conv=>whnf
  generalize hs1:S4.s0 z0=z1
  refine dO2 D197_3 [H.set id (z1.O (w+1)),H.set id (z1.s1.O (w+2))] (by kernel_rfl) rfl trivial ?_
  conv=>whnf
  iterate 4 (refine dS ?_;(conv=>whnf))
  apply exA
  ·conv=>whnf
   ((conv in (_[_]?)=>tactic=>exact (z1.look (w+1) hid));(conv=>whnf))
   exact ⟨rfl,rfl,zqv⟩
  conv=>whnf
  refine ⟨_,cP (c209 _ _) ⟨rfl,rfl,zqv⟩,?_⟩
  conv=>whnf
  iterate 3 (refine dS ?_;(conv=>whnf))
  apply exA
  ·conv=>whnf
   ((conv in (_[_]?)=>tactic=>exact (z1.look (w+1) hid));(conv=>whnf))
   exact ⟨rfl,rfl,zqv⟩
  conv=>whnf
  iterate 3 (refine dS ?_;(conv=>whnf))
  apply exA
  ·conv=>whnf
   ((conv in (_[_]?)=>tactic=>exact (z1.look (w+1) hid));(conv=>whnf))
   exact ⟨rfl,List.set_set ..,zqv⟩
  conv=>whnf
  generalize hs2:S4.s1 z1=z2
  refine dO2 D197_4 [H.set id (z2.O (w+2)),H.set id (z2.s2.O (w+3))] (by kernel_rfl) rfl trivial ?_
  conv=>whnf
  iterate 4 (refine dS ?_;(conv=>whnf))
  apply exA
  ·conv=>whnf
   ((conv in (_[_]?)=>tactic=>exact (z2.look (w+2) hid));(conv=>whnf))
   exact ⟨rfl,rfl,zqv⟩
  conv=>whnf
  refine ⟨_,cP (c209 _ _) ⟨rfl,rfl,zqv⟩,?_⟩
  conv=>whnf
  iterate 2 (refine dS ?_;(conv=>whnf))
  apply exA
  ·conv=>whnf
   ((conv in (_[_]?)=>tactic=>exact (z2.look (w+2) hid));(conv=>whnf))
   exact ⟨rfl,List.set_set ..,zqv⟩
  conv=>whnf
  generalize hs3:S4.s2 z2=z3
  refine dO2 D197_5 [H.set id (z3.O (w+3)),H.set id (z3.s3.O (w+4))] (by kernel_rfl) rfl trivial ?_
  conv=>whnf
  iterate 3 (refine dS ?_;(conv=>whnf))
  apply exA
  ·conv=>whnf
   ((conv in (_[_]?)=>tactic=>exact (z3.look (w+3) hid));(conv=>whnf))
   exact ⟨rfl,rfl,zqv⟩
  conv=>whnf
  iterate 3 (refine dS ?_;(conv=>whnf))
  apply exA
  ·conv=>whnf
   ((conv in (_[_]?)=>tactic=>exact (z3.look (w+3) hid));(conv=>whnf))
   exact ⟨rfl,rfl,zqv⟩
  conv=>whnf
  iterate 3 (refine dS ?_;(conv=>whnf))
  apply exA
  ·conv=>whnf
   ((conv in (_[_]?)=>tactic=>exact (z3.look (w+3) hid));(conv=>whnf))
   exact ⟨rfl,List.set_set ..,zqv⟩
  conv=>whnf
  generalize hs4:S4.s3 z3=z4
  refine dO2 D197_6 [H.set id (z4.O (w+4)),H.set id (z4.s4.O (w+5))] (by kernel_rfl) rfl trivial ?_
  conv=>whnf
  iterate 4 (refine dS ?_;(conv=>whnf))
  apply exA
  ·conv=>whnf
   ((conv in (_[_]?)=>tactic=>exact (z4.look (w+4) hid));(conv=>whnf))
   exact ⟨rfl,rfl,zqv⟩
  conv=>whnf
  refine ⟨_,cP (c209 _ _) ⟨rfl,rfl,zqv⟩,?_⟩
  conv=>whnf
  iterate 3 (refine dS ?_;(conv=>whnf))
  apply exA
  ·conv=>whnf
   ((conv in (_[_]?)=>tactic=>exact (z4.look (w+4) hid));(conv=>whnf))
   exact ⟨rfl,rfl,zqv⟩
  conv=>whnf
  iterate 3 (refine dS ?_;(conv=>whnf))
  apply exA
  ·conv=>whnf
   ((conv in (_[_]?)=>tactic=>exact (z4.look (w+4) hid));(conv=>whnf))
   exact ⟨rfl,List.set_set ..,zqv⟩
  conv=>whnf
  generalize hs5:S4.s4 z4=z5
  refine dO2 D197_7 [H.set id (z5.O (w+5)),H.set id (z5.s5.O (w+6))] (by kernel_rfl) rfl trivial ?_
  conv=>whnf
  iterate 3 (refine dS ?_;(conv=>whnf))
  apply exA
  ·conv=>whnf
   ((conv in (_[_]?)=>tactic=>exact (z5.look (w+5) hid));(conv=>whnf))
   exact ⟨rfl,rfl,zqv⟩
  conv=>whnf
  iterate 3 (refine dS ?_;(conv=>whnf))
  apply exA
  ·conv=>whnf
   ((conv in (_[_]?)=>tactic=>exact (z5.look (w+5) hid));(conv=>whnf))
   exact ⟨rfl,rfl,zqv⟩
  conv=>whnf
  iterate 3 (refine dS ?_;(conv=>whnf))
  apply exA
  ·conv=>whnf
   ((conv in (_[_]?)=>tactic=>exact (z5.look (w+5) hid));(conv=>whnf))
   exact ⟨rfl,List.set_set ..,zqv⟩
  conv=>whnf
  generalize hs6:S4.s5 z5=z6
  refine dO2 D197_8 [H.set id (z6.O (w+6)),H.set id (z6.s6.O (w+7))] (by kernel_rfl) rfl trivial ?_
  conv=>whnf
  iterate 4 (refine dS ?_;(conv=>whnf))
  apply exA
  ·conv=>whnf
   ((conv in (_[_]?)=>tactic=>exact (z6.look (w+6) hid));(conv=>whnf))
   exact ⟨rfl,rfl,zqv⟩
  conv=>whnf
  refine ⟨_,cP (c209 _ _) ⟨rfl,rfl,zqv⟩,?_⟩
  conv=>whnf
  iterate 3 (refine dS ?_;(conv=>whnf))
  apply exA
  ·conv=>whnf
   ((conv in (_[_]?)=>tactic=>exact (z6.look (w+6) hid));(conv=>whnf))
   exact ⟨rfl,rfl,zqv⟩
  conv=>whnf
  iterate 3 (refine dS ?_;(conv=>whnf))
  apply exA
  ·conv=>whnf
   ((conv in (_[_]?)=>tactic=>exact (z6.look (w+6) hid));(conv=>whnf))
   exact ⟨rfl,List.set_set ..,zqv⟩
  conv=>whnf
  generalize hs7:S4.s6 z6=z7
  refine dO2 D197_9 [H.set id (z7.O (w+7)),H.set id (z7.s7.O (w+8))] (by kernel_rfl) rfl trivial ?_
  conv=>whnf
  iterate 3 (refine dS ?_;(conv=>whnf))
  apply exA
  ·conv=>whnf
   ((conv in (_[_]?)=>tactic=>exact (z7.look (w+7) hid));(conv=>whnf))
   exact ⟨rfl,rfl,zqv⟩
  conv=>whnf
  iterate 3 (refine dS ?_;(conv=>whnf))
  apply exA
  ·conv=>whnf
   ((conv in (_[_]?)=>tactic=>exact (z7.look (w+7) hid));(conv=>whnf))
   exact ⟨rfl,rfl,zqv⟩
  conv=>whnf
  iterate 3 (refine dS ?_;(conv=>whnf))
  apply exA
  ·conv=>whnf
   ((conv in (_[_]?)=>tactic=>exact (z7.look (w+7) hid));(conv=>whnf))
   exact ⟨rfl,List.set_set ..,zqv⟩
  conv=>whnf
  generalize hs8:S4.s7 z7=z8
  refine dO2 D197_10 [H.set id (z8.O (w+8)),H.set id (z8.s8.O (w+9))] (by kernel_rfl) rfl trivial ?_
  conv=>whnf
  iterate 4 (refine dS ?_;(conv=>whnf))
  apply exA
  ·conv=>whnf
   ((conv in (_[_]?)=>tactic=>exact (z8.look (w+8) hid));(conv=>whnf))
   exact ⟨rfl,rfl,zqv⟩
  conv=>whnf
  refine ⟨_,cP (c209 _ _) ⟨rfl,rfl,zqv⟩,?_⟩
  conv=>whnf
  iterate 3 (refine dS ?_;(conv=>whnf))
  apply exA
  ·conv=>whnf
   ((conv in (_[_]?)=>tactic=>exact (z8.look (w+8) hid));(conv=>whnf))
   exact ⟨rfl,rfl,zqv⟩
  conv=>whnf
  iterate 3 (refine dS ?_;(conv=>whnf))
  apply exA
  ·conv=>whnf
   ((conv in (_[_]?)=>tactic=>exact (z8.look (w+8) hid));(conv=>whnf))
   exact ⟨rfl,List.set_set ..,zqv⟩
  conv=>whnf
  generalize hs9:S4.s8 z8=z9
  refine dO2 D197_11 [H.set id (z9.O (w+9)),H.set id (z9.s9.O (w+10))] (by kernel_rfl) rfl trivial ?_
  conv=>whnf
  iterate 4 (refine dS ?_;(conv=>whnf))
  apply exA
  ·conv=>whnf
   ((conv in (_[_]?)=>tactic=>exact (z9.look (w+9) hid));(conv=>whnf))
   exact ⟨rfl,rfl,zqv⟩
  conv=>whnf
  refine ⟨_,cP (c209 _ _) ⟨rfl,rfl,zqv⟩,?_⟩
  conv=>whnf
  iterate 2 (refine dS ?_;(conv=>whnf))
  apply exA
  ·conv=>whnf
   ((conv in (_[_]?)=>tactic=>exact (z9.look (w+9) hid));(conv=>whnf))
   exact ⟨rfl,List.set_set ..,zqv⟩
  conv=>whnf
  refine ⟨(i+1,w+10),by show i+1≤n;omega,⟨rfl,rfl,?_,zqv⟩,?_,by show n - (i+1)<n - i;omega⟩
  ·show PV.int _ (IntKind.i64.wrap ((i:Int)+1))=PV.int _ _
   rw [w64 (by omega) (by omega)];simp
  ·subst hs hs1 hs2 hs3 hs4 hs5 hs6 hs7 hs8 hs9
   rfl
 ·have h:¬(i:Int)<n:=h
  have e:i=n:=by omega
  subst e
  conv=>whnf
  exact ⟨rfl,w,rfl⟩
def leN:List UInt8→Nat
 | []=>0
 | c::l=>c.toNat+256*leN l
theorem leN_lt:∀l:List UInt8,leN l<256 ^ l.length
 | []=>by decide
 | c::l=>by
  have:=leN_lt l
  have:=c.toNat_lt
  rw [List.length_cons,Nat.pow_succ]
  show c.toNat+256*leN l<_
  omega
theorem leN_snoc:∀(l:List UInt8) (c:UInt8),leN (l++[c])=leN l+256 ^ l.length*c.toNat
 | [],c=>by simp [leN]
 | x::l,c=>by
  show x.toNat+256*leN (l++[c])=x.toNat+256*leN l+_
  rw [leN_snoc l c,List.length_cons,Nat.pow_succ,Nat.mul_add,Nat.add_assoc]
  congr 2
  rw [←Nat.mul_assoc,Nat.mul_comm 256]
theorem wrapU64 {n:Nat} (h:n<18446744073709551616):IntKind.u64.wrap (n:Int)=(n:Int):=by
 show (n:Int) % _=_
 have:(2 ^ IntKind.u64.bits:Int)=18446744073709551616:=by decide
 rw [this];omega
theorem or_u64 {x y:Nat} (hx:x<18446744073709551616) (hy:y<18446744073709551616):ibits .or .u64 x y=((x ||| y:Nat):Int):=by
 show IntKind.u64.wrap ((BitVec.ofInt 64 x ||| BitVec.ofInt 64 y).toNat:Int)=_
 have hb:∀{n:Nat},n<18446744073709551616→(BitVec.ofInt 64 (n:Int)).toNat=n:=fun h=>by
  rw [BitVec.toNat_ofInt];omega
 rw [BitVec.toNat_or,hb hx,hb hy]
 have:x ||| y<2 ^ 64:=Nat.or_lt_two_pow hx hy
 exact wrapU64 this
theorem or_shl (x c i:Nat) (hx:x<2 ^ i) (hc:c*2 ^ i<18446744073709551616) (h2:2 ^ i≤18446744073709551616) (hi:i≤64) :
  ibits .or .u64 x (ishl .u64 c i)=((x+c*2 ^ i:Nat):Int):=by
 have e:ishl .u64 c i=((c*2 ^ i:Nat):Int):=by
  show IntKind.u64.wrap ((c:Int)*2 ^ (min (i:Int).toNat 64))=_
  rw [Int.toNat_natCast,Nat.min_eq_left hi]
  have:((c:Int)*2 ^ i)=((c*2 ^ i:Nat):Int):=by push_cast;rfl
  rw [this]
  exact wrapU64 hc
 rw [e,or_u64 (by omega) hc,Nat.or_comm,Nat.mul_comm,←Nat.two_pow_add_eq_or_of_lt hx,Nat.add_comm]
theorem pow8 (i:Nat):256 ^ i=2 ^ (8*i):=by rw [Nat.pow_mul]
theorem pow_le8 {i:Nat} (h:i≤8):2 ^ (8*i)≤18446744073709551616:=by
 have:2 ^ (8*i)≤2 ^ 64:=Nat.pow_le_pow_right (by omega) (by omega)
 exact this
theorem le_step (l:List UInt8) (c:UInt8) (h:l.length<8) :
  ibits .or .u64 (leN l:Nat) (ishl .u64 (IntKind.u64.wrap c.toNat) (8*(l.length:Int)))=((leN (l++[c]):Nat):Int):=by
 have hc:=c.toNat_lt
 have h1:=leN_lt l
 rw [pow8] at h1
 have h3:2 ^ (8*(l.length+1))≤18446744073709551616:=pow_le8 (by omega)
 have h4:2 ^ (8*(l.length+1))=256*2 ^ (8*l.length):=by rw [Nat.mul_add,Nat.pow_add];omega
 have h2:c.toNat*2 ^ (8*l.length)<18446744073709551616:=by
  have:c.toNat*2 ^ (8*l.length)<256*2 ^ (8*l.length):=Nat.mul_lt_mul_of_pos_right hc (Nat.pow_pos (by omega))
  omega
 rw [wrapU64 (by omega)]
 have:=or_shl (leN l) c.toNat (8*l.length) h1 h2 (by omega) (by omega)
 rw [leN_snoc,pow8,Nat.mul_comm (2 ^ _)]
 have e:(8*(l.length:Int))=((8*l.length:Nat):Int):=by push_cast;rfl
 rw [e]
 exact this
theorem at1' {cs:List PV} {k:Nat} {x:PV} (h:cs[k]? = some x):∀(j:Nat) (c:PV),[x][j]? = some c→cs[k+j]? = some c:=by
 intro j c hj
 match j with
 | 0=>simpa using h.trans hj
 | j+1=>simp at hj
theorem c195 (b:List UInt8) (hb:b.length≤8):Pure prog 195 [sl b] (.int .u64 (leN b)):=by
 intro H
 (refine fnS (imm:=imm195) ttW_ok func195 ?_;(conv=>whnf))
 refine lO Nat (fun i=>[(6,sl b),(7,.int .i64 b.length),(8,.int .i64 i),(3,.int .u64 (leN (b.take i)))]) (fun _=>H) (fun i=>i≤b.length) (fun i=>b.length - i) ⟨0,Nat.zero_le _,⟨rfl,rfl,rfl,rfl,zqv⟩,rfl⟩ ?_
 intro i hi
 conv=>whnf
 refine ⟨fun h=>?_,fun h=>?_⟩
 ·have h:(i:Int)<b.length:=h
  have hi':i<b.length:=by omega
  conv=>whnf
  refine ⟨⟨by omega,h⟩,[bC b[i]],at1' (k:=(i:Int).toNat*1) (by rw [Int.toNat_natCast,Nat.mul_one,List.getElem?_map,zqc hi'];rfl),?_⟩
  conv=>whnf
  refine ⟨by rw [w64 (by omega) (by omega)];omega,?_⟩
  conv=>whnf
  refine ⟨i+1,by omega,⟨rfl,rfl,?_,?_,zqv⟩,rfl,by omega⟩
  ·show PV.int _ (IntKind.i64.wrap ((i:Int)+1))=PV.int _ _
   rw [w64 (by omega) (by omega)];simp
  ·show PV.int _ (ibits .or .u64 (leN (b.take i):Nat) (ishl .u64 (IntKind.u64.wrap (b[i].toNat:Int)) (IntKind.i64.wrap (8*(i:Int)))))=PV.int _ _
   rw [w64 (by omega) (by omega),List.take_succ_eq_append_getElem hi']
   have hl:(b.take i).length=i:=by rw [zqr];omega
   have:=le_step (b.take i) b[i] (by omega)
   rw [hl] at this
   rw [this]
 ·have h:¬(i:Int)<b.length:=h
  have e:b.take i=b:=List.take_of_length_le (by omega)
  rw [e]
  conv=>whnf
  exact ⟨rfl,rfl⟩
def S4.takes (s:S4) (m:Int):S4:={ S4.rnds 2 { s with d:=xorW s.d m } with a:=xorW (S4.rnds 2 { s with d:=xorW s.d m }).a m }
def D196:Draw:={ imp:=[8],win:=[] }
theorem c196 (s:S4) (m:Int) (id v:Nat) (H:PH) (hid:H[id]? = some (s.O v)) :
  CK prog 196 [.ptr (some (id,0)),.int .u64 m] H fun r H'=>r=.tup []∧∃v',H'=H.set id ((s.takes m).O v'):=by
 (refine fnS (imm:=imm196) ttW_ok func196 ?_;(conv=>whnf))
 refine dO2 D196 [H,H.set id (S4.O { s with d:=xorW s.d m } (v+1))] (by kernel_rfl) rfl trivial ?_
 have g0:H[id]? = some ⟨269,[.int .u64 s.a,.int .u64 s.b,.int .u64 s.c,.int .u64 s.d],v⟩:=hid
 conv=>whnf
 iterate 3 (refine dS ?_;(conv=>whnf))
 apply exA
 ·conv=>whnf
  ((conv in (_[_]?)=>tactic=>exact g0);(conv=>whnf))
  exact ⟨rfl,rfl,zqv⟩
 conv=>whnf
 iterate 4 (refine dS ?_;(conv=>whnf))
 apply exA
 ·conv=>whnf
  ((conv in (_[_]?)=>tactic=>exact g0);(conv=>whnf))
  exact ⟨rfl,rfl,zqv⟩
 conv=>whnf
 refine cO (Q:=fun r H'=>r=.tup []∧∃v',H'=H.set id ((S4.rnds 2 { s with d:=xorW s.d m }).O v')) ((c197 2 (by omega) { s with d:=xorW s.d m } id (v+1) (H.set id _) (gS hid)).mono fun r H' hh=>?_) ?_
 ·obtain ⟨h1,v',h2⟩:=hh
  exact ⟨h1,v',by rw [h2,List.set_set]⟩
 rintro _ _ ⟨rfl,v',rfl⟩
 conv=>whnf
 generalize hs:S4.rnds 2 { s with d:=xorW s.d m }=z
 refine dO2 D196 [H.set id (z.O v'),H.set id (S4.O { z with a:=xorW z.a m } (v'+1))] (by kernel_rfl) rfl trivial ?_
 conv=>whnf
 iterate 3 (refine dS ?_;(conv=>whnf))
 apply exA
 ·conv=>whnf
  ((conv in (_[_]?)=>tactic=>exact (z.look v' hid));(conv=>whnf))
  exact ⟨rfl,rfl,zqv⟩
 conv=>whnf
 iterate 4 (refine dS ?_;(conv=>whnf))
 apply exA
 ·conv=>whnf
  ((conv in (_[_]?)=>tactic=>exact (z.look v' hid));(conv=>whnf))
  exact ⟨rfl,List.set_set ..,zqv⟩
 conv=>whnf
 refine ⟨rfl,v'+1,?_⟩
 subst hs
 rfl
def sipN (s:S4) (p:List UInt8):Nat→S4
 | 0=>s
 | n+1=>(sipN s p n).takes (leN ((p.drop (8*n)).take 8):Nat)
def sipI (k:List UInt8):S4:=⟨xorW 8317987319222330741 (leN (k.take 8):Nat),xorW 7237128888997146477 (leN (k.drop 8):Nat),xorW 7816392313619706465 (leN (k.take 8):Nat),xorW 8387220255154660723 (leN (k.drop 8):Nat)⟩
def lastW (n:Int):Int:=ishl .u64 (IntKind.u64.wrap (IntKind.u8.wrap n)) 56
def S4.fin (s:S4):S4:=S4.rnds 4 { s with c:=xorW s.c 255 }
def S4.out (s:S4):Int:=xorW (xorW (xorW s.a s.b) s.c) s.d
def sipV (k p:List UInt8):Int:=(((sipN (sipI k) p (p.length / 8)).takes (ibits .or .u64 (lastW p.length) (leN (p.drop (8*(p.length / 8))):Nat))).fin).out
theorem Rep.ext {H H':PH} (e:Ext H H') {c:PV} {b:List UInt8} (h:Rep H c b):Rep H' c b:=by
 rcases h with h | ⟨id,off,cap,o,h1,h2,h3⟩
 ·exact .inl h
 ·exact .inr ⟨id,off,cap,o,h1,e.get h2,h3⟩
theorem Reps.ext {H H':PH} (e:Ext H H') {cs:List PV} {ls:List (List UInt8)} (h:Reps H cs ls):Reps H' cs ls:=⟨h.1,fun i c b hc hb=>(h.2 i c b hc hb).ext e⟩
theorem len16 {k:List UInt8} (h:k.length=16):∃k0 k1 k2 k3 k4 k5 k6 k7 k8 k9 ka kb kc kd ke kf,k=[k0,k1,k2,k3,k4,k5,k6,k7,k8,k9,ka,kb,kc,kd,ke,kf]:=by
 match k,h with
 | [k0,k1,k2,k3,k4,k5,k6,k7,k8,k9,ka,kb,kc,kd,ke,kf],_=>exact ⟨_,_,_,_,_,_,_,_,_,_,_,_,_,_,_,_,rfl⟩
theorem sl_cut2 (b:List UInt8) (l h:Int) (h0:0≤l∧l≤h∧h≤b.length) :
  PV.slice (h.toNat - l.toNat) (((b.map bC).take (h.toNat*1)).drop (l.toNat*1)) none=sl ((b.take h.toNat).drop l.toNat):=by
 unfold sl
 have:((b.take h.toNat).drop l.toNat).length=h.toNat - l.toNat:=by rw [List.length_drop,zqr];omega
 rw [this,List.map_drop,List.map_take,Nat.mul_one,Nat.mul_one]
structure SipS where
 i:Nat
 v:Nat
def D176_9:Draw:={ imp:=[7],win:=[] }
theorem c176x (k:List UInt8) (hk:k.length=16) (ls:List (List UInt8)) (hn:ls.length≤1099511627776) (ht:ls.flatten.length≤1099511627776) (H:PH) (cs:List PV) (hr:Reps H cs ls) :
  CK prog 176 [.agg (k.map bC),.slice ls.length cs none] H fun r H'=>r=.int .u64 (sipV k ls.flatten)∧∃ext,H'=H++ext:=by
 obtain ⟨k0,k1,k2,k3,k4,k5,k6,k7,k8,k9,ka,kb,kc,kd,ke,kf,rfl⟩:=len16 hk
 have hk2:sipI [k0,k1,k2,k3,k4,k5,k6,k7,k8,k9,ka,kb,kc,kd,ke,kf]=⟨xorW 8317987319222330741 (leN [k0,k1,k2,k3,k4,k5,k6,k7]:Nat),xorW 7237128888997146477 (leN [k8,k9,ka,kb,kc,kd,ke,kf]:Nat),xorW 7816392313619706465 (leN [k0,k1,k2,k3,k4,k5,k6,k7]:Nat),xorW 8387220255154660723 (leN [k8,k9,ka,kb,kc,kd,ke,kf]:Nat)⟩:=rfl
 unfold sipV
 generalize hs0:sipI [k0,k1,k2,k3,k4,k5,k6,k7,k8,k9,ka,kb,kc,kd,ke,kf]=s0
 rw [hk2] at hs0
 (refine fnS (imm:=imm176) ttW_ok func176 ?_;(conv=>whnf))
 refine dP2 (by kernel_rfl) ?_
 conv=>whnf
 (refine dS ?_;(conv=>whnf))
 refine ⟨_,cA rfl (cP (c195 [k0,k1,k2,k3,k4,k5,k6,k7] (by simp)) ⟨rfl,rfl,zqv⟩),?_⟩
 conv=>whnf
 (refine dS ?_;(conv=>whnf))
 refine ⟨_,cA rfl (cP (c195 [k8,k9,ka,kb,kc,kd,ke,kf] (by simp)) ⟨rfl,rfl,zqv⟩),?_⟩
 conv=>whnf
 iterate 2 (refine dS ?_;(conv=>whnf))
 refine cO (c179 ls hn ht (hr.ext ((Ext.refl H).push _))) ?_
 rintro _ _ ⟨rfl,rfl⟩
 conv=>whnf
 generalize hp:ls.flatten=p at ht ⊢
 have hO:(PObj.mk 269 [.int .u64 (ibits .xor .u64 8317987319222330741 (leN [k0,k1,k2,k3,k4,k5,k6,k7]:Nat)),.int .u64 (ibits .xor .u64 7237128888997146477 (leN [k8,k9,ka,kb,kc,kd,ke,kf]:Nat)),.int .u64 (ibits .xor .u64 7816392313619706465 (leN [k0,k1,k2,k3,k4,k5,k6,k7]:Nat)),.int .u64 (ibits .xor .u64 8387220255154660723 (leN [k8,k9,ka,kb,kc,kd,ke,kf]:Nat))] 0)=s0.O 0:=by subst hs0;rfl
 refine ⟨by decide,?_⟩
 conv=>whnf
 refine lO SipS (fun x=>[(7,.ptr (some (H.length,0))),(8,sl (p.drop (8*x.i))),(9,.int .u64 (lastW p.length))]) (fun x=>H++[(sipN s0 p x.i).O x.v]) (fun x=>x.i≤p.length / 8) (fun x=>p.length / 8 - x.i) ⟨⟨0,0⟩,Nat.zero_le _,⟨rfl,rfl,rfl,zqv⟩,zqm (fun o=>H++[o]) hO⟩ ?_
 rintro ⟨i,v⟩ hi
 replace hi:i≤p.length / 8:=hi
 have hl:(p.drop (8*i)).length=p.length - 8*i:=List.length_drop
 conv=>whnf
 refine ⟨fun h=>?_,fun h=>?_⟩
 ·have h:(8:Int)≤(p.drop (8*i)).length:=h
  conv=>whnf
  refine ⟨⟨by omega,by omega,h⟩,?_⟩
  conv=>whnf
  refine cA (zqm (fun x=>[x]) (sl_cut2 (p.drop (8*i)) 0 8 ⟨by omega,by omega,h⟩)) (cP (c195 (((p.drop (8*i)).take 8).drop 0) (by rw [List.length_drop,zqr];omega)) ?_)
  conv=>whnf
  refine cO (Q:=fun r H'=>r=.tup []∧∃v',H'=H++[(sipN s0 p (i+1)).O v']) ((c196 (sipN s0 p i) (leN (((p.drop (8*i)).take 8).drop 0):Nat) H.length v _ (gL H _)).mono fun r H' hh=>?_) ?_
  ·obtain ⟨h1,v',h2⟩:=hh
   exact ⟨h1,v',by rw [h2,sL];rfl⟩
  rintro _ _ ⟨rfl,v',rfl⟩
  conv=>whnf
  refine ⟨⟨by omega,h,by omega⟩,?_⟩
  conv=>whnf
  refine ⟨⟨i+1,v'⟩,by show i+1≤p.length / 8;omega,⟨rfl,?_,rfl,zqv⟩,rfl,by show p.length / 8 - (i+1)<p.length / 8 - i;omega⟩
  have e:=sl_cut2 (p.drop (8*i)) 8 (p.drop (8*i)).length ⟨by omega,h,by omega⟩
  rw [Int.toNat_natCast,List.take_length,List.drop_drop] at e
  exact e
 ·have h:¬(8:Int)≤(p.drop (8*i)).length:=h
  have hi2:i=p.length / 8:=by omega
  rw [←hi2]
  conv=>whnf
  refine cP (c195 (p.drop (8*i)) (by omega)) ?_
  conv=>whnf
  generalize hm:ibits .or .u64 (lastW p.length) (leN (p.drop (8*i)):Nat)=m
  generalize hs1:sipN s0 p i=s1
  refine cO (Q:=fun r H'=>r=.tup []∧∃v',H'=H++[(s1.takes m).O v']) ?_ ?_
  ·refine (c196 s1 m H.length v _ (gL H _)).mono fun r H' hh=>?_
   obtain ⟨h1,v',h2⟩:=hh
   exact ⟨h1,v',by rw [h2,sL]⟩
  rintro _ _ ⟨rfl,v1,rfl⟩
  conv=>whnf
  generalize hs2:s1.takes m=s2
  refine dO2 D176_9 [H++[s2.O v1],H++[S4.O { s2 with c:=xorW s2.c 255 } (v1+1)]] (by kernel_rfl) rfl trivial ?_
  have g0:(H++[s2.O v1])[H.length]? = some ⟨269,[.int .u64 s2.a,.int .u64 s2.b,.int .u64 s2.c,.int .u64 s2.d],v1⟩:=gL H _
  conv=>whnf
  iterate 3 (refine dS ?_;(conv=>whnf))
  apply exA
  ·conv=>whnf
   ((conv in (_[_]?)=>tactic=>exact g0);(conv=>whnf))
   exact ⟨rfl,rfl,zqv⟩
  conv=>whnf
  iterate 3 (refine dS ?_;(conv=>whnf))
  apply exA
  ·conv=>whnf
   ((conv in (_[_]?)=>tactic=>exact g0);(conv=>whnf))
   exact ⟨rfl,sL H _ _,zqv⟩
  conv=>whnf
  refine cO (Q:=fun r H'=>r=.tup []∧∃v',H'=H++[s2.fin.O v']) ((c197 4 (by omega) { s2 with c:=xorW s2.c 255 } H.length (v1+1) (H++[_]) (gL H _)).mono fun r H' hh=>?_) ?_
  ·obtain ⟨h1,v',h2⟩:=hh
   exact ⟨h1,v',by rw [h2,sL];rfl⟩
  rintro _ _ ⟨rfl,v2,rfl⟩
  conv=>whnf
  generalize hs3:s2.fin=s3
  have g1:(H++[s3.O v2])[H.length]? = some ⟨269,[.int .u64 s3.a,.int .u64 s3.b,.int .u64 s3.c,.int .u64 s3.d],v2⟩:=gL H _
  refine dP2 (by kernel_rfl) ?_
  conv=>whnf
  iterate 3 (refine dS ?_;(conv=>whnf))
  apply exA
  ·conv=>whnf
   ((conv in (_[_]?)=>tactic=>exact g1);(conv=>whnf))
   exact ⟨rfl,rfl,zqv⟩
  conv=>whnf
  iterate 3 (refine dS ?_;(conv=>whnf))
  apply exA
  ·conv=>whnf
   ((conv in (_[_]?)=>tactic=>exact g1);(conv=>whnf))
   exact ⟨rfl,rfl,zqv⟩
  conv=>whnf
  iterate 4 (refine dS ?_;(conv=>whnf))
  apply exA
  ·conv=>whnf
   ((conv in (_[_]?)=>tactic=>exact g1);(conv=>whnf))
   exact ⟨rfl,rfl,zqv⟩
  conv=>whnf
  iterate 4 (refine dS ?_;(conv=>whnf))
  apply exA
  ·conv=>whnf
   ((conv in (_[_]?)=>tactic=>exact g1);(conv=>whnf))
   exact ⟨rfl,rfl,zqv⟩
  conv=>whnf
  iterate 2 (refine dS ?_;(conv=>whnf))
  exact ⟨rfl,_,rfl⟩
theorem c176 (k:List UInt8) (hk:k.length=16) (ls:List (List UInt8)) (hn:ls.length≤1099511627776) (ht:ls.flatten.length≤1099511627776) {H:PH} {cs:List PV} (hr:Reps H cs ls) :
  CK prog 176 [.agg (k.map bC),.slice ls.length cs none] H fun r H'=>r=.int .u64 (sipV k ls.flatten)∧H'=H:=by
 exact ((c176x k hk ls hn ht H cs hr).gc fun r H' ⟨h1,h2⟩=>by subst h1;exact ⟨rfl,h2⟩).mono fun r H' ⟨h1,_,h2,_⟩=>⟨h2,h1⟩
def ttR:TT:=[(3,⟨.int .i64,1,8,[.int .i64 0]⟩),(4,⟨.bool,1,1,[.bool false]⟩),(5,⟨.int .u8,1,1,[.int .u8 0]⟩),(9,⟨.str,1,16,[.str []]⟩),(36,⟨.strct [(9,0),(9,1)],2,32,[.str [],.str []]⟩),(100,⟨.ptr,1,8,[.ptr none]⟩),(26,⟨.int .i64,1,8,[.int .i64 0]⟩),(31,⟨.arr 32 5,32,32,List.replicate 32 (.int .u8 0)⟩),(106,⟨.ptr,1,8,[.ptr none]⟩),(63,⟨.strct [(3,0),(51,1),(55,7),(57,16),(59,23),(61,28)],30,448,[.int .i64 0,.str [],.str [],.str [],.str [],.int .i64 0,.int .i64 0,.str [],.str [],.int .i64 0,.slice 0 [] (some 5),.slice 0 [] (some 5),.str [],.str [],.int .i64 0,.int .i64 0,.str [],.str [],.str [],.str [],.int .i64 0,.slice 0 [] (some 5),.slice 0 [] (some 5),.str [],.str [],.int .i64 0,.slice 0 [] (some 5),.slice 0 [] (some 5),.int .i64 0,.int .i64 0]⟩),(152,⟨.fn,1,8,[.nilF]⟩),(154,⟨.ptr,1,8,[.ptr none]⟩),(155,⟨.strct [(36,0),(83,2)],39,136,[.str [],.str [],.str [],.str [],.int .i64 0,.slice 0 [] (some 5)]++List.replicate 32 (.int .u8 0)++[.int .i64 0]⟩),(159,⟨.strct [(158,0)],1,8,[.undef]⟩),(212,⟨.fn,1,8,[.nilF]⟩),(197,⟨.ptr,1,8,[.ptr none]⟩),(179,⟨.arr 16 5,16,16,List.replicate 16 (.int .u8 0)⟩),(200,⟨.strct [(197,0),(179,1),(105,17),(105,18),(105,19)],20,48,[.ptr none]++List.replicate 16 (.int .u8 0)++[.int .i64 0,.int .i64 0,.int .i64 0]⟩),(184,⟨.int .u32,1,4,[.int .u32 0]⟩),(185,⟨.arr 27 184,27,108,List.replicate 27 (.int .u32 0)⟩),(243,⟨.strct [(179,0),(241,16),(185,19),(235,46)],47,140,List.replicate 16 (.int .u8 0)++[.int .u32 0,.int .i32 0]++List.replicate 29 (.int .u32 0)⟩)]
theorem ttR_ok:ttOk prog ttR=true:=by kernel_rfl
def imm115:List Nat:=[1]
def imm70:List Nat:=[1]
def speckO (k:List UInt8):PObj:=⟨243,k.map bC++([.int .u32 0,.int .i32 0]++List.replicate 29 (.int .u32 0)),0⟩
theorem c115 (k:List UInt8) (hk:k.length=16) (H:PH):CK prog 115 [.agg (k.map bC)] H fun r H'=>r=.ptr (some (H.length,0))∧H'=H++[speckO k]:=by
 match k,hk with
 | [a0,a1,a2,a3,a4,a5,a6,a7,a8,a9,a10,a11,a12,a13,a14,a15],_ =>
  (refine fnS (imm:=imm115) ttR_ok func115 ?_;(conv=>whnf))
  exact ⟨rfl,rfl⟩
def boxO (k:List UInt8) (n:Nat):PObj:=⟨200,[.ptr (some (n,0))]++(k.drop 16).map bC++[.int .i64 0,.int .i64 0,.int .i64 0],0⟩
def D70:Draw:={ imp:=[3,8],win:=[(4,0,1),(5,0,1),(6,0,1),(7,1,1),(8,1,1),(9,2,2)] }
theorem c70 (k:List UInt8) (hk:k.length=32) (H:PH):CK prog 70 [.agg (k.map bC)] H fun r H'=>r=.ptr (some (H.length+1,0))∧H'=H++[speckO (k.take 16),boxO k H.length]:=by
 match k,hk with
 | [a0,a1,a2,a3,a4,a5,a6,a7,a8,a9,a10,a11,a12,a13,a14,a15,b0,b1,b2,b3,b4,b5,b6,b7,b8,b9,b10,b11,b12,b13,b14,b15],_ =>
  (refine fnS (imm:=imm70) ttR_ok func70 ?_;(conv=>whnf))
  refine dO2 D70 [H,H++[speckO [a0,a1,a2,a3,a4,a5,a6,a7,a8,a9,a10,a11,a12,a13,a14,a15]],H++[speckO [a0,a1,a2,a3,a4,a5,a6,a7,a8,a9,a10,a11,a12,a13,a14,a15],boxO [a0,a1,a2,a3,a4,a5,a6,a7,a8,a9,a10,a11,a12,a13,a14,a15,b0,b1,b2,b3,b4,b5,b6,b7,b8,b9,b10,b11,b12,b13,b14,b15] H.length]] (by kernel_rfl) rfl trivial ?_
  conv=>whnf
  iterate 3 (refine dS ?_;(conv=>whnf))
  apply exA
  ·conv=>whnf
   refine cO (c115 [a0,a1,a2,a3,a4,a5,a6,a7,a8,a9,a10,a11,a12,a13,a14,a15] rfl H) ?_
   rintro r H' ⟨rfl,rfl⟩
   conv=>whnf
   exact ⟨rfl,rfl,zqv⟩
  conv=>whnf
  iterate 3 (refine dS2 ?_;(conv=>whnf))
  (refine dS ?_;(conv=>whnf))
  apply exA
  ·conv=>whnf
   refine ⟨rfl,?_,zqv⟩
   exact List.append_assoc _ _ _
  conv=>whnf
  (refine dS ?_;(conv=>whnf))
  refine ⟨?_,rfl⟩
  show PV.ptr (some ((H++[_]).length,0))=_
  rw [zqf];rfl
def ttS:TT:=[(2,⟨.int .i64,1,8,[.int .i64 0]⟩),(3,⟨.int .i64,1,8,[.int .i64 0]⟩),(4,⟨.bool,1,1,[.bool false]⟩),(5,⟨.int .u8,1,1,[.int .u8 0]⟩),(25,⟨.slice 5,1,24,[.slice 0 [] (some 5)]⟩),(106,⟨.ptr,1,8,[.ptr none]⟩),(197,⟨.ptr,1,8,[.ptr none]⟩),(179,⟨.arr 16 5,16,16,List.replicate 16 (.int .u8 0)⟩),(105,⟨.strB [(102,0),(103,0),(2,0)],1,8,[.int .i64 0]⟩),(200,⟨.strct [(197,0),(179,1),(105,17),(105,18),(105,19)],20,48,[.ptr none]++List.replicate 16 (.int .u8 0)++[.int .i64 0,.int .i64 0,.int .i64 0]⟩),(134,⟨.int .u64,1,8,[.int .u64 0]⟩),(192,⟨.slice 25,1,24,[.slice 0 [] (some 25)]⟩),(203,⟨.ptr,1,8,[.ptr none]⟩),(184,⟨.int .u32,1,4,[.int .u32 0]⟩),(230,⟨.slice 184,1,24,[.slice 0 [] (some 184)]⟩)]
theorem ttS_ok:ttOk prog ttS=true:=by kernel_rfl
def imm71:List Nat:=[]
def imm138:List Nat:=[]
def imm159:List Nat:=[5]
def imm139:List Nat:=[]
def imm141:List Nat:=[]
def imm142:List Nat:=[]
def imm88:List Nat:=[]
def imm177:List Nat:=[]
def imm131y:List Nat:=[]
theorem c116 {H:PH} {id off:Nat} {o:PObj} {n:Int} (m:Int) (ho:H[id]? = some o) (hc:o.cs[off]? = some (.int .i64 n)) :
  CK prog 116 [.ptr (some (id,off)),.int .i64 m] H fun r H'=>r=.int .i64 (IntKind.i64.wrap (n+m))∧H'=H.set id ⟨o.T,setCells off [.int .i64 (IntKind.i64.wrap (n+m))] o.cs,o.ver+1⟩ :=
 callOk_add func116 (by kernel_rfl) (by kernel_rfl) (by kernel_rfl) .i64 (by kernel_rfl) m ho hc
theorem c71 {H:PH} {id off:Nat} {o:PObj} {n:Int} (m:Int) (ho:H[id]? = some o) (hc:o.cs[off]? = some (.int .i64 n)) :
  CK prog 71 [.ptr (some (id,off)),.int .i64 m] H fun r H'=>r=.int .i64 (IntKind.i64.wrap (n+m))∧H'=H.set id ⟨o.T,setCells off [.int .i64 (IntKind.i64.wrap (n+m))] o.cs,o.ver+1⟩:=by
 (refine fnS (imm:=imm71) ttS_ok func71 ?_;(conv=>whnf))
 refine cO (c116 m ho hc) ?_
 rintro _ _ ⟨rfl,rfl⟩
 conv=>whnf
 exact ⟨rfl,rfl⟩
def isUseB (u:Int):Bool:=decide (0≤u)&&decide (u≤255)
theorem c138 (u:Int):Pure prog 138 [.int .i64 u] (.bool (isUseB u)):=by
 intro H
 (refine fnS (imm:=imm138) ttS_ok func138 ?_;(conv=>whnf))
 refine ⟨fun h=>?_,fun h=>?_⟩
 ·conv=>whnf
  refine ⟨fun h2=>?_,fun h2=>?_⟩
  ·conv=>whnf
   exact ⟨zqm PV.bool (by unfold isUseB;rw [zqe h,zqe h2];rfl),rfl⟩
  ·conv=>whnf
   exact ⟨zqm PV.bool (by unfold isUseB;rw [zqe h,zqd h2];rfl),rfl⟩
 ·conv=>whnf
  exact ⟨zqm PV.bool (by unfold isUseB;rw [zqd h];rfl),rfl⟩
def byteI (x:Int):UInt8:=UInt8.ofNat (x % 256).toNat
theorem byteC_I (x:Int):PV.int .u8 (IntKind.u8.wrap x)=bC (byteI x):=by
 show PV.int .u8 (x % (2 ^ IntKind.u8.bits:Int))=PV.int .u8 (((byteI x).toNat:Nat):Int)
 have:(2 ^ IntKind.u8.bits:Int)=256:=by decide
 rw [this]
 unfold byteI
 rw [UInt8.toNat_ofNat']
 congr 1
 omega
def bigV (n:Int):List UInt8:=[byteI (ishr .u64 n 56),byteI (ishr .u64 n 48),byteI (ishr .u64 n 40),byteI (ishr .u64 n 32),byteI (ishr .u64 n 24),byteI (ishr .u64 n 16),byteI (ishr .u64 n 8),byteI (ishr .u64 n 0)]
def bigC (n:Int) (i:Nat):List PV:=List.replicate (8 - i) (.int .u8 0)++((bigV n).map bC).drop (8 - i)
theorem c159x (n:Int) (H:PH):CK prog 159 [.int .u64 n] H fun r H'=>r=.sref H.length 0 8 8∧∃v,H'=H++[⟨5,(bigV n).map bC,v⟩]:=by
 (refine fnS (imm:=imm159) ttS_ok func159 ?_;(conv=>whnf))
 refine ⟨by decide,?_⟩
 conv=>whnf
 refine lO Nat (fun i=>[(0,.int .u64 n),(3,.sref H.length 0 8 8),(7,.int .i64 8),(8,.int .i64 i)]) (fun i=>H++[⟨5,bigC n i,i⟩]) (fun i=>i≤8) (fun i=>8 - i) ⟨0,Nat.zero_le _,⟨rfl,rfl,rfl,rfl,zqv⟩,rfl⟩ ?_
 intro i hi
 match i,hi with
 | 0,_ =>
  conv=>whnf
  refine ⟨fun _=>?_,fun h=>absurd (show ((0:Nat):Int)<8 by decide) h⟩
  conv=>whnf
  refine ⟨by decide,?_⟩
  conv=>whnf
  refine ⟨⟨by decide,by decide⟩,?_⟩
  conv=>whnf
  ((conv in (_[_]?)=>tactic=>exact (gL H _));(conv=>whnf))
  refine ⟨1,by decide,⟨rfl,rfl,rfl,rfl,zqv⟩,?_,by decide⟩
  refine (sL H _ _).trans (zqm (fun o=>H++[o]) ?_)
  show PObj.mk 5 (setCells 7 [.int .u8 (IntKind.u8.wrap (ishr .u64 n 0))] (bigC n 0)) 1=PObj.mk 5 (bigC n 1) 1
  rw [byteC_I]
  rfl
 | 1,_ =>
  conv=>whnf
  refine ⟨fun _=>?_,fun h=>absurd (show ((1:Nat):Int)<8 by decide) h⟩
  conv=>whnf
  refine ⟨by decide,?_⟩
  conv=>whnf
  refine ⟨⟨by decide,by decide⟩,?_⟩
  conv=>whnf
  ((conv in (_[_]?)=>tactic=>exact (gL H _));(conv=>whnf))
  refine ⟨2,by decide,⟨rfl,rfl,rfl,rfl,zqv⟩,?_,by decide⟩
  refine (sL H _ _).trans (zqm (fun o=>H++[o]) ?_)
  show PObj.mk 5 (setCells 6 [.int .u8 (IntKind.u8.wrap (ishr .u64 n 8))] (bigC n 1)) 2=PObj.mk 5 (bigC n 2) 2
  rw [byteC_I]
  rfl
 | 2,_ =>
  conv=>whnf
  refine ⟨fun _=>?_,fun h=>absurd (show ((2:Nat):Int)<8 by decide) h⟩
  conv=>whnf
  refine ⟨by decide,?_⟩
  conv=>whnf
  refine ⟨⟨by decide,by decide⟩,?_⟩
  conv=>whnf
  ((conv in (_[_]?)=>tactic=>exact (gL H _));(conv=>whnf))
  refine ⟨3,by decide,⟨rfl,rfl,rfl,rfl,zqv⟩,?_,by decide⟩
  refine (sL H _ _).trans (zqm (fun o=>H++[o]) ?_)
  show PObj.mk 5 (setCells 5 [.int .u8 (IntKind.u8.wrap (ishr .u64 n 16))] (bigC n 2)) 3=PObj.mk 5 (bigC n 3) 3
  rw [byteC_I]
  rfl
 | 3,_ =>
  conv=>whnf
  refine ⟨fun _=>?_,fun h=>absurd (show ((3:Nat):Int)<8 by decide) h⟩
  conv=>whnf
  refine ⟨by decide,?_⟩
  conv=>whnf
  refine ⟨⟨by decide,by decide⟩,?_⟩
  conv=>whnf
  ((conv in (_[_]?)=>tactic=>exact (gL H _));(conv=>whnf))
  refine ⟨4,by decide,⟨rfl,rfl,rfl,rfl,zqv⟩,?_,by decide⟩
  refine (sL H _ _).trans (zqm (fun o=>H++[o]) ?_)
  show PObj.mk 5 (setCells 4 [.int .u8 (IntKind.u8.wrap (ishr .u64 n 24))] (bigC n 3)) 4=PObj.mk 5 (bigC n 4) 4
  rw [byteC_I]
  rfl
 | 4,_ =>
  conv=>whnf
  refine ⟨fun _=>?_,fun h=>absurd (show ((4:Nat):Int)<8 by decide) h⟩
  conv=>whnf
  refine ⟨by decide,?_⟩
  conv=>whnf
  refine ⟨⟨by decide,by decide⟩,?_⟩
  conv=>whnf
  ((conv in (_[_]?)=>tactic=>exact (gL H _));(conv=>whnf))
  refine ⟨5,by decide,⟨rfl,rfl,rfl,rfl,zqv⟩,?_,by decide⟩
  refine (sL H _ _).trans (zqm (fun o=>H++[o]) ?_)
  show PObj.mk 5 (setCells 3 [.int .u8 (IntKind.u8.wrap (ishr .u64 n 32))] (bigC n 4)) 5=PObj.mk 5 (bigC n 5) 5
  rw [byteC_I]
  rfl
 | 5,_ =>
  conv=>whnf
  refine ⟨fun _=>?_,fun h=>absurd (show ((5:Nat):Int)<8 by decide) h⟩
  conv=>whnf
  refine ⟨by decide,?_⟩
  conv=>whnf
  refine ⟨⟨by decide,by decide⟩,?_⟩
  conv=>whnf
  ((conv in (_[_]?)=>tactic=>exact (gL H _));(conv=>whnf))
  refine ⟨6,by decide,⟨rfl,rfl,rfl,rfl,zqv⟩,?_,by decide⟩
  refine (sL H _ _).trans (zqm (fun o=>H++[o]) ?_)
  show PObj.mk 5 (setCells 2 [.int .u8 (IntKind.u8.wrap (ishr .u64 n 40))] (bigC n 5)) 6=PObj.mk 5 (bigC n 6) 6
  rw [byteC_I]
  rfl
 | 6,_ =>
  conv=>whnf
  refine ⟨fun _=>?_,fun h=>absurd (show ((6:Nat):Int)<8 by decide) h⟩
  conv=>whnf
  refine ⟨by decide,?_⟩
  conv=>whnf
  refine ⟨⟨by decide,by decide⟩,?_⟩
  conv=>whnf
  ((conv in (_[_]?)=>tactic=>exact (gL H _));(conv=>whnf))
  refine ⟨7,by decide,⟨rfl,rfl,rfl,rfl,zqv⟩,?_,by decide⟩
  refine (sL H _ _).trans (zqm (fun o=>H++[o]) ?_)
  show PObj.mk 5 (setCells 1 [.int .u8 (IntKind.u8.wrap (ishr .u64 n 48))] (bigC n 6)) 7=PObj.mk 5 (bigC n 7) 7
  rw [byteC_I]
  rfl
 | 7,_ =>
  conv=>whnf
  refine ⟨fun _=>?_,fun h=>absurd (show ((7:Nat):Int)<8 by decide) h⟩
  conv=>whnf
  refine ⟨by decide,?_⟩
  conv=>whnf
  refine ⟨⟨by decide,by decide⟩,?_⟩
  conv=>whnf
  ((conv in (_[_]?)=>tactic=>exact (gL H _));(conv=>whnf))
  refine ⟨8,by decide,⟨rfl,rfl,rfl,rfl,zqv⟩,?_,by decide⟩
  refine (sL H _ _).trans (zqm (fun o=>H++[o]) ?_)
  show PObj.mk 5 (setCells 0 [.int .u8 (IntKind.u8.wrap (ishr .u64 n 56))] (bigC n 7)) 8=PObj.mk 5 (bigC n 8) 8
  rw [byteC_I]
  rfl
 | 8,_ =>
  conv=>whnf
  refine ⟨fun h=>absurd h (by decide),fun _=>?_⟩
  conv=>whnf
  exact ⟨rfl,8,rfl⟩
theorem c159 (n:Int):Pure prog 159 [.int .u64 n] (sl (bigV n)):=fun H=>by
 refine CK.frz (nn:=8) (cs:=(bigV n).map bC) (c159x n H) fun r H' hh=>?_
 obtain ⟨rfl,v,rfl⟩:=hh
 exact ⟨_,H.length,8,_,rfl,rfl,zqn _,gL H _,zqn _,rfl,rfl⟩
def beN (l:List UInt8):Nat:=l.foldl (fun n c=>n*256+c.toNat) 0
theorem beN_snoc (l:List UInt8) (c:UInt8):beN (l++[c])=beN l*256+c.toNat:=by simp [beN]
theorem beN_lt (l:List UInt8):∀{n:Nat},l.length=n→beN l<256 ^ n:=by
 intro n
 induction n generalizing l with
 | zero=>intro h;rw [List.length_eq_zero_iff.1 h];decide
 | succ n ih =>
  intro h
  have hne:l≠[]:=by rintro rfl;simp at h
  have hd:=List.dropLast_concat_getLast hne
  rw [←hd,beN_snoc,Nat.pow_succ]
  have:=ih l.dropLast (by simp [h])
  have:=(l.getLast hne).toNat_lt
  omega
theorem be_step (l:List UInt8) (c:UInt8) (h:l.length<8):IntKind.u64.wrap (ishl .u64 (beN l:Nat) 8+IntKind.u64.wrap c.toNat)=((beN (l++[c]):Nat):Int):=by
 have hc:=c.toNat_lt
 have h1:=beN_lt l rfl
 rw [pow8] at h1
 have h3:2 ^ (8*(l.length+1))≤18446744073709551616:=pow_le8 (by omega)
 have h4:2 ^ (8*(l.length+1))=256*2 ^ (8*l.length):=by rw [Nat.mul_add,Nat.pow_add];omega
 have h5:beN l*256<18446744073709551616:=by omega
 have e:ishl .u64 (beN l:Nat) 8=((beN l*256:Nat):Int):=by
  show IntKind.u64.wrap ((beN l:Int)*2 ^ (min (8:Int).toNat 64))=_
  have:((beN l:Int)*2 ^ (min (8:Int).toNat 64))=((beN l*256:Nat):Int):=by push_cast;rfl
  rw [this]
  exact wrapU64 h5
 rw [e,wrapU64 (by omega),beN_snoc,←wrapU64 (n:=beN l*256+c.toNat) (by omega)]
 congr 1
theorem c139 (b:List UInt8) (hb:b.length≤8):Pure prog 139 [sl b] (.int .u64 (beN b)):=by
 intro H
 (refine fnS (imm:=imm139) ttS_ok func139 ?_;(conv=>whnf))
 refine lO Nat (fun i=>[(6,sl b),(7,.int .i64 b.length),(8,.int .i64 i),(3,.int .u64 (beN (b.take i)))]) (fun _=>H) (fun i=>i≤b.length) (fun i=>b.length - i) ⟨0,Nat.zero_le _,⟨rfl,rfl,rfl,rfl,zqv⟩,rfl⟩ ?_
 intro i hi
 conv=>whnf
 refine ⟨fun h=>?_,fun h=>?_⟩
 ·have h:(i:Int)<b.length:=h
  have hi':i<b.length:=by omega
  conv=>whnf
  refine ⟨⟨by omega,h⟩,[bC b[i]],at1' (k:=(i:Int).toNat*1) (by rw [Int.toNat_natCast,Nat.mul_one,List.getElem?_map,zqc hi'];rfl),?_⟩
  conv=>whnf
  refine ⟨by decide,?_⟩
  conv=>whnf
  refine ⟨i+1,by omega,⟨rfl,rfl,?_,?_,zqv⟩,rfl,by omega⟩
  ·show PV.int _ (IntKind.i64.wrap ((i:Int)+1))=PV.int _ _
   rw [w64 (by omega) (by omega)];simp
  ·show PV.int _ (IntKind.u64.wrap (ishl .u64 (beN (b.take i):Nat) 8+IntKind.u64.wrap (b[i].toNat:Int)))=PV.int _ _
   rw [List.take_succ_eq_append_getElem hi']
   have hl:(b.take i).length=i:=by rw [zqr];omega
   rw [be_step (b.take i) b[i] (by omega)]
 ·have h:¬(i:Int)<b.length:=h
  have e:b.take i=b:=List.take_of_length_le (by omega)
  rw [e]
  conv=>whnf
  exact ⟨rfl,rfl⟩
def ow (b:List UInt8):PV:=.slice b.length (b.map bC) (some 5)
theorem psize5:psize prog 5=1:=by kernel_rfl
theorem allFlat (b:List UInt8):(b.map bC).all flatP=true:=List.all_eq_true.2 fun x hx=>by
 obtain ⟨b,_,rfl⟩:=List.mem_map.1 hx
 rfl
theorem clone140 (b:List UInt8) (hb:b.length≤140737488355328):Pure prog 131 [sl b] (ow b):=by
 intro H
 (refine fnS (imm:=imm131y) ttS_ok func131 ?_;(conv=>whnf))
 have happ:(0+b.length)*1≤140737488355328∧(b.map bC).length=b.length*1∧(b.map bC).all oneP=true:=⟨by omega,by simp,allOne b⟩
 refine ⟨fun h=>?_,fun h=>⟨?_,?_⟩⟩
 ·conv=>whnf
  refine ⟨happ,?_⟩
  conv=>whnf
  exact ⟨by rw [Nat.zero_add];rfl,rfl⟩
 ·conv=>whnf
  have e:b=[]:=List.length_eq_zero_iff.1 h
  subst e
  exact ⟨rfl,rfl⟩
 ·conv=>whnf
  refine ⟨happ,?_⟩
  conv=>whnf
  exact ⟨by rw [Nat.zero_add];rfl,rfl⟩
theorem c131o (b:List UInt8) (hb:b.length≤140737488355328) (h0:0<b.length) (H:PH) :
  CK prog 131 [sl b] H fun r H'=>∃cap k,r=.sref H.length 0 b.length cap∧b.length+k=cap∧H'=H++[⟨5,b.map bC++List.replicate k PV.undef,0⟩]:=by
 refine (CK.obj (n:=b.length) (cs:=b.map bC) (clone140 b hb H) h0 psize5 (allFlat b)).mono fun r H' hh=>?_
 obtain ⟨cap,k,h1,h2,h3,h4⟩:=hh
 rw [zqq] at h2
 exact ⟨cap,k,h3,by omega,h4⟩
def boxS (sid:Nat) (sp:List UInt8) (s o r:Int) (v:Nat):PObj:=⟨200,[.ptr (some (sid,0))]++sp.map bC++[.int .i64 s,.int .i64 o,.int .i64 r],v⟩
def tagV (sp:List UInt8) (u:Int) (ahead:List UInt8):List UInt8:=bigV (sipV sp (byteI u::ahead))
theorem bigV_len (n:Int):(bigV n).length=8:=rfl
theorem c141 (sid:Nat) (sp:List UInt8) (hsp:sp.length=16) (s o r:Int) (v:Nat) (u:Int) (ahead:List UInt8) (ha:ahead.length≤1000000) (bid:Nat) (H:PH) (hb:H[bid]? = some (boxS sid sp s o r v)) :
  CK prog 141 [.ptr (some (bid,0)),.int .i64 u,sl ahead] H fun x H'=>x=sl (tagV sp u ahead)∧H'=H:=by
 obtain ⟨k0,k1,k2,k3,k4,k5,k6,k7,k8,k9,ka,kb,kc,kd,ke,kf,rfl⟩:=len16 hsp
 (refine fnS (imm:=imm141) ttS_ok func141 ?_;(conv=>whnf))
 ((conv in (_[_]?)=>tactic=>exact hb);(conv=>whnf))
 have hfl:[[byteI u],ahead].flatten=byteI u::ahead:=by simp
 have hc:=c176 [k0,k1,k2,k3,k4,k5,k6,k7,k8,k9,ka,kb,kc,kd,ke,kf] (by simp) [[byteI u],ahead] (by simp) (by rw [hfl];simp;omega) (Reps.sl H [[byteI u],ahead])
 rw [hfl] at hc
 refine cA (args':=[.agg ([k0,k1,k2,k3,k4,k5,k6,k7,k8,k9,ka,kb,kc,kd,ke,kf].map bC),.slice 2 ([[byteI u],ahead].map sl) none]) ?_ (cO hc ?_)
 ·have:=byteC_I u
  show [PV.agg _,PV.slice 2 [.slice 1 [.int .u8 (IntKind.u8.wrap u)] none,sl ahead] none]=[PV.agg _,PV.slice 2 [.slice 1 [bC (byteI u)] none,sl ahead] none]
  rw [this]
  rfl
 rintro _ _ ⟨rfl,rfl⟩
 conv=>whnf
 refine cP (c159 _) ?_
 conv=>whnf
 exact ⟨rfl,rfl⟩
def xorL (p st:List UInt8):List UInt8:=List.zipWith (· ^^^ ·) p st
theorem xorL_len (p st:List UInt8) (h:st.length=p.length):(xorL p st).length=p.length:=by
 unfold xorL;rw [List.length_zipWith];omega
theorem xor8 (c d:UInt8):PV.int .u8 (ibits .xor .u8 (c.toNat:Int) (d.toNat:Int))=bC (c ^^^ d):=by
 show PV.int .u8 (IntKind.u8.wrap ((BitVec.ofInt 8 (c.toNat:Int) ^^^ BitVec.ofInt 8 (d.toNat:Int)).toNat:Int))=PV.int .u8 (((c ^^^ d).toNat:Nat):Int)
 have hb:∀{x:UInt8},BitVec.ofInt 8 (x.toNat:Int)=x.toBitVec:=fun {x}=>by
  apply BitVec.eq_of_toNat_eq
  rw [BitVec.toNat_ofInt]
  have:=x.toNat_lt
  show _=x.toNat
  omega
 rw [hb,hb]
 have:((c.toBitVec ^^^ d.toBitVec).toNat)=(c ^^^ d).toNat:=rfl
 rw [this]
 congr 1
 have:=(c ^^^ d).toNat_lt
 show (((c ^^^ d).toNat:Nat):Int) % (2 ^ IntKind.u8.bits:Int)=_
 have e:(2 ^ IntKind.u8.bits:Int)=256:=by decide
 rw [e];omega
def curX (p st:List UInt8) (i:Nat):List UInt8:=(xorL p st).take i++p.drop i
theorem curX_len (p st:List UInt8) (i:Nat) (h:st.length=p.length) (hi:i≤p.length):(curX p st i).length=p.length:=by
 unfold curX
 rw [zqf,zqr,List.length_drop,xorL_len p st h];omega
theorem curX_get (p st:List UInt8) (i:Nat) (h:st.length=p.length) (hi:i<p.length):(curX p st i)[i]? = some p[i]:=by
 unfold curX
 rw [zqi (by rw [zqr,xorL_len p st h];omega),zqr,xorL_len p st h,zqt]
 have:i+(i - min i p.length)=i:=by omega
 rw [this];exact zqc hi
theorem curX_set (p st:List UInt8) (i:Nat) (h:st.length=p.length) (hi:i<p.length):(curX p st i).set i (p[i] ^^^ st[i])=curX p st (i+1):=by
 unfold curX
 have hx:i<(xorL p st).length:=by rw [xorL_len p st h];exact hi
 rw [List.set_append_right _ _ (by rw [zqr];omega),zqr,Nat.min_eq_left (by omega),Nat.sub_self,List.drop_eq_getElem_cons hi,List.set_cons_zero,List.take_succ_eq_append_getElem hx,List.append_assoc,List.singleton_append]
 congr 2
 have:∀(a b:List UInt8) (h:i<(List.zipWith (· ^^^ ·) a b).length) (ha:i<a.length) (hb:i<b.length),a[i] ^^^ b[i]=(List.zipWith (· ^^^ ·) a b)[i]:=fun a b h ha hb=>by simp
 exact this p st hx hi (by omega)
def mixN (nn u:Int):Int:=IntKind.u64.wrap (ishl .u64 nn 8+IntKind.u64.wrap u)
structure MixS where
 i:Nat
theorem c142x (OkS:PObj→Prop) (so:PObj) (sid:Nat) (nn u:Int) (p st:List UInt8) (hl:st.length=p.length) (hp:0<p.length) (hp2:p.length≤1000000)
  (hst:∀H:PH,H[sid]? = some so→CK prog 177 [.ptr (some (sid,0)),.int .u64 (mixN nn u),.int .i64 p.length] H fun r H'=>r=sl st∧∃o',OkS o'∧H'=H.set sid o')
  (sp:List UInt8) (hsp:sp.length=16) (s o r:Int) (v:Nat) (bid:Nat) (H:PH) (hb:H[bid]? = some (boxS sid sp s o r v)) (hs:H[sid]? = some so) :
  CK prog 142 [.ptr (some (bid,0)),.int .i64 u,.int .u64 nn,sl p] H fun x H'=>∃cap k o' vv,x=.sref H.length 0 p.length cap∧p.length+k=cap∧OkS o'∧H'=H.set sid o'++[⟨5,(xorL p st).map bC++List.replicate k PV.undef,vv⟩]:=by
 obtain ⟨k0,k1,k2,k3,k4,k5,k6,k7,k8,k9,ka,kb,kc,kd,ke,kf,rfl⟩:=len16 hsp
 have hsl:sid<H.length:=(zq1.1 hs).1
 (refine fnS (imm:=imm142) ttS_ok func142 ?_;(conv=>whnf))
 refine cO (c131o p (by omega) hp H) ?_
 rintro _ _ ⟨cap,k,rfl,hk,rfl⟩
 conv=>whnf
 have hb':(H++[(⟨5,p.map bC++List.replicate k PV.undef,0⟩:PObj)])[bid]? = some (boxS sid [k0,k1,k2,k3,k4,k5,k6,k7,k8,k9,ka,kb,kc,kd,ke,kf] s o r v):=by
  rw [zq2 (zq1.1 hb).1];exact hb
 ((conv in (_[_]?)=>tactic=>exact hb');(conv=>whnf))
 refine ⟨by decide,?_⟩
 conv=>whnf
 refine cO (Q:=fun r H'=>r=sl st∧∃o',OkS o'∧H'=H.set sid o'++[⟨5,(curX p st 0).map bC++List.replicate k PV.undef,0⟩]) ((hst (H++[_]) (by rw [zq2 hsl];exact hs)).mono fun r H' hh=>?_) ?_
 ·obtain ⟨h1,o',h2,h3⟩:=hh
  exact ⟨h1,o',h2,by rw [h3,List.set_append_left _ _ hsl];rfl⟩
 rintro _ _ ⟨rfl,o',ho',rfl⟩
 conv=>whnf
 have hKl:(H.set sid o').length=H.length:=List.length_set
 generalize hK:H.set sid o'=K at hKl
 refine lO MixS (fun x=>[(9,.sref H.length 0 p.length cap),(25,sl st),(26,.int .i64 st.length),(27,.int .i64 x.i)]) (fun x=>K++[⟨5,(curX p st x.i).map bC++List.replicate k PV.undef,x.i⟩]) (fun x=>x.i≤p.length) (fun x=>p.length - x.i) ⟨⟨0⟩,Nat.zero_le _,⟨rfl,rfl,rfl,rfl,zqv⟩,rfl⟩ ?_
 rintro ⟨i⟩ hi
 replace hi:i≤p.length:=hi
 have gx:∀x:PObj,(K++[x])[H.length]? = some x:=fun x=>by rw [←hKl];exact gL K x
 conv=>whnf
 refine ⟨fun h=>?_,fun h=>?_⟩
 ·have h:(i:Int)<st.length:=h
  have hi':i<p.length:=by omega
  have his:i<st.length:=by omega
  have hcl:=curX_len p st i hl hi
  conv=>whnf
  refine ⟨⟨by omega,h⟩,[bC st[i]],at1' (k:=(i:Int).toNat*1) (by rw [Int.toNat_natCast,Nat.mul_one,List.getElem?_map,zqc his];rfl),?_⟩
  conv=>whnf
  refine ⟨⟨by omega,by show (i:Int)<(p.length:Int);omega⟩,?_⟩
  conv=>whnf
  ((conv in (_[_]?)=>tactic=>exact (gx _));(conv=>whnf))
  ((conv in (dropN _ _)=>tactic=>exact (dropN_app (curX p st i) (List.replicate k PV.undef) (curX_get p st i hl hi')));(conv=>whnf))
  refine ⟨⟨by omega,by show (i:Int)<(p.length:Int);omega⟩,?_⟩
  conv=>whnf
  ((conv in (_[_]?)=>tactic=>exact (gx _));(conv=>whnf))
  ((conv in (Nat.ble _ _)=>tactic=>exact (show Nat.ble (0+(i:Int).toNat*1+1) ((curX p st i).map bC++List.replicate k PV.undef).length=true by rw [Nat.ble_eq];simp [hcl];omega));(conv=>whnf))
  refine ⟨⟨i+1⟩,by show i+1≤p.length;omega,⟨rfl,rfl,rfl,?_,zqv⟩,?_,by show p.length - (i+1)<p.length - i;omega⟩
  ·show PV.int _ (IntKind.i64.wrap ((i:Int)+1))=PV.int _ _
   rw [w64 (by omega) (by omega)];simp
  ·show (K++[_]).set H.length ⟨5,setCells (0+(i:Int).toNat*1) [.int .u8 (ibits .xor .u8 (p[i].toNat:Int) (st[i].toNat:Int))] ((curX p st i).map bC++List.replicate k PV.undef),i+1⟩=K++[⟨5,(curX p st (i+1)).map bC++List.replicate k PV.undef,i+1⟩]
   rw [←hKl,sL,xor8]
   have e:0+(i:Int).toNat*1=i:=by omega
   rw [e,setCells_app _ _ _ _ (by omega),curX_set p st i hl hi']
 ·have h:¬(i:Int)<st.length:=h
  have e:curX p st i=xorL p st:=by
   unfold curX
   rw [List.take_of_length_le (by rw [xorL_len p st hl];omega),List.drop_eq_nil_of_le (by omega),List.append_nil]
  rw [e]
  conv=>whnf
  exact ⟨cap,k,o',i,rfl,hk,ho',by rw [hK]⟩
theorem get_end {K:PH} {n:Nat} (h:K.length=n) (x:PObj):(K++[x])[n]? = some x:=by subst h;exact gL K x
theorem kept_set {H:PH} {sid:Nat} {o':PObj} (hs:sid<H.length) (hf:∀c∈o'.cs,flatP c=true∨c∈H[sid].cs):Kept H (H.set sid o'):=⟨List.length_set,fun id o h=>by
 by_cases e:id=sid
 ·subst e
  rw [List.getElem?_set_self hs] at h
  cases h
  exact ⟨H[id],zqc hs,hf⟩
 ·rw [zqj (Ne.symm e)] at h
  exact ⟨o,h,fun c hc=>.inr hc⟩⟩
theorem c142 (OkS:PObj→Prop) (hOk:∀o',OkS o'→o'.cs.all flatP=true) (so:PObj) (sid:Nat) (nn u:Int) (p st:List UInt8) (hl:st.length=p.length) (hp2:p.length≤1000000)
  (hst:∀H:PH,H[sid]? = some so→CK prog 177 [.ptr (some (sid,0)),.int .u64 (mixN nn u),.int .i64 p.length] H fun r H'=>r=sl st∧∃o',OkS o'∧H'=H.set sid o')
  (sp:List UInt8) (hsp:sp.length=16) (s o r:Int) (v:Nat) (bid:Nat) (H:PH) (hb:H[bid]? = some (boxS sid sp s o r v)) (hs:H[sid]? = some so) :
  CK prog 142 [.ptr (some (bid,0)),.int .i64 u,.int .u64 nn,sl p] H fun x H'=>x=sl (xorL p st)∧∃o',OkS o'∧H'=H.set sid o':=by
 have hsl:sid<H.length:=(zq1.1 hs).1
 rcases Nat.eq_zero_or_pos p.length with hp | hp
 ·have hp':p=[]:=List.length_eq_zero_iff.1 hp
  have hst':st=[]:=List.length_eq_zero_iff.1 (by omega)
  subst hp' hst'
  obtain ⟨k0,k1,k2,k3,k4,k5,k6,k7,k8,k9,ka,kb,kc,kd,ke,kf,rfl⟩:=len16 hsp
  (refine fnS (imm:=imm142) ttS_ok func142 ?_;(conv=>whnf))
  refine cP (clone140 [] (by simp)) ?_
  conv=>whnf
  ((conv in (_[_]?)=>tactic=>exact hb);(conv=>whnf))
  refine ⟨by decide,?_⟩
  conv=>whnf
  refine cO (hst H hs) ?_
  rintro _ _ ⟨rfl,o',ho',rfl⟩
  conv=>whnf
  refine lO MixS (fun x=>[(9,ow []),(25,sl []),(26,.int .i64 0),(27,.int .i64 0)]) (fun x=>H.set sid o') (fun x=>True) (fun x=>0) ⟨⟨0⟩,trivial,⟨rfl,rfl,rfl,rfl,zqv⟩,rfl⟩ ?_
  rintro ⟨i⟩ _
  conv=>whnf
  refine ⟨fun h=>absurd h (by decide),fun _=>?_⟩
  conv=>whnf
  exact ⟨rfl,o',ho',rfl⟩
 ·have h:=c142x OkS so sid nn u p st hl hp hp2 hst sp hsp s o r v bid H hb hs
  refine (CK.own (nn:=p.length) (cs:=(xorL p st).map bC) (R:=fun H'=>∃o',OkS o'∧H'=H.set sid o') h psize5 (by decide) (by rw [zqq,xorL_len p st hl,Nat.mul_one]) (allFlat _) (fun x H' hh=>?_)).dem fun x H' hh=>?_
  ·obtain ⟨cap,k,o',vv,rfl,hk,ho',rfl⟩:=hh
   refine ⟨H.set sid o',_,H.length,cap,_,rfl,kept_set hsl fun c hc=>.inl (List.all_eq_true.1 (hOk o' ho') c hc),⟨o',ho',rfl⟩,rfl,zqn _,get_end List.length_set _,rfl,?_,?_⟩
   ·show ((xorL p st).map bC++List.replicate k PV.undef).length=_
    rw [zqf,zqq,List.length_replicate,xorL_len p st hl];omega
   ·show List.take _ ((xorL p st).map bC++List.replicate k PV.undef)=_
    rw [List.take_left]
  ·obtain ⟨rfl,hh⟩:=hh
   refine ⟨fun cs hx=>(by cases hx),?_,hh⟩
   unfold sl
   rw [xorL_len p st hl];rfl
theorem c177z (sid:Nat) (nn n:Int) (hn:n<1) (H:PH):CK prog 177 [.ptr (some (sid,0)),.int .u64 nn,.int .i64 n] H fun r H'=>r=sl []∧H'=H:=by
 refine CK.dem (Q:=fun r H'=>r=ow []∧H'=H) ?_ fun r H' hh=>⟨fun cs hx=>(by rw [hh.1] at hx;cases hx),(by rw [hh.1];rfl),hh.2⟩
 (refine fnS (imm:=imm177) ttS_ok func177 ?_;(conv=>whnf))
 refine ⟨fun _=>?_,fun h=>absurd hn h⟩
 conv=>whnf
 exact ⟨rfl,rfl⟩
def sealV (sp:List UInt8) (u nn:Int) (p st:List UInt8):List UInt8:=(bigV nn++xorL p st)++tagV sp u (bigV nn++xorL p st)
theorem ow_app (a b:List UInt8):PV.slice (a.length+b.length) (a.map bC++b.map bC) (some 5)=ow (a++b):=by
 unfold ow
 rw [zqf,List.map_append]
theorem c88z (u:Int) (hu:isUseB u=true) (b:List UInt8) (hb16:b.length<16∨800<b.length) (sid:Nat) (sp:List UInt8) (hsp:sp.length=16) (s o r:Int) (v bid:Nat) (H:PH) (hb:H[bid]? = some (boxS sid sp s o r v)) :
  CK prog 88 [.ptr (some (bid,0)),.int .i64 u,sl b] H fun x H'=>x=.tup [ow [],.int .i64 3]∧H'=H.set bid (boxS sid sp s o (IntKind.i64.wrap (r+1)) (v+1)):=by
 (refine fnS (imm:=imm88) ttS_ok func88 ?_;(conv=>whnf))
 have hb':(H.set bid (boxS sid sp s o (IntKind.i64.wrap (r+1)) (v+1)))[bid]? = some (boxS sid sp s o (IntKind.i64.wrap (r+1)) (v+1)):=gS hb
 have hc93:CK prog 71 [.ptr (some (bid,0+19)),.int .i64 1] H fun x H'=>H'=H.set bid (boxS sid sp s o (IntKind.i64.wrap (r+1)) (v+1)):=by
  obtain ⟨k0,k1,k2,k3,k4,k5,k6,k7,k8,k9,ka,kb,kc,kd,ke,kf,rfl⟩:=len16 hsp
  exact (c71 (off:=19) (n:=r) 1 hb rfl).mono fun x H' hh=>hh.2
 refine cP (c138 u) ?_
 rw [hu]
 conv=>whnf
 refine ⟨fun h=>?_,fun h=>?_⟩
 ·conv=>whnf
  have h:(16:Int)≤b.length:=h
  refine ⟨fun h2=>?_,fun h2=>?_⟩
  ·have h2:(b.length:Int)≤800:=h2
   omega
  ·conv=>whnf
   refine cO hc93 ?_
   rintro x _ rfl
   conv=>whnf
   exact ⟨rfl,rfl⟩
 ·conv=>whnf
  refine cO hc93 ?_
  rintro x _ rfl
  conv=>whnf
  exact ⟨rfl,rfl⟩
set_option maxHeartbeats 2000000
def ttO:TT:=[(1,⟨.fn,1,8,[.nilF]⟩),(3,⟨.int .i64,1,8,[.int .i64 0]⟩),(4,⟨.bool,1,1,[.bool false]⟩),(5,⟨.int .u8,1,1,[.int .u8 0]⟩),(21,⟨.int .i32,1,4,[.int .i32 0]⟩),(25,⟨.slice 5,1,24,[.slice 0 [] (some 5)]⟩),(197,⟨.ptr,1,8,[.ptr none]⟩),(179,⟨.arr 16 5,16,16,List.replicate 16 (.int .u8 0)⟩),(134,⟨.int .u64,1,8,[.int .u64 0]⟩),(145,⟨.int .u64,1,8,[.int .u64 0]⟩),(184,⟨.int .u32,1,4,[.int .u32 0]⟩),(185,⟨.arr 27 184,27,108,List.replicate 27 (.int .u32 0)⟩),(235,⟨.strB [(102,0),(184,0)],1,4,[.int .u32 0]⟩),(237,⟨.strct [(21,0),(184,1)],2,8,[.int .i32 0,.int .u32 0]⟩),(239,⟨.strB [(233,0),(237,0)],2,8,[.int .i32 0,.int .u32 0]⟩),(241,⟨.strB [(233,0),(235,0),(239,1)],3,12,[.int .u32 0,.int .i32 0,.int .u32 0]⟩),(243,⟨.strct [(179,0),(241,16),(185,19),(235,46)],47,140,List.replicate 16 (.int .u8 0)++[.int .u32 0,.int .i32 0]++List.replicate 29 (.int .u32 0)⟩),(230,⟨.slice 184,1,24,[.slice 0 [] (some 184)]⟩),(229,⟨.arr 4 184,4,16,[.int .u32 0,.int .u32 0,.int .u32 0,.int .u32 0]⟩),(295,⟨.ptr,1,8,[.ptr none]⟩),(299,⟨.ptr,1,8,[.ptr none]⟩)]
theorem ttO_ok:ttOk prog ttO=true:=by kernel_rfl
def imm218:List Nat:=[]
def imm226:List Nat:=[]
def imm228:List Nat:=[]
def imm217:List Nat:=[]
def imm210:List Nat:=[]
def imm198:List Nat:=[]
def imm211:List Nat:=[]
def imm237:List Nat:=[]
def rot32S (k:Int):Int:=ibits .and .u64 (IntKind.u64.wrap k) 31
def rot32 (x k:Int):Int:=ibits .or .u32 (ishl .u32 x (rot32S k)) (ishr .u32 x (IntKind.u64.wrap (32 - rot32S k)))
def add32 (x y:Int):Int:=IntKind.u32.wrap (x+y)
def xor32 (x y:Int):Int:=ibits .xor .u32 x y
theorem c211 (x k:Int):Pure prog 211 [.int .u32 x,.int .i64 k] (.int .u32 (rot32 x k)):=by
 intro H
 (refine fnS (imm:=imm211) ttO_ok func211 ?_;(conv=>whnf))
 refine ⟨u64_nonneg _,?_⟩
 conv=>whnf
 refine ⟨u64_nonneg _,?_⟩
 conv=>whnf
 exact ⟨rfl,rfl⟩
def S4.O4 (s:S4) (v:Nat):PObj:=⟨229,[.int .u32 s.a,.int .u32 s.b,.int .u32 s.c,.int .u32 s.d],v⟩
def orB (x:Int) (c:UInt8) (s:Int):Int:=ibits .or .u32 x (ishl .u32 (IntKind.u32.wrap (c.toNat:Int)) s)
def wN (k:List UInt8):Nat→S4
 | 0=>⟨0,0,0,0⟩
 | i+1=>match i / 4 with
  | 0=>{ wN k i with a:=orB (wN k i).a (k.getD i 0) (8*((i % 4:Nat):Int)) }
  | 1=>{ wN k i with b:=orB (wN k i).b (k.getD i 0) (8*((i % 4:Nat):Int)) }
  | 2=>{ wN k i with c:=orB (wN k i).c (k.getD i 0) (8*((i % 4:Nat):Int)) }
  | _=>{ wN k i with d:=orB (wN k i).d (k.getD i 0) (8*((i % 4:Nat):Int)) }
def spN (k:List UInt8):Nat→S4
 | 0=>wN k 16
 | i+1=>⟨xor32 (rot32 (spN k i).a 3) (xor32 (add32 (spN k i).a (rot32 (spN k i).b (-8))) (IntKind.u32.wrap (i:Int))),(spN k i).c,(spN k i).d,xor32 (add32 (spN k i).a (rot32 (spN k i).b (-8))) (IntKind.u32.wrap (i:Int))⟩
def u32C (x:Int):PV:=.int .u32 x
def keyO (k:List UInt8) (d m s:Int) (l:List Int) (md:Int) (v:Nat):PObj:=⟨243,(k.map bC++[.int .u32 d,.int .i32 m,.int .u32 s])++l.map u32C++[.int .u32 md],v⟩
theorem setCells_mid (p q:List PV) (l:List Int) (i n:Nat) (x:Int) (hi:i<l.length) (e:n=p.length+i):setCells n [u32C x] (p++l.map u32C++q)=p++(l.set i x).map u32C++q:=by
 subst e
 rw [setCells_eq _ _ _ (by simp;omega)]
 have h1:(p++l.map u32C++q).take (p.length+i)=p++(l.take i).map u32C:=by
  rw [List.append_assoc,List.take_length_add_append,List.take_append_of_le_length (by rw [zqq];omega),List.map_take]
 have h2:(p++l.map u32C++q).drop (p.length+i+[u32C x].length)=(l.drop (i+1)).map u32C++q:=by
  rw [List.append_assoc,Nat.add_assoc,List.drop_length_add_append,List.drop_append_of_le_length (by rw [zqq];simp;omega),List.map_drop];rfl
 rw [h1,h2,List.set_eq_take_append_cons_drop,zqp hi,List.map_append,List.map_cons]
 simp
def D218_4:Draw:={ imp:=[12],win:=[] }
theorem S4.look4 (s:S4) (v:Nat) (H:PH):(H++[s.O4 v])[H.length]? = some ⟨229,[.int .u32 s.a,.int .u32 s.b,.int .u32 s.c,.int .u32 s.d],v⟩:=gL H _
structure MkS where
 i:Nat
 kv:Nat
 lid:Nat
 off:Nat
 cap:Nat
 ob:PObj
 K:PH
def spL (k:List UInt8) (l:List Int) (i:Nat):List Int:=(List.range i).map (fun j=>(spN k j).a)++l.drop i
theorem spL_len (k:List UInt8) (l:List Int) (i:Nat) (hl:l.length=27) (hi:i≤27):(spL k l i).length=27:=by
 unfold spL
 rw [zqf,zqq,List.length_range,List.length_drop];omega
theorem spL_set (k:List UInt8) (l:List Int) (i:Nat) (hl:l.length=27) (hi:i<27):(spL k l i).set i (spN k i).a=spL k l (i+1):=by
 unfold spL
 rw [List.set_append_right _ _ (by simp),zqq,List.length_range,Nat.sub_self,List.drop_eq_getElem_cons (by omega),List.set_cons_zero,List.range_succ,List.map_append,List.append_assoc]
 rfl
structure MkOk (k:List UInt8) (d m s md:Int) (l:List Int) (kid:Nat) (H:PH) (x:MkS):Prop where
 i:x.i≤27
 key:x.K[kid]? = some (keyO k d m s (spL k l x.i) md x.kv)
 ne:x.lid≠kid
 new:H.length≤x.lid
 lst:x.K[x.lid]? = some x.ob
 three:(x.ob.cs.drop x.off).take 3=[u32C (spN k x.i).b,u32C (spN k x.i).c,u32C (spN k x.i).d]
 room:x.off+x.cap≤x.ob.cs.length
 cap:3≤x.cap
 len:H.length≤x.K.length
 fr:∀j,j<H.length→j≠kid→x.K[j]? = H[j]?
def spW (k:List UInt8):List Int:=(List.range 27).map fun j=>(spN k j).a
theorem setCells_len (k:Nat) (xs cs:List PV) (h:k+xs.length≤cs.length):(setCells k xs cs).length=cs.length:=by
 rw [setCells_eq _ _ _ h]
 simp only [zqf,zqr,List.length_drop];omega
theorem slide (cs:List PV) (off:Nat) (b c d:PV) (r:List PV) (h:cs.drop off=b::c::d::r) (hr:off+4≤cs.length) (n:PV):((setCells (off+1+2) [n] cs).drop (off+1)).take 3=[c,d,n]:=by
 have hcs:cs=cs.take off++b::c::d::r:=by rw [←h,List.take_append_drop]
 have hp:(cs.take off).length=off:=by rw [zqr];omega
 generalize cs.take off=p at hcs hp
 subst hcs
 subst hp
 match r,hr with
 | [],hr=>simp at hr
 | e::r',_ =>
  rw [setCells_eq _ _ _ (by simp;omega)]
  have h1:(p++b::c::d::e::r').take (p.length+1+2)=p++[b,c,d]:=by
   rw [Nat.add_assoc,List.take_length_add_append];rfl
  rw [h1,List.append_assoc,List.append_assoc,List.drop_length_add_append]
  rfl
theorem c236 {H:PH} {id off:Nat} {o:PObj} {n:Int} (m:Int) (ho:H[id]? = some o) (hc:o.cs[off]? = some (.int .u32 n)) :
  CK prog 236 [.ptr (some (id,off)),.int .u32 m] H fun r H'=>r=.tup []∧H'=H.set id ⟨o.T,setCells off [.int .u32 m] o.cs,o.ver+1⟩ :=
 callOk_store func236 (by kernel_rfl) (by kernel_rfl) (by kernel_rfl) .u32 (by kernel_rfl) m ho hc
theorem c237:Pure prog 237 [.bool true] (.int .u32 1):=by
 intro H
 (refine fnS (imm:=imm237) ttO_ok func237 ?_;(conv=>whnf))
 exact ⟨rfl,rfl⟩
def D228:Draw:={ imp:=[5],win:=[] }
theorem c228 {H:PH} {id off:Nat} {o:PObj} {n:Int} (ho:H[id]? = some o) (hc:o.cs[off]? = some (.int .u32 n)) :
  CK prog 228 [.ptr (some (id,off)),.bool true] H fun r H'=>r=.tup []∧H'=H.set id ⟨o.T,setCells off [.int .u32 1] o.cs,o.ver+1⟩:=by
 (refine fnS (imm:=imm228) ttO_ok func228 ?_;(conv=>whnf))
 refine dO2 D228 [H,H.set id ⟨o.T,setCells off [.int .u32 1] o.cs,o.ver+1⟩] (by kernel_rfl) rfl trivial ?_
 conv=>whnf
 iterate 4 (refine dS ?_;(conv=>whnf))
 refine ⟨_,cP c237 ⟨rfl,rfl,zqv⟩,?_⟩
 conv=>whnf
 refine ⟨_,cO (c236 1 ho hc) (by rintro _ _ ⟨rfl,rfl⟩;exact ⟨rfl,rfl,zqv⟩),?_⟩
 conv=>whnf
 exact ⟨rfl,rfl⟩
theorem c218x (k:List UInt8) (hk:k.length=16) (d m s md:Int) (l:List Int) (hl:l.length=27) (v kid:Nat) (H:PH) (hid:H[kid]? = some (keyO k d m s l md v)) :
  CK prog 218 [.ptr (some (kid,0))] H fun r H'=>r=.tup []∧∃(K:PH) (kv:Nat),K[kid]? = some (keyO k d m s (spW k) md kv)∧H.length≤K.length∧(∀j,j<H.length→j≠kid→K[j]? = H[j]?)∧H'=K.set kid (keyO k d m s (spW k) 1 (kv+1)):=by
 obtain ⟨k0,k1,k2,k3,k4,k5,k6,k7,k8,k9,ka,kb,kc,kd,ke,kf,rfl⟩:=len16 hk
 have hlt:kid<H.length:=(zq1.1 hid).1
 (refine fnS (imm:=imm218) ttO_ok func218 ?_;(conv=>whnf))
 have hid1:(H++[(⟨229,[.int .u32 0,.int .u32 0,.int .u32 0,.int .u32 0],0⟩:PObj)])[kid]? = some (keyO [k0,k1,k2,k3,k4,k5,k6,k7,k8,k9,ka,kb,kc,kd,ke,kf] d m s l md v):=by rw [zq2 hlt];exact hid
 ((conv in (_[_]?)=>tactic=>exact hid1);(conv=>whnf))
 obtain ⟨kk,hkk⟩:∃kk:List UInt8,kk=[k0,k1,k2,k3,k4,k5,k6,k7,k8,k9,ka,kb,kc,kd,ke,kf]:=⟨_,rfl⟩
 refine lO Nat (fun x=>[(0,.ptr (some (kid,0))),(2,.ptr (some (H.length,0))),(12,.agg ([k0,k1,k2,k3,k4,k5,k6,k7,k8,k9,ka,kb,kc,kd,ke,kf].map bC)),(13,.int .i64 x)]) (fun x=>H++[(wN kk x).O4 x]) (fun x=>x≤16) (fun x=>16 - x) ⟨0,Nat.zero_le _,⟨rfl,rfl,rfl,rfl,zqv⟩,rfl⟩ ?_
 intro i hi
 match i,hi with
 | 0,_ =>
  conv=>whnf
  refine ⟨fun _=>?_,fun h=>absurd (show ((0:Nat):Int)<16 by decide) h⟩
  conv=>whnf
  refine ⟨⟨by decide,by decide⟩,?_⟩
  conv=>whnf
  generalize hz:wN kk 0=z
  refine dO2 D218_4 [H++[z.O4 0],H++[S4.O4 { z with a:=orB z.a k0 0 } 1]] (by kernel_rfl) rfl trivial ?_
  conv=>whnf
  (refine dS ?_;(conv=>whnf))
  iterate 2 (refine dZ ?_;(conv=>whnf))
  apply exA
  ·conv=>whnf
   ((conv in (_[_]?)=>tactic=>exact (z.look4 0 H));(conv=>whnf))
   exact ⟨rfl,rfl,zqv⟩
  conv=>whnf
  iterate 3 (refine dS ?_;(conv=>whnf))
  (refine dZ ?_;(conv=>whnf))
  (refine dS ?_;(conv=>whnf))
  (refine dZ ?_;(conv=>whnf))
  (refine dS ?_;(conv=>whnf))
  (refine dZ ?_;(conv=>whnf))
  apply exA
  ·conv=>whnf
   ((conv in (_[_]?)=>tactic=>exact (z.look4 0 H));(conv=>whnf))
   exact ⟨rfl,sL H _ _,zqv⟩
  conv=>whnf
  refine ⟨1,by decide,⟨rfl,rfl,rfl,rfl,zqv⟩,?_,by decide⟩
  subst hz hkk
  rfl
 | 1,_ =>
  conv=>whnf
  refine ⟨fun _=>?_,fun h=>absurd (show ((1:Nat):Int)<16 by decide) h⟩
  conv=>whnf
  refine ⟨⟨by decide,by decide⟩,?_⟩
  conv=>whnf
  generalize hz:wN kk 1=z
  refine dO2 D218_4 [H++[z.O4 1],H++[S4.O4 { z with a:=orB z.a k1 8 } 2]] (by kernel_rfl) rfl trivial ?_
  conv=>whnf
  (refine dS ?_;(conv=>whnf))
  iterate 2 (refine dZ ?_;(conv=>whnf))
  apply exA
  ·conv=>whnf
   ((conv in (_[_]?)=>tactic=>exact (z.look4 1 H));(conv=>whnf))
   exact ⟨rfl,rfl,zqv⟩
  conv=>whnf
  iterate 3 (refine dS ?_;(conv=>whnf))
  (refine dZ ?_;(conv=>whnf))
  (refine dS ?_;(conv=>whnf))
  (refine dZ ?_;(conv=>whnf))
  (refine dS ?_;(conv=>whnf))
  (refine dZ ?_;(conv=>whnf))
  apply exA
  ·conv=>whnf
   ((conv in (_[_]?)=>tactic=>exact (z.look4 1 H));(conv=>whnf))
   exact ⟨rfl,sL H _ _,zqv⟩
  conv=>whnf
  refine ⟨2,by decide,⟨rfl,rfl,rfl,rfl,zqv⟩,?_,by decide⟩
  subst hz hkk
  rfl
 | 2,_ =>
  conv=>whnf
  refine ⟨fun _=>?_,fun h=>absurd (show ((2:Nat):Int)<16 by decide) h⟩
  conv=>whnf
  refine ⟨⟨by decide,by decide⟩,?_⟩
  conv=>whnf
  generalize hz:wN kk 2=z
  refine dO2 D218_4 [H++[z.O4 2],H++[S4.O4 { z with a:=orB z.a k2 16 } 3]] (by kernel_rfl) rfl trivial ?_
  conv=>whnf
  (refine dS ?_;(conv=>whnf))
  iterate 2 (refine dZ ?_;(conv=>whnf))
  apply exA
  ·conv=>whnf
   ((conv in (_[_]?)=>tactic=>exact (z.look4 2 H));(conv=>whnf))
   exact ⟨rfl,rfl,zqv⟩
  conv=>whnf
  iterate 3 (refine dS ?_;(conv=>whnf))
  (refine dZ ?_;(conv=>whnf))
  (refine dS ?_;(conv=>whnf))
  (refine dZ ?_;(conv=>whnf))
  (refine dS ?_;(conv=>whnf))
  (refine dZ ?_;(conv=>whnf))
  apply exA
  ·conv=>whnf
   ((conv in (_[_]?)=>tactic=>exact (z.look4 2 H));(conv=>whnf))
   exact ⟨rfl,sL H _ _,zqv⟩
  conv=>whnf
  refine ⟨3,by decide,⟨rfl,rfl,rfl,rfl,zqv⟩,?_,by decide⟩
  subst hz hkk
  rfl
 | 3,_ =>
  conv=>whnf
  refine ⟨fun _=>?_,fun h=>absurd (show ((3:Nat):Int)<16 by decide) h⟩
  conv=>whnf
  refine ⟨⟨by decide,by decide⟩,?_⟩
  conv=>whnf
  generalize hz:wN kk 3=z
  refine dO2 D218_4 [H++[z.O4 3],H++[S4.O4 { z with a:=orB z.a k3 24 } 4]] (by kernel_rfl) rfl trivial ?_
  conv=>whnf
  (refine dS ?_;(conv=>whnf))
  iterate 2 (refine dZ ?_;(conv=>whnf))
  apply exA
  ·conv=>whnf
   ((conv in (_[_]?)=>tactic=>exact (z.look4 3 H));(conv=>whnf))
   exact ⟨rfl,rfl,zqv⟩
  conv=>whnf
  iterate 3 (refine dS ?_;(conv=>whnf))
  (refine dZ ?_;(conv=>whnf))
  (refine dS ?_;(conv=>whnf))
  (refine dZ ?_;(conv=>whnf))
  (refine dS ?_;(conv=>whnf))
  (refine dZ ?_;(conv=>whnf))
  apply exA
  ·conv=>whnf
   ((conv in (_[_]?)=>tactic=>exact (z.look4 3 H));(conv=>whnf))
   exact ⟨rfl,sL H _ _,zqv⟩
  conv=>whnf
  refine ⟨4,by decide,⟨rfl,rfl,rfl,rfl,zqv⟩,?_,by decide⟩
  subst hz hkk
  rfl
 | 4,_ =>
  conv=>whnf
  refine ⟨fun _=>?_,fun h=>absurd (show ((4:Nat):Int)<16 by decide) h⟩
  conv=>whnf
  refine ⟨⟨by decide,by decide⟩,?_⟩
  conv=>whnf
  generalize hz:wN kk 4=z
  refine dO2 D218_4 [H++[z.O4 4],H++[S4.O4 { z with b:=orB z.b k4 0 } 5]] (by kernel_rfl) rfl trivial ?_
  conv=>whnf
  (refine dS ?_;(conv=>whnf))
  iterate 2 (refine dZ ?_;(conv=>whnf))
  apply exA
  ·conv=>whnf
   ((conv in (_[_]?)=>tactic=>exact (z.look4 4 H));(conv=>whnf))
   exact ⟨rfl,rfl,zqv⟩
  conv=>whnf
  iterate 3 (refine dS ?_;(conv=>whnf))
  (refine dZ ?_;(conv=>whnf))
  (refine dS ?_;(conv=>whnf))
  (refine dZ ?_;(conv=>whnf))
  (refine dS ?_;(conv=>whnf))
  (refine dZ ?_;(conv=>whnf))
  apply exA
  ·conv=>whnf
   ((conv in (_[_]?)=>tactic=>exact (z.look4 4 H));(conv=>whnf))
   exact ⟨rfl,sL H _ _,zqv⟩
  conv=>whnf
  refine ⟨5,by decide,⟨rfl,rfl,rfl,rfl,zqv⟩,?_,by decide⟩
  subst hz hkk
  rfl
 | 5,_ =>
  conv=>whnf
  refine ⟨fun _=>?_,fun h=>absurd (show ((5:Nat):Int)<16 by decide) h⟩
  conv=>whnf
  refine ⟨⟨by decide,by decide⟩,?_⟩
  conv=>whnf
  generalize hz:wN kk 5=z
  refine dO2 D218_4 [H++[z.O4 5],H++[S4.O4 { z with b:=orB z.b k5 8 } 6]] (by kernel_rfl) rfl trivial ?_
  conv=>whnf
  (refine dS ?_;(conv=>whnf))
  iterate 2 (refine dZ ?_;(conv=>whnf))
  apply exA
  ·conv=>whnf
   ((conv in (_[_]?)=>tactic=>exact (z.look4 5 H));(conv=>whnf))
   exact ⟨rfl,rfl,zqv⟩
  conv=>whnf
  iterate 3 (refine dS ?_;(conv=>whnf))
  (refine dZ ?_;(conv=>whnf))
  (refine dS ?_;(conv=>whnf))
  (refine dZ ?_;(conv=>whnf))
  (refine dS ?_;(conv=>whnf))
  (refine dZ ?_;(conv=>whnf))
  apply exA
  ·conv=>whnf
   ((conv in (_[_]?)=>tactic=>exact (z.look4 5 H));(conv=>whnf))
   exact ⟨rfl,sL H _ _,zqv⟩
  conv=>whnf
  refine ⟨6,by decide,⟨rfl,rfl,rfl,rfl,zqv⟩,?_,by decide⟩
  subst hz hkk
  rfl
 | 6,_ =>
  conv=>whnf
  refine ⟨fun _=>?_,fun h=>absurd (show ((6:Nat):Int)<16 by decide) h⟩
  conv=>whnf
  refine ⟨⟨by decide,by decide⟩,?_⟩
  conv=>whnf
  generalize hz:wN kk 6=z
  refine dO2 D218_4 [H++[z.O4 6],H++[S4.O4 { z with b:=orB z.b k6 16 } 7]] (by kernel_rfl) rfl trivial ?_
  conv=>whnf
  (refine dS ?_;(conv=>whnf))
  iterate 2 (refine dZ ?_;(conv=>whnf))
  apply exA
  ·conv=>whnf
   ((conv in (_[_]?)=>tactic=>exact (z.look4 6 H));(conv=>whnf))
   exact ⟨rfl,rfl,zqv⟩
  conv=>whnf
  iterate 3 (refine dS ?_;(conv=>whnf))
  (refine dZ ?_;(conv=>whnf))
  (refine dS ?_;(conv=>whnf))
  (refine dZ ?_;(conv=>whnf))
  (refine dS ?_;(conv=>whnf))
  (refine dZ ?_;(conv=>whnf))
  apply exA
  ·conv=>whnf
   ((conv in (_[_]?)=>tactic=>exact (z.look4 6 H));(conv=>whnf))
   exact ⟨rfl,sL H _ _,zqv⟩
  conv=>whnf
  refine ⟨7,by decide,⟨rfl,rfl,rfl,rfl,zqv⟩,?_,by decide⟩
  subst hz hkk
  rfl
 | 7,_ =>
  conv=>whnf
  refine ⟨fun _=>?_,fun h=>absurd (show ((7:Nat):Int)<16 by decide) h⟩
  conv=>whnf
  refine ⟨⟨by decide,by decide⟩,?_⟩
  conv=>whnf
  generalize hz:wN kk 7=z
  refine dO2 D218_4 [H++[z.O4 7],H++[S4.O4 { z with b:=orB z.b k7 24 } 8]] (by kernel_rfl) rfl trivial ?_
  conv=>whnf
  (refine dS ?_;(conv=>whnf))
  iterate 2 (refine dZ ?_;(conv=>whnf))
  apply exA
  ·conv=>whnf
   ((conv in (_[_]?)=>tactic=>exact (z.look4 7 H));(conv=>whnf))
   exact ⟨rfl,rfl,zqv⟩
  conv=>whnf
  iterate 3 (refine dS ?_;(conv=>whnf))
  (refine dZ ?_;(conv=>whnf))
  (refine dS ?_;(conv=>whnf))
  (refine dZ ?_;(conv=>whnf))
  (refine dS ?_;(conv=>whnf))
  (refine dZ ?_;(conv=>whnf))
  apply exA
  ·conv=>whnf
   ((conv in (_[_]?)=>tactic=>exact (z.look4 7 H));(conv=>whnf))
   exact ⟨rfl,sL H _ _,zqv⟩
  conv=>whnf
  refine ⟨8,by decide,⟨rfl,rfl,rfl,rfl,zqv⟩,?_,by decide⟩
  subst hz hkk
  rfl
 | 8,_ =>
  conv=>whnf
  refine ⟨fun _=>?_,fun h=>absurd (show ((8:Nat):Int)<16 by decide) h⟩
  conv=>whnf
  refine ⟨⟨by decide,by decide⟩,?_⟩
  conv=>whnf
  generalize hz:wN kk 8=z
  refine dO2 D218_4 [H++[z.O4 8],H++[S4.O4 { z with c:=orB z.c k8 0 } 9]] (by kernel_rfl) rfl trivial ?_
  conv=>whnf
  (refine dS ?_;(conv=>whnf))
  iterate 2 (refine dZ ?_;(conv=>whnf))
  apply exA
  ·conv=>whnf
   ((conv in (_[_]?)=>tactic=>exact (z.look4 8 H));(conv=>whnf))
   exact ⟨rfl,rfl,zqv⟩
  conv=>whnf
  iterate 3 (refine dS ?_;(conv=>whnf))
  (refine dZ ?_;(conv=>whnf))
  (refine dS ?_;(conv=>whnf))
  (refine dZ ?_;(conv=>whnf))
  (refine dS ?_;(conv=>whnf))
  (refine dZ ?_;(conv=>whnf))
  apply exA
  ·conv=>whnf
   ((conv in (_[_]?)=>tactic=>exact (z.look4 8 H));(conv=>whnf))
   exact ⟨rfl,sL H _ _,zqv⟩
  conv=>whnf
  refine ⟨9,by decide,⟨rfl,rfl,rfl,rfl,zqv⟩,?_,by decide⟩
  subst hz hkk
  rfl
 | 9,_ =>
  conv=>whnf
  refine ⟨fun _=>?_,fun h=>absurd (show ((9:Nat):Int)<16 by decide) h⟩
  conv=>whnf
  refine ⟨⟨by decide,by decide⟩,?_⟩
  conv=>whnf
  generalize hz:wN kk 9=z
  refine dO2 D218_4 [H++[z.O4 9],H++[S4.O4 { z with c:=orB z.c k9 8 } 10]] (by kernel_rfl) rfl trivial ?_
  conv=>whnf
  (refine dS ?_;(conv=>whnf))
  iterate 2 (refine dZ ?_;(conv=>whnf))
  apply exA
  ·conv=>whnf
   ((conv in (_[_]?)=>tactic=>exact (z.look4 9 H));(conv=>whnf))
   exact ⟨rfl,rfl,zqv⟩
  conv=>whnf
  iterate 3 (refine dS ?_;(conv=>whnf))
  (refine dZ ?_;(conv=>whnf))
  (refine dS ?_;(conv=>whnf))
  (refine dZ ?_;(conv=>whnf))
  (refine dS ?_;(conv=>whnf))
  (refine dZ ?_;(conv=>whnf))
  apply exA
  ·conv=>whnf
   ((conv in (_[_]?)=>tactic=>exact (z.look4 9 H));(conv=>whnf))
   exact ⟨rfl,sL H _ _,zqv⟩
  conv=>whnf
  refine ⟨10,by decide,⟨rfl,rfl,rfl,rfl,zqv⟩,?_,by decide⟩
  subst hz hkk
  rfl
 | 10,_ =>
  conv=>whnf
  refine ⟨fun _=>?_,fun h=>absurd (show ((10:Nat):Int)<16 by decide) h⟩
  conv=>whnf
  refine ⟨⟨by decide,by decide⟩,?_⟩
  conv=>whnf
  generalize hz:wN kk 10=z
  refine dO2 D218_4 [H++[z.O4 10],H++[S4.O4 { z with c:=orB z.c ka 16 } 11]] (by kernel_rfl) rfl trivial ?_
  conv=>whnf
  (refine dS ?_;(conv=>whnf))
  iterate 2 (refine dZ ?_;(conv=>whnf))
  apply exA
  ·conv=>whnf
   ((conv in (_[_]?)=>tactic=>exact (z.look4 10 H));(conv=>whnf))
   exact ⟨rfl,rfl,zqv⟩
  conv=>whnf
  iterate 3 (refine dS ?_;(conv=>whnf))
  (refine dZ ?_;(conv=>whnf))
  (refine dS ?_;(conv=>whnf))
  (refine dZ ?_;(conv=>whnf))
  (refine dS ?_;(conv=>whnf))
  (refine dZ ?_;(conv=>whnf))
  apply exA
  ·conv=>whnf
   ((conv in (_[_]?)=>tactic=>exact (z.look4 10 H));(conv=>whnf))
   exact ⟨rfl,sL H _ _,zqv⟩
  conv=>whnf
  refine ⟨11,by decide,⟨rfl,rfl,rfl,rfl,zqv⟩,?_,by decide⟩
  subst hz hkk
  rfl
 | 11,_ =>
  conv=>whnf
  refine ⟨fun _=>?_,fun h=>absurd (show ((11:Nat):Int)<16 by decide) h⟩
  conv=>whnf
  refine ⟨⟨by decide,by decide⟩,?_⟩
  conv=>whnf
  generalize hz:wN kk 11=z
  refine dO2 D218_4 [H++[z.O4 11],H++[S4.O4 { z with c:=orB z.c kb 24 } 12]] (by kernel_rfl) rfl trivial ?_
  conv=>whnf
  (refine dS ?_;(conv=>whnf))
  iterate 2 (refine dZ ?_;(conv=>whnf))
  apply exA
  ·conv=>whnf
   ((conv in (_[_]?)=>tactic=>exact (z.look4 11 H));(conv=>whnf))
   exact ⟨rfl,rfl,zqv⟩
  conv=>whnf
  iterate 3 (refine dS ?_;(conv=>whnf))
  (refine dZ ?_;(conv=>whnf))
  (refine dS ?_;(conv=>whnf))
  (refine dZ ?_;(conv=>whnf))
  (refine dS ?_;(conv=>whnf))
  (refine dZ ?_;(conv=>whnf))
  apply exA
  ·conv=>whnf
   ((conv in (_[_]?)=>tactic=>exact (z.look4 11 H));(conv=>whnf))
   exact ⟨rfl,sL H _ _,zqv⟩
  conv=>whnf
  refine ⟨12,by decide,⟨rfl,rfl,rfl,rfl,zqv⟩,?_,by decide⟩
  subst hz hkk
  rfl
 | 12,_ =>
  conv=>whnf
  refine ⟨fun _=>?_,fun h=>absurd (show ((12:Nat):Int)<16 by decide) h⟩
  conv=>whnf
  refine ⟨⟨by decide,by decide⟩,?_⟩
  conv=>whnf
  generalize hz:wN kk 12=z
  refine dO2 D218_4 [H++[z.O4 12],H++[S4.O4 { z with d:=orB z.d kc 0 } 13]] (by kernel_rfl) rfl trivial ?_
  conv=>whnf
  (refine dS ?_;(conv=>whnf))
  iterate 2 (refine dZ ?_;(conv=>whnf))
  apply exA
  ·conv=>whnf
   ((conv in (_[_]?)=>tactic=>exact (z.look4 12 H));(conv=>whnf))
   exact ⟨rfl,rfl,zqv⟩
  conv=>whnf
  iterate 3 (refine dS ?_;(conv=>whnf))
  (refine dZ ?_;(conv=>whnf))
  (refine dS ?_;(conv=>whnf))
  (refine dZ ?_;(conv=>whnf))
  (refine dS ?_;(conv=>whnf))
  (refine dZ ?_;(conv=>whnf))
  apply exA
  ·conv=>whnf
   ((conv in (_[_]?)=>tactic=>exact (z.look4 12 H));(conv=>whnf))
   exact ⟨rfl,sL H _ _,zqv⟩
  conv=>whnf
  refine ⟨13,by decide,⟨rfl,rfl,rfl,rfl,zqv⟩,?_,by decide⟩
  subst hz hkk
  rfl
 | 13,_ =>
  conv=>whnf
  refine ⟨fun _=>?_,fun h=>absurd (show ((13:Nat):Int)<16 by decide) h⟩
  conv=>whnf
  refine ⟨⟨by decide,by decide⟩,?_⟩
  conv=>whnf
  generalize hz:wN kk 13=z
  refine dO2 D218_4 [H++[z.O4 13],H++[S4.O4 { z with d:=orB z.d kd 8 } 14]] (by kernel_rfl) rfl trivial ?_
  conv=>whnf
  (refine dS ?_;(conv=>whnf))
  iterate 2 (refine dZ ?_;(conv=>whnf))
  apply exA
  ·conv=>whnf
   ((conv in (_[_]?)=>tactic=>exact (z.look4 13 H));(conv=>whnf))
   exact ⟨rfl,rfl,zqv⟩
  conv=>whnf
  iterate 3 (refine dS ?_;(conv=>whnf))
  (refine dZ ?_;(conv=>whnf))
  (refine dS ?_;(conv=>whnf))
  (refine dZ ?_;(conv=>whnf))
  (refine dS ?_;(conv=>whnf))
  (refine dZ ?_;(conv=>whnf))
  apply exA
  ·conv=>whnf
   ((conv in (_[_]?)=>tactic=>exact (z.look4 13 H));(conv=>whnf))
   exact ⟨rfl,sL H _ _,zqv⟩
  conv=>whnf
  refine ⟨14,by decide,⟨rfl,rfl,rfl,rfl,zqv⟩,?_,by decide⟩
  subst hz hkk
  rfl
 | 14,_ =>
  conv=>whnf
  refine ⟨fun _=>?_,fun h=>absurd (show ((14:Nat):Int)<16 by decide) h⟩
  conv=>whnf
  refine ⟨⟨by decide,by decide⟩,?_⟩
  conv=>whnf
  generalize hz:wN kk 14=z
  refine dO2 D218_4 [H++[z.O4 14],H++[S4.O4 { z with d:=orB z.d ke 16 } 15]] (by kernel_rfl) rfl trivial ?_
  conv=>whnf
  (refine dS ?_;(conv=>whnf))
  iterate 2 (refine dZ ?_;(conv=>whnf))
  apply exA
  ·conv=>whnf
   ((conv in (_[_]?)=>tactic=>exact (z.look4 14 H));(conv=>whnf))
   exact ⟨rfl,rfl,zqv⟩
  conv=>whnf
  iterate 3 (refine dS ?_;(conv=>whnf))
  (refine dZ ?_;(conv=>whnf))
  (refine dS ?_;(conv=>whnf))
  (refine dZ ?_;(conv=>whnf))
  (refine dS ?_;(conv=>whnf))
  (refine dZ ?_;(conv=>whnf))
  apply exA
  ·conv=>whnf
   ((conv in (_[_]?)=>tactic=>exact (z.look4 14 H));(conv=>whnf))
   exact ⟨rfl,sL H _ _,zqv⟩
  conv=>whnf
  refine ⟨15,by decide,⟨rfl,rfl,rfl,rfl,zqv⟩,?_,by decide⟩
  subst hz hkk
  rfl
 | 15,_ =>
  conv=>whnf
  refine ⟨fun _=>?_,fun h=>absurd (show ((15:Nat):Int)<16 by decide) h⟩
  conv=>whnf
  refine ⟨⟨by decide,by decide⟩,?_⟩
  conv=>whnf
  generalize hz:wN kk 15=z
  refine dO2 D218_4 [H++[z.O4 15],H++[S4.O4 { z with d:=orB z.d kf 24 } 16]] (by kernel_rfl) rfl trivial ?_
  conv=>whnf
  (refine dS ?_;(conv=>whnf))
  iterate 2 (refine dZ ?_;(conv=>whnf))
  apply exA
  ·conv=>whnf
   ((conv in (_[_]?)=>tactic=>exact (z.look4 15 H));(conv=>whnf))
   exact ⟨rfl,rfl,zqv⟩
  conv=>whnf
  iterate 3 (refine dS ?_;(conv=>whnf))
  (refine dZ ?_;(conv=>whnf))
  (refine dS ?_;(conv=>whnf))
  (refine dZ ?_;(conv=>whnf))
  (refine dS ?_;(conv=>whnf))
  (refine dZ ?_;(conv=>whnf))
  apply exA
  ·conv=>whnf
   ((conv in (_[_]?)=>tactic=>exact (z.look4 15 H));(conv=>whnf))
   exact ⟨rfl,sL H _ _,zqv⟩
  conv=>whnf
  refine ⟨16,by decide,⟨rfl,rfl,rfl,rfl,zqv⟩,?_,by decide⟩
  subst hz hkk
  rfl
 | 16,_ =>
  conv=>whnf
  refine ⟨fun h=>absurd h (by decide),fun _=>?_⟩
  conv=>whnf
  refine dP2 (by kernel_rfl) ?_
  conv=>whnf
  apply exA
  ·conv=>whnf
   exact ⟨by decide,rfl,rfl,zqv⟩
  conv=>whnf
  apply exA
  ·conv=>whnf
   ((conv in (_[_]?)=>tactic=>exact ((wN kk 16).look4 16 H));(conv=>whnf))
   exact ⟨rfl,rfl,zqv⟩
  conv=>whnf
  apply exA
  ·conv=>whnf
   refine ⟨by decide,fun _=>?_,fun h=>absurd (show (1:Int)<4 by decide) h⟩
   conv=>whnf
   exact ⟨rfl,rfl,zqv⟩
  conv=>whnf
  iterate 2 (refine dS ?_;(conv=>whnf))
  subst hkk
  refine lO MkS (fun x=>[(0,.ptr (some (kid,0))),(5,.int .u32 (spN [k0,k1,k2,k3,k4,k5,k6,k7,k8,k9,ka,kb,kc,kd,ke,kf] x.i).a),(6,.sref x.lid x.off 3 x.cap),(33,.int .i64 x.i)]) (fun x=>x.K) (fun x=>MkOk [k0,k1,k2,k3,k4,k5,k6,k7,k8,k9,ka,kb,kc,kd,ke,kf] d m s md l kid H x) (fun x=>27 - x.i)
   ⟨⟨0,v,H.length,1,3,(wN [k0,k1,k2,k3,k4,k5,k6,k7,k8,k9,ka,kb,kc,kd,ke,kf] 16).O4 16,H++[(wN [k0,k1,k2,k3,k4,k5,k6,k7,k8,k9,ka,kb,kc,kd,ke,kf] 16).O4 16]⟩,⟨Nat.zero_le _,by rw [zq2 hlt];exact hid,by show H.length≠kid;omega,zqn _,gL H _,rfl,by show 1+3≤4;omega,by show 3≤3;omega,by simp,fun j hj _=>zq2 hj⟩,⟨rfl,rfl,rfl,rfl,zqv⟩,rfl⟩ ?_
  rintro x hx
  obtain ⟨i,kv,lid,off,cap,ob,K⟩:=x
  have hx:MkOk [k0,k1,k2,k3,k4,k5,k6,k7,k8,k9,ka,kb,kc,kd,ke,kf] d m s md l kid H ⟨i,kv,lid,off,cap,ob,K⟩:=hx
  have hi:i≤27:=hx.i
  have hKk:K[kid]? = some (keyO [k0,k1,k2,k3,k4,k5,k6,k7,k8,k9,ka,kb,kc,kd,ke,kf] d m s (spL [k0,k1,k2,k3,k4,k5,k6,k7,k8,k9,ka,kb,kc,kd,ke,kf] l i) md kv):=hx.key
  conv=>whnf
  refine ⟨fun h=>?_,fun h=>?_⟩
  ·have h:(i:Int)<27:=h
   have hspl:(spL [k0,k1,k2,k3,k4,k5,k6,k7,k8,k9,ka,kb,kc,kd,ke,kf] l i).length=27:=by rw [spL_len _ _ _ hl hi]
   conv=>whnf
   refine ⟨⟨by omega,h⟩,?_⟩
   conv=>whnf
   ((conv in (_[_]?)=>tactic=>exact hKk);(conv=>whnf))
   ((conv in (Nat.ble _ _)=>tactic=>exact (show Nat.ble (0+19+(i:Int).toNat*1+1) (([k0,k1,k2,k3,k4,k5,k6,k7,k8,k9,ka,kb,kc,kd,ke,kf].map bC++[PV.int .u32 d,PV.int .i32 m,PV.int .u32 s])++(spL [k0,k1,k2,k3,k4,k5,k6,k7,k8,k9,ka,kb,kc,kd,ke,kf] l i).map u32C++[PV.int .u32 md]).length=true by rw [Nat.ble_eq];simp [hspl];omega));(conv=>whnf))
   generalize hg:setH kid _ _ _=K1
   have hK1:K1=K.set kid (keyO [k0,k1,k2,k3,k4,k5,k6,k7,k8,k9,ka,kb,kc,kd,ke,kf] d m s (spL [k0,k1,k2,k3,k4,k5,k6,k7,k8,k9,ka,kb,kc,kd,ke,kf] l (i+1)) md (kv+1)):=by
    rw [←hg]
    show K.set kid ⟨243,setCells (0+19+(i:Int).toNat*1) [u32C (spN [k0,k1,k2,k3,k4,k5,k6,k7,k8,k9,ka,kb,kc,kd,ke,kf] i).a] (([k0,k1,k2,k3,k4,k5,k6,k7,k8,k9,ka,kb,kc,kd,ke,kf].map bC++[PV.int .u32 d,PV.int .i32 m,PV.int .u32 s])++(spL [k0,k1,k2,k3,k4,k5,k6,k7,k8,k9,ka,kb,kc,kd,ke,kf] l i).map u32C++[PV.int .u32 md]),kv+1⟩=_
    rw [setCells_mid _ _ _ i _ _ (by omega) (by simp),spL_set _ _ _ hl (by omega)]
    rfl
   have h1:K1[lid]? = some ob:=by rw [hK1,zqj (Ne.symm hx.ne)];exact hx.lst
   have hk1:K1[kid]? = some (keyO [k0,k1,k2,k3,k4,k5,k6,k7,k8,k9,ka,kb,kc,kd,ke,kf] d m s (spL [k0,k1,k2,k3,k4,k5,k6,k7,k8,k9,ka,kb,kc,kd,ke,kf] l (i+1)) md (kv+1)):=by rw [hK1];exact gS hKk
   have hl1:K1.length=K.length:=by rw [hK1,List.length_set]
   have ht:(ob.cs.drop off).take 3=[u32C (spN [k0,k1,k2,k3,k4,k5,k6,k7,k8,k9,ka,kb,kc,kd,ke,kf] i).b,u32C (spN [k0,k1,k2,k3,k4,k5,k6,k7,k8,k9,ka,kb,kc,kd,ke,kf] i).c,u32C (spN [k0,k1,k2,k3,k4,k5,k6,k7,k8,k9,ka,kb,kc,kd,ke,kf] i).d]:=hx.three
   have ht2:ob.cs.drop off=u32C (spN [k0,k1,k2,k3,k4,k5,k6,k7,k8,k9,ka,kb,kc,kd,ke,kf] i).b::u32C (spN [k0,k1,k2,k3,k4,k5,k6,k7,k8,k9,ka,kb,kc,kd,ke,kf] i).c::u32C (spN [k0,k1,k2,k3,k4,k5,k6,k7,k8,k9,ka,kb,kc,kd,ke,kf] i).d::(ob.cs.drop off).drop 3:=by
    conv=>lhs;rw [←List.take_append_drop 3 (ob.cs.drop off),ht]
    rfl
   clear hg
   conv=>whnf
   refine ⟨⟨by decide,by show (0:Int)<((3:Nat):Int);decide⟩,?_⟩
   conv=>whnf
   ((conv in (_[_]?)=>tactic=>exact h1);(conv=>whnf))
   ((conv in (dropN _ _)=>tactic=>exact ((dropN_eq _ _).trans ht2));(conv=>whnf))
   refine cP (c211 _ _) ?_
   conv=>whnf
   refine cP (c211 _ _) ?_
   conv=>whnf
   refine ⟨⟨by decide,by show (1:Int)≤((3:Nat):Int);decide,by show ((3:Nat):Int)≤((3:Nat):Int);decide⟩,fun _=>?_,fun h=>absurd (show (1:Int)<((3:Nat):Int) by decide) h⟩
   conv=>whnf
   ((conv in (_[_]?)=>tactic=>exact h1);(conv=>whnf))
   have hr1:off+cap≤ob.cs.length:=hx.room
   have hr2:3≤cap:=hx.cap
   have hlid:H.length≤lid:=hx.new
   have hlen:H.length≤K.length:=hx.len
   refine ⟨⟨by decide,rfl,rfl,by show off+1+2≤ob.cs.length;omega⟩,fun h4=>?_,fun h4 cap' hc=>?_⟩
   ·have h4:3≤cap - 1:=h4
    refine ⟨by show off+1+3≤ob.cs.length;omega,?_⟩
    conv=>whnf
    refine ⟨⟨i+1,kv+1,lid,off+1,cap - 1,⟨ob.T,setCells (off+1+2) [u32C (spN [k0,k1,k2,k3,k4,k5,k6,k7,k8,k9,ka,kb,kc,kd,ke,kf] (i+1)).d] ob.cs,ob.ver+1⟩,K1.set lid ⟨ob.T,setCells (off+1+2) [u32C (spN [k0,k1,k2,k3,k4,k5,k6,k7,k8,k9,ka,kb,kc,kd,ke,kf] (i+1)).d] ob.cs,ob.ver+1⟩⟩,⟨by show i+1≤27;omega,by rw [zqj hx.ne];exact hk1,hx.ne,hx.new,gS h1,slide ob.cs off _ _ _ _ ht2 (by omega) _,?_,by show 3≤cap - 1;omega,by show H.length≤(K1.set lid _).length;rw [List.length_set];omega,fun j hj hjk=>?_⟩,⟨rfl,rfl,rfl,?_,zqv⟩,rfl,by show 27 - (i+1)<27 - i;omega⟩
    ·show off+1+(cap - 1)≤(setCells _ _ _).length
     rw [setCells_len _ _ _ (by show off+1+2+1≤_;omega)];omega
    ·rw [zqj (by omega),hK1,zqj (Ne.symm hjk)]
     exact hx.fr j hj hjk
    ·show PV.int _ (IntKind.i64.wrap ((i:Int)+1))=PV.int _ _
     rw [w64 (by omega) (by omega)];simp
   ·have hc:3≤cap':=hc
    conv=>whnf
    have ht3:ob.cs.drop (off+1)=u32C (spN [k0,k1,k2,k3,k4,k5,k6,k7,k8,k9,ka,kb,kc,kd,ke,kf] i).c::u32C (spN [k0,k1,k2,k3,k4,k5,k6,k7,k8,k9,ka,kb,kc,kd,ke,kf] i).d::(ob.cs.drop off).drop 3:=by
     rw [←List.drop_drop,ht2];rfl
    have hcell:((ob.cs.drop (off+1)).take 2).map dem=[u32C (spN [k0,k1,k2,k3,k4,k5,k6,k7,k8,k9,ka,kb,kc,kd,ke,kf] i).c,u32C (spN [k0,k1,k2,k3,k4,k5,k6,k7,k8,k9,ka,kb,kc,kd,ke,kf] i).d]:=by rw [ht3];rfl
    refine ⟨⟨i+1,kv+1,K1.length,0,cap',⟨184,((ob.cs.drop (off+1)).take 2).map dem++[u32C (spN [k0,k1,k2,k3,k4,k5,k6,k7,k8,k9,ka,kb,kc,kd,ke,kf] (i+1)).d]++zerosOf [PV.int .u32 0] (cap' - 3),0⟩,K1++[⟨184,((ob.cs.drop (off+1)).take 2).map dem++[u32C (spN [k0,k1,k2,k3,k4,k5,k6,k7,k8,k9,ka,kb,kc,kd,ke,kf] (i+1)).d]++zerosOf [PV.int .u32 0] (cap' - 3),0⟩]⟩,⟨by show i+1≤27;omega,by rw [zq2 (zq1.1 hk1).1];exact hk1,by show K1.length≠kid;omega,by show H.length≤K1.length;omega,gL K1 _,?_,?_,hc,by show H.length≤(K1++[_]).length;rw [zqf];omega,fun j hj hjk=>?_⟩,⟨rfl,rfl,rfl,?_,zqv⟩,rfl,by show 27 - (i+1)<27 - i;omega⟩
    ·rw [hcell];rfl
    ·show 0+cap'≤(((ob.cs.drop (off+1)).take 2).map dem++[u32C (spN [k0,k1,k2,k3,k4,k5,k6,k7,k8,k9,ka,kb,kc,kd,ke,kf] (i+1)).d]++zerosOf [PV.int .u32 0] (cap' - 3)).length
     rw [hcell,zqf,(zerosOf_get (z:=[PV.int .u32 0]) (sz:=1) rfl (by omega) (cap' - 3)).1]
     show 0+cap'≤3+(cap' - 3)*1
     omega
    ·rw [zq2 (by omega),hK1,zqj (Ne.symm hjk)]
     exact hx.fr j hj hjk
    ·show PV.int _ (IntKind.i64.wrap ((i:Int)+1))=PV.int _ _
     rw [w64 (by omega) (by omega)];simp
  ·have h:¬(i:Int)<27:=h
   have e:i=27:=by omega
   subst e
   have hspl:spL [k0,k1,k2,k3,k4,k5,k6,k7,k8,k9,ka,kb,kc,kd,ke,kf] l 27=spW [k0,k1,k2,k3,k4,k5,k6,k7,k8,k9,ka,kb,kc,kd,ke,kf]:=by
    unfold spL spW
    rw [List.drop_of_length_le (by omega),List.append_nil]
   rw [hspl] at hKk
   conv=>whnf
   refine cO (c228 (o:=keyO [k0,k1,k2,k3,k4,k5,k6,k7,k8,k9,ka,kb,kc,kd,ke,kf] d m s (spW [k0,k1,k2,k3,k4,k5,k6,k7,k8,k9,ka,kb,kc,kd,ke,kf]) md kv) (n:=md) hKk rfl) ?_
   rintro _ _ ⟨rfl,rfl⟩
   conv=>whnf
   exact ⟨rfl,K,kv,hKk,hx.len,hx.fr,rfl⟩
 | j+17,hj=>exact absurd hj (by omega)
set_option maxHeartbeats 1000000
theorem keyO_flat (k:List UInt8) (d m s:Int) (l:List Int) (md:Int) (v:Nat):∀c∈(keyO k d m s l md v).cs,flatP c=true:=by
 intro c hc
 simp only [keyO,List.mem_append,List.mem_map,List.mem_cons,List.not_mem_nil,or_false] at hc
 rcases hc with ((⟨b,_,rfl⟩ | rfl | rfl | rfl) | ⟨x,_,rfl⟩) | rfl <;> rfl
theorem split_set {H K:PH} {kid:Nat} {o:PObj} (hlt:kid<H.length) (hl:H.length≤K.length) (hf:∀j,j<H.length→j≠kid→K[j]? = H[j]?):K.set kid o=H.set kid o++K.drop H.length:=by
 apply List.ext_getElem?
 intro j
 by_cases h:j<H.length
 ·rw [zq2 (by rw [List.length_set];exact h)]
  by_cases e:j=kid
  ·subst e
   rw [List.getElem?_set_self (by omega),List.getElem?_set_self h]
  ·rw [zqj (Ne.symm e),zqj (Ne.symm e)]
   exact hf j h e
 ·rw [zqi (by rw [List.length_set];omega),List.length_set,zqt,zqj (by omega)]
  congr 1;omega
theorem c218 (k:List UInt8) (hk:k.length=16) (d m s md:Int) (l:List Int) (hl:l.length=27) (v kid:Nat) (H:PH) (hid:H[kid]? = some (keyO k d m s l md v)) :
  CK prog 218 [.ptr (some (kid,0))] H fun r H'=>r=.tup []∧∃v',H'=H.set kid (keyO k d m s (spW k) 1 v'):=by
 have hlt:kid<H.length:=(zq1.1 hid).1
 refine CK.gcK (c218x k hk d m s md l hl v kid H hid) fun r H' hh=>?_
 obtain ⟨rfl,K,kv,h1,h2,h3,rfl⟩:=hh
 exact ⟨rfl,H.set kid (keyO k d m s (spW k) 1 (kv+1)),_,split_set hlt h2 h3,kept_set hlt fun c hc=>.inl (keyO_flat _ _ _ _ _ _ _ c hc),rfl,_,rfl⟩
def WordsOk:Prop:=∀(k:List UInt8) (hk:k.length=16) (kid:Nat) (H:PH),(∃v,H[kid]? = some (keyO k 0 0 0 (List.replicate 27 0) 0 v))∨(∃v,H[kid]? = some (keyO k 1 0 0 (spW k) 1 v)) →
 CK prog 210 [.ptr (some (kid,0))] H fun r H'=>r=.sref kid 19 27 27∧∃v',H'=H.set kid (keyO k 1 0 0 (spW k) 1 v')
def spR (w:Int) (p:Int×Int):Int×Int:=(xor32 (add32 (rot32 p.1 (-8)) p.2) w,xor32 (rot32 p.2 3) (xor32 (add32 (rot32 p.1 (-8)) p.2) w))
def spB (ws:List Int) (p:Int×Int):Int×Int:=ws.foldl (fun p w=>spR w p) p
theorem spB_snoc (ws:List Int) (w:Int) (p:Int×Int):spB (ws++[w]) p=spR w (spB ws p):=by unfold spB;rw [List.foldl_append];rfl
theorem spW_len (k:List UInt8):(spW k).length=27:=by unfold spW;simp
theorem c198 (hw:WordsOk) (k:List UInt8) (hk:k.length=16) (kid:Nat) (H:PH) (h0:(∃v,H[kid]? = some (keyO k 0 0 0 (List.replicate 27 0) 0 v))∨(∃v,H[kid]? = some (keyO k 1 0 0 (spW k) 1 v))) (x y:Int) :
  CK prog 198 [.ptr (some (kid,0)),.int .u32 x,.int .u32 y] H fun r H'=>r=.tup [.int .u32 (spB (spW k) (x,y)).1,.int .u32 (spB (spW k) (x,y)).2]∧∃v',H'=H.set kid (keyO k 1 0 0 (spW k) 1 v'):=by
 have hlt:kid<H.length:=by
  rcases h0 with ⟨v,h⟩ | ⟨v,h⟩ <;> exact (zq1.1 h).1
 (refine fnS (imm:=imm198) ttO_ok func198 ?_;(conv=>whnf))
 refine cO (hw k hk kid H h0) ?_
 rintro _ _ ⟨rfl,v',rfl⟩
 have hK:(H.set kid (keyO k 1 0 0 (spW k) 1 v'))[kid]? = some (keyO k 1 0 0 (spW k) 1 v'):=List.getElem?_set_self hlt
 generalize hKK:H.set kid (keyO k 1 0 0 (spW k) 1 v')=K at hK
 conv=>whnf
 refine lO Nat (fun i=>[(13,.sref kid 19 27 27),(14,.int .i64 27),(15,.int .i64 i),(1,.int .u32 (spB ((spW k).take i) (x,y)).1),(2,.int .u32 (spB ((spW k).take i) (x,y)).2)]) (fun _=>K) (fun i=>i≤27) (fun i=>27 - i) ⟨0,Nat.zero_le _,⟨rfl,rfl,rfl,rfl,rfl,zqv⟩,rfl⟩ ?_
 intro i hi
 conv=>whnf
 refine ⟨fun h=>?_,fun h=>?_⟩
 ·have h:(i:Int)<27:=h
  have hi':i<(spW k).length:=by rw [spW_len];omega
  conv=>whnf
  refine ⟨⟨by omega,by show (i:Int)<((27:Nat):Int);exact h⟩,?_⟩
  conv=>whnf
  ((conv in (_[_]?)=>tactic=>exact hK);(conv=>whnf))
  have hd:dropN (19+(i:Int).toNat*1) (keyO k 1 0 0 (spW k) 1 v').cs=u32C (spW k)[i]::(((spW k).drop (i+1)).map u32C++[u32C 1]):=by
   rw [dropN_eq]
   show ((k.map bC++[PV.int .u32 1,PV.int .i32 0,PV.int .u32 0])++(spW k).map u32C++[PV.int .u32 1]).drop _=_
   have e:19+(i:Int).toNat*1=(k.map bC++[PV.int .u32 1,PV.int .i32 0,PV.int .u32 0]).length+i:=by simp [hk]
   rw [e,List.append_assoc,List.drop_length_add_append,List.drop_append_of_le_length (by rw [zqq];omega),←List.map_drop,List.drop_eq_getElem_cons hi']
   rfl
  ((conv in (dropN _ _)=>tactic=>exact hd);(conv=>whnf))
  refine cP (c211 _ _) ?_
  conv=>whnf
  refine cP (c211 _ _) ?_
  conv=>whnf
  have et:spB ((spW k).take (i+1)) (x,y)=spR (spW k)[i] (spB ((spW k).take i) (x,y)):=by rw [List.take_succ_eq_append_getElem hi',spB_snoc]
  refine ⟨i+1,by omega,⟨rfl,rfl,?_,?_,?_,zqv⟩,rfl,by omega⟩
  ·show PV.int _ (IntKind.i64.wrap ((i:Int)+1))=PV.int _ _
   rw [w64 (by omega) (by omega)];simp
  ·rw [et];rfl
  ·rw [et];rfl
 ·have h:¬(i:Int)<27:=h
  have e:(spW k).take i=spW k:=List.take_of_length_le (by rw [spW_len];omega)
  rw [e]
  conv=>whnf
  exact ⟨rfl,v',hKK.symm⟩
def KeySt (k:List UInt8) (o:PObj):Prop:=(∃v,o=keyO k 0 0 0 (List.replicate 27 0) 0 v)∨(∃v,o=keyO k 1 0 0 (spW k) 1 v)
theorem KeySt.flat {k:List UInt8} {o:PObj} (h:KeySt k o):o.cs.all flatP=true:=by
 rcases h with ⟨v,rfl⟩ | ⟨v,rfl⟩ <;> exact List.all_eq_true.2 fun c hc=>keyO_flat _ _ _ _ _ _ _ c hc
def le4 (w:Int):List UInt8:=[byteI w,byteI (ishr .u32 w 8),byteI (ishr .u32 w 16),byteI (ishr .u32 w 24)]
def blkP (k:List UInt8) (nn:Int) (i:Nat):Int×Int:=spB (spW k) (IntKind.u32.wrap (ishr .u64 nn 32),add32 (IntKind.u32.wrap nn) i)
def strN (k:List UInt8) (nn:Int):Nat→List UInt8
 | 0=>[]
 | i+1=>strN k nn i++(le4 (blkP k nn i).1++le4 (blkP k nn i).2)
theorem strN_len (k:List UInt8) (nn:Int):∀i,(strN k nn i).length=8*i
 | 0=>rfl
 | i+1=>by
  show (strN k nn i++(le4 _++le4 _)).length=_
  rw [zqf,strN_len k nn i]
  show 8*i+8=_
  omega
def streamV (k:List UInt8) (nn:Int) (n:Nat):List UInt8:=(strN k nn ((n+7) / 8)).take n
theorem streamV_len (k:List UInt8) (nn:Int) (n:Nat):(streamV k nn n).length=n:=by
 unfold streamV
 rw [zqr,strN_len];omega
theorem le4_cells (w:Int):[PV.int .u8 (IntKind.u8.wrap w),.int .u8 (IntKind.u8.wrap (ishr .u32 w 8)),.int .u8 (IntKind.u8.wrap (ishr .u32 w 16)),.int .u8 (IntKind.u8.wrap (ishr .u32 w 24))]=(le4 w).map bC:=by
 rw [byteC_I,byteC_I,byteC_I,byteC_I];rfl
theorem ow_app' (a b:List UInt8) {n:Nat} (hn:n=b.length):PV.slice (a.length+n) (a.map bC++b.map bC) (some 5)=ow (a++b):=by subst hn;exact ow_app a b
structure StS where
 i:Nat
 o:PObj
theorem wrap32 {n:Nat} (h:n<4294967296):IntKind.u32.wrap (n:Int)=(n:Int):=by
 show (n:Int) % _=_
 have:(2 ^ IntKind.u32.bits:Int)=4294967296:=by decide
 rw [this];omega
theorem c177 (hw:WordsOk) (k:List UInt8) (hk:k.length=16) (kid:Nat) (nn:Int) (n:Nat) (hn:n≤1000000) (so:PObj) (hso:KeySt k so) (H:PH) (hid:H[kid]? = some so) :
  CK prog 177 [.ptr (some (kid,0)),.int .u64 nn,.int .i64 n] H fun r H'=>r=sl (streamV k nn n)∧∃o',KeySt k o'∧H'=H.set kid o':=by
 have hlt:kid<H.length:=(zq1.1 hid).1
 rcases Nat.eq_zero_or_pos n with h0 | h0
 ·subst h0
  exact (c177z kid nn 0 (by decide) H).mono fun r H' hh=>⟨hh.1,so,hso,by rw [hh.2];exact (set_self hid).symm⟩
 (refine fnS (imm:=imm177) ttS_ok func177 ?_;(conv=>whnf))
 refine ⟨fun h=>absurd h (by omega),fun _=>?_⟩
 conv=>whnf
 have hw8:IntKind.i64.wrap ((n:Int)+8)=(n:Int)+8:=w64 (by omega) (by omega)
 refine ⟨⟨by decide,by rw [hw8];omega,by rw [hw8];show ((n:Int)+8)*((1:Nat):Int)≤_;omega⟩,?_⟩
 conv=>whnf
 refine lO StS (fun x=>[(0,.ptr (some (kid,0))),(1,.int .u64 nn),(2,.int .i64 n),(7,ow (strN k nn x.i)),(8,.int .u32 x.i)]) (fun x=>H.set kid x.o) (fun x=>x.i≤(n+7) / 8∧KeySt k x.o) (fun x=>(n+7) / 8 - x.i) ⟨⟨0,so⟩,⟨Nat.zero_le _,hso⟩,⟨rfl,rfl,rfl,rfl,rfl,zqv⟩,(set_self hid).symm⟩ ?_
 rintro ⟨i,o⟩ ⟨hi,ho⟩
 replace hi:i≤(n+7) / 8:=hi
 replace ho:KeySt k o:=ho
 have hsl:=strN_len k nn i
 conv=>whnf
 refine ⟨fun h=>?_,fun h=>?_⟩
 ·have h:((strN k nn i).length:Int)<n:=h
  rw [hsl] at h
  conv=>whnf
  refine ⟨by decide,?_⟩
  conv=>whnf
  have hst:(∃v,(H.set kid o)[kid]? = some (keyO k 0 0 0 (List.replicate 27 0) 0 v))∨(∃v,(H.set kid o)[kid]? = some (keyO k 1 0 0 (spW k) 1 v)):=by
   rw [List.getElem?_set_self hlt]
   rcases ho with ⟨v,rfl⟩ | ⟨v,rfl⟩
   ·exact .inl ⟨v,rfl⟩
   ·exact .inr ⟨v,rfl⟩
  refine cO (Q:=fun r H'=>r=.tup [.int .u32 (blkP k nn i).1,.int .u32 (blkP k nn i).2]∧∃v',H'=H.set kid (keyO k 1 0 0 (spW k) 1 v')) ((c198 hw k hk kid (H.set kid o) hst _ _).mono fun r H' hh=>?_) ?_
  ·obtain ⟨h1,v',h2⟩:=hh
   exact ⟨h1,v',by rw [h2,List.set_set]⟩
  rintro _ _ ⟨rfl,v',rfl⟩
  conv=>whnf
  generalize hx:(blkP k nn i).1=x
  generalize hy:(blkP k nn i).2=y
  refine lO Nat (fun j=>[(0,.ptr (some (kid,0))),(1,.int .u64 nn),(2,.int .i64 n),(7,ow (strN k nn i++(le4 x++le4 y).take (4*j))),(8,.int .u32 i),(42,.slice 2 [.int .u32 x,.int .u32 y] (some 184)),(43,.int .i64 2),(44,.int .i64 j)]) (fun _=>H.set kid (keyO k 1 0 0 (spW k) 1 v')) (fun j=>j≤2) (fun j=>2 - j) ⟨0,Nat.zero_le _,⟨rfl,rfl,rfl,?_,rfl,rfl,rfl,rfl,zqv⟩,rfl⟩ ?_
  ·show ow (strN k nn i)=ow (strN k nn i++[])
   rw [List.append_nil]
  intro j hj
  have happ:∀(a b:List UInt8),b.length=4→a.length≤2000000→(a.length+4)*1≤140737488355328∧(b.map bC).length=4*1∧(b.map bC).all oneP=true:=fun a b hb ha=>⟨by omega,by simp [hb],allOne b⟩
  match j,hj with
  | 0,_ =>
   conv=>whnf
   refine ⟨fun _=>?_,fun h=>absurd (show ((0:Nat):Int)<2 by decide) h⟩
   conv=>whnf
   refine ⟨⟨by decide,by decide⟩,[.int .u32 x],at1' (k:=0) rfl,?_⟩
   conv=>whnf
   refine ⟨by decide,?_⟩
   conv=>whnf
   refine ⟨by decide,?_⟩
   conv=>whnf
   refine ⟨by decide,?_⟩
   conv=>whnf
   refine ⟨⟨by show ((strN k nn i++(le4 x++le4 y).take (4*0)).length+4)*1≤_;rw [zqf,hsl];simp;omega,rfl,rfl⟩,?_⟩
   conv=>whnf
   refine ⟨1,by decide,⟨rfl,rfl,rfl,?_,rfl,rfl,rfl,rfl,zqv⟩,rfl,by decide⟩
   show PV.slice ((strN k nn i++(le4 x++le4 y).take (4*0)).length+4) ((strN k nn i++(le4 x++le4 y).take (4*0)).map bC++[PV.int .u8 (IntKind.u8.wrap x),.int .u8 (IntKind.u8.wrap (ishr .u32 x 8)),.int .u8 (IntKind.u8.wrap (ishr .u32 x 16)),.int .u8 (IntKind.u8.wrap (ishr .u32 x 24))]) (some 5)=ow (strN k nn i++(le4 x++le4 y).take (4*1))
   rw [le4_cells,ow_app' _ (le4 x) (n:=4) rfl,List.append_assoc]
   rfl
  | 1,_ =>
   conv=>whnf
   refine ⟨fun _=>?_,fun h=>absurd (show ((1:Nat):Int)<2 by decide) h⟩
   conv=>whnf
   refine ⟨⟨by decide,by decide⟩,[.int .u32 y],at1' (k:=1) rfl,?_⟩
   conv=>whnf
   refine ⟨by decide,?_⟩
   conv=>whnf
   refine ⟨by decide,?_⟩
   conv=>whnf
   refine ⟨by decide,?_⟩
   conv=>whnf
   refine ⟨⟨by show ((strN k nn i++(le4 x++le4 y).take (4*1)).length+4)*1≤_;rw [zqf,hsl];simp;omega,rfl,rfl⟩,?_⟩
   conv=>whnf
   refine ⟨2,by decide,⟨rfl,rfl,rfl,?_,rfl,rfl,rfl,rfl,zqv⟩,rfl,by decide⟩
   show PV.slice ((strN k nn i++(le4 x++le4 y).take (4*1)).length+4) ((strN k nn i++(le4 x++le4 y).take (4*1)).map bC++[PV.int .u8 (IntKind.u8.wrap y),.int .u8 (IntKind.u8.wrap (ishr .u32 y 8)),.int .u8 (IntKind.u8.wrap (ishr .u32 y 16)),.int .u8 (IntKind.u8.wrap (ishr .u32 y 24))]) (some 5)=ow (strN k nn i++(le4 x++le4 y).take (4*2))
   rw [le4_cells,ow_app' _ (le4 y) (n:=4) rfl,List.append_assoc]
   rfl
  | 2,_ =>
   conv=>whnf
   refine ⟨fun h=>absurd h (by decide),fun _=>?_⟩
   conv=>whnf
   refine ⟨⟨i+1,keyO k 1 0 0 (spW k) 1 v'⟩,⟨by show i+1≤(n+7) / 8;omega,.inr ⟨v',rfl⟩⟩,⟨rfl,rfl,rfl,?_,?_,zqv⟩,rfl,by show (n+7) / 8 - (i+1)<(n+7) / 8 - i;omega⟩
   ·subst hx hy
    rfl
   ·show PV.int _ (IntKind.u32.wrap ((i:Int)+1))=PV.int _ ((i+1:Nat):Int)
    rw [←wrap32 (n:=i+1) (by omega)];rfl
 ·have h:¬((strN k nn i).length:Int)<n:=h
  rw [hsl] at h
  have e:i=(n+7) / 8:=by omega
  conv=>whnf
  refine ⟨⟨by decide,by omega,by show (n:Int)≤((strN k nn i).length:Int);omega⟩,?_⟩
  conv=>whnf
  refine ⟨?_,o,ho,rfl⟩
  refine (sl_cut2 (strN k nn i) 0 n ⟨by omega,by omega,by omega⟩).trans ?_
  rw [Int.toNat_natCast,e]
  rfl
set_option maxHeartbeats 1600000
open Go
theorem mDisable (w:World):(callFunc 243 #[]).run prog w=.ok (.value (.tuple #[])) w:=run_call_mark0 func243 (by kernel_rfl) (by kernel_rfl) (by kernel_rfl) .disable (by kernel_rfl) w
theorem mEnable (w:World):(callFunc 245 #[]).run prog w=.ok (.value (.tuple #[])) w:=run_call_mark0 func245 (by kernel_rfl) (by kernel_rfl) (by kernel_rfl) .enable (by kernel_rfl) w
theorem mAcquire (a:Addr) (w:World):(callFunc 246 #[.pointer (some a)]).run prog w=.ok (.value (.tuple #[])) w:=run_call_marked func246 (by kernel_rfl) (by kernel_rfl) (by kernel_rfl) .acquire (by kernel_rfl) a w
theorem mRelease (a:Addr) (w:World):(callFunc 248 #[.pointer (some a)]).run prog w=.ok (.value (.tuple #[])) w:=run_call_marked func248 (by kernel_rfl) (by kernel_rfl) (by kernel_rfl) .releaseMerge (by kernel_rfl) a w
theorem lock_free (a:Addr) (w:World) (hc:w.cell? a=some (.int .i32 0)) (hz:w.frozen? a=false) :
  Calls prog 234 #[.pointer (some a)] w fun e w'=>e=.returned (.tuple #[])∧w'=w.setCell a (.int .i32 1):=by
 have hd:=mDisable
 have he:=mEnable
 have ha:=mAcquire
 have hcas:=run_call_cas_hit (P:=prog) func244 (by kernel_rfl) (by kernel_rfl) (by kernel_rfl) .i32 (by kernel_rfl) (y:=1) hc hz
 have hc':(w.setCell a (.int .i32 1)).cell? a=some (.int .i32 1):=World.cell?_setCell_same w a _ hc
 have hcv:=run_convert_to_unsafe (P:=prog) (src:=304) (dst:=308) underlying304 underlying308 (by kernel_rfl) hc'
 go_enter func234,ntmps234
 go_wp2
 first | go_end0 | (simp only [Exit.inBlock,Exit.then];refine bodyPost_ret (results_none rfl _ _ _) rfl ?_) | refine bodyPost_ret (results_none rfl _ _ _) rfl ?_
 go_wp2
 go_end0
 exact ⟨rfl,rfl⟩
theorem unlock_deferred (a:Addr) (u:FrameMode) (w:World) (hc:w.cell? a=some (.int .i32 1)) (hz:w.frozen? a=false) :
  CallsD prog 235 #[.pointer (some a)] u w fun e u' w'=>u'=u∧(e=.returned (.tuple #[])∧w'=w.setCell a (.int .i32 0)):=by
 have hd:=mDisable
 have he:=mEnable
 have hr:=mRelease
 have hadd:=run_call_add (P:=prog) func249 (by kernel_rfl) (by kernel_rfl) (by kernel_rfl) .i32 (by kernel_rfl) (y:=-1) (s:=0) hc hz (by simp [go_sem];rfl)
 have hcv:=run_convert_to_unsafe (P:=prog) (src:=304) (dst:=308) underlying304 underlying308 (by kernel_rfl) hc
 go_enter_d func235,ntmps235
 go_wp2
 go_end0
 go_wp2
 go_end0
 exact ⟨rfl,rfl⟩
end Go.Proofs.Tryz
/- Calls that were deferred; and a walk of the kit's over what the calculus knows. -/
namespace Ps
open Go
def CallDOk (P:Program) (f:Nat) (args:List PV) (H:PH) (Q:PV→PH→Prop):Prop :=
 ∀(g:Gh) (w:World) (vs:Array Value) (u:FrameMode),vs.size=args.length→Rel P g w (valOf vs) (args0 0 args) H →
  (callFunc f vs).run P w=.ok (.enter f vs) w∧CallsD P f vs u w fun e u' w'=>u'=u∧∃v r H' g',e=.returned v∧Q r H'∧Rel P g' w' (one v) [(0,r)] H'∧Step g w H (cellOwn g w H) g' w' H' ∧
   (∀i b,ownAt v r i b→w.heap.size≤b∨cellOwn g w H b)∧∀b,cellOwn g' w' H' b→w.heap.size≤b∨cellOwn g w H b
section
variable {P : Program} {tt : TT} {imm : List Nat}
theorem callDOk_of_pFun {f:Nat} {fn:Func} {args:List PV} {H:PH} {Q:PV→PH→Prop} (hm:P.follows .mixedOrders=true) (hT:ttOk P tt=true) (hd:6≤P.depth) (hf:P.funcs[f]? = some fn)
  (hname : (fn.name == "runtime.NumGoroutine") = false) (hp : pFun P tt imm fn args H Q) : CallDOk P f args H Q := by
 intro g w vs u hs hr
 unfold pFun at hp
 split at hp
 ·rename_i c hc
  split at hp
  ·rename_i hle
   have hle:args.length≤fn.ntmps:=zqh hle
   refine ⟨run_callFunc_body hf hname (by rw [hc];rfl),callsD_of_wp hf hc ?_⟩
   have hval:∀t,vals { tmps:=vs++Array.replicate (fn.ntmps - vs.size) undef,defers:=[] } t=valOf vs t:=fun t=>by
    simp only [vals,valOf,Array.getD_eq_getD_getElem?]
    rcases Nat.lt_or_ge t vs.size with h | h
    ·rw [Array.getElem?_append_left h]
    ·rw [Array.getElem?_append_right h,Array.getElem?_eq_none h,Array.getElem?_replicate]
     split <;> rfl
   have hV:∀t,V g w (valOf vs t) (Env.get (args0 0 (args.map dem)) t):=fun t=>by
    have:=(hr.e t).dem
    rw [args0_get] at this ⊢
    simp only [Nat.zero_le,if_true,Nat.sub_zero,List.getD_eq_getElem?_getD,List.getElem?_map] at this ⊢
    cases h:args[t]? with
    | none=>exact .undef _
    | some p=>rw [h] at this;exact this
   have hinv:Inv P g w H (cellOwn g w H) fn.ntmps g w { tmps:=vs++Array.replicate (fn.ntmps - vs.size) undef,defers:=[] } (args0 0 (args.map dem)) H:=by
    have hrel:Rel P g w (valOf vs) (args0 0 (args.map dem)) H:=⟨hr.h,fun t=>(hV t).vc,fun t i t' i' b h=>absurd h (no_own (hV t) i b),fun t i b h=>absurd h (no_own (hV t) i b),hr.cc⟩
    refine ⟨?_,by simp;omega,rfl,⟨Same.refl _ _ _,rfl,rfl,rfl,zqn _,Keeps.refl _ _,fun _ _ h=>.inl h,fun b _ _ _=>⟨rfl,fun o h=>h⟩,fun _ h=>h⟩,fun t i b h=>?_,fun b h=>.inr h⟩
    ·rw [show vals { tmps:=vs++Array.replicate (fn.ntmps - vs.size) undef,defers:=[] }=valOf vs from funext hval];exact hrel
    ·rw [hval] at h;exact absurd h (no_own (hV t) i b)
   refine pCode_sound hm hT hd c _ _ (fun e g' w' a E H' inv hk=>?_) _ _ _ _ _ hinv hp
   have fin:∀(hk:pRes tt H' fn.results.toList E fun vs=>Q (tupOf vs) H'),a.defers=[]∧∃v,(results fn a.tmps).run P w'=.ok v w' ∧
     ∃v' r H2 g2,Ending.returned v=.returned v'∧Q r H2∧Rel P g2 w' (one v') [(0,r)] H2∧Step g w H (cellOwn g w H) g2 w' H2∧(∀i b,ownAt v' r i b→w.heap.size≤b∨cellOwn g w H b) ∧
      ∀b,cellOwn g2 w' H2 b→w.heap.size≤b∨cellOwn g w H b:=fun hk=>by
    obtain ⟨us,ps,h1,h2,h3,h4,h5,h6⟩:=pRes_sound hT fn.results.toList E _ inv hk
    obtain ⟨j1,j2⟩:=res_VC h3 h4
    refine ⟨inv.defers,valRes us,results_eq fn a h1,_,tupOf ps,H',g',rfl,h2,⟨inv.rel.h,fun t=>?_,fun t i t' i' b ho ho'=>?_,fun t i b ho=>?_,inv.rel.cc⟩,inv.step,fun i b ho=>?_,inv.cown⟩
    ·rw [Env.get_cons]
     unfold one
     by_cases e:t=0
     ·rw [zqp e,zqp e.symm];exact j1
     ·rw [zqo e,zqo (Ne.symm e)];exact (V.undef _).vc
    ·rw [Env.get_cons] at ho ho'
     unfold one at ho ho'
     by_cases e:t=0
     ·by_cases e':t'=0
      ·rw [zqp e,zqp e.symm] at ho
       rw [zqp e',zqp e'.symm] at ho'
       obtain ⟨c,u,y1,y2,y3,y4⟩:=j2 i b ho
       obtain ⟨c',u',z1,z2,z3,z4⟩:=j2 i' b ho'
       exact ⟨e.trans e'.symm,h6 i i' c c' u u' b y1 y2 y3 y4 z1 z2 z3 z4⟩
      ·rw [zqo (Ne.symm e')] at ho';cases ho'.2.1
     ·rw [zqo (Ne.symm e)] at ho;cases ho.2.1
    ·rw [Env.get_cons] at ho
     unfold one at ho
     by_cases e:t=0
     ·rw [zqp e,zqp e.symm] at ho
      obtain ⟨c,u,y1,y2,y3,y4⟩:=j2 i b ho
      obtain ⟨t',ht'⟩:=h5 i c u b y1 y2 y3 y4
      exact inv.rel.sc t' 0 b ht'
     ·rw [zqo (Ne.symm e)] at ho;cases ho.2.1
    ·obtain ⟨c,u,y1,y2,y3,y4⟩:=j2 i b ho
     obtain ⟨t',ht'⟩:=h5 i c u b y1 y2 y3 y4
     exact inv.own t' 0 b ht'
   cases e with
   | normal=>exact fin hk
   | ret=>exact fin hk
   | exit i=>exact hk.elim
  ·exact hp.elim
 ·exact hp.elim
end
theorem callDOk_of_pFun2 {P:Program} {tt:TT} {imm:List Nat} (hm:P.follows .mixedOrders=true) (hT:ttOk P tt=true) (hd:6≤P.depth) {f:Nat} {fn:Func} (hf:P.funcs[f]? = some fn)
  (hn : (fn.name == "runtime.NumGoroutine") = false) {args : List PV} {H : PH} {Q : PV → PH → Prop} (h : pFun2 P tt imm fn args H Q) : CallDOk P f args H Q :=
 callDOk_of_pFun hm hT hd hf hn (by rw [←pFunX.2];exact h)
section
variable {P : Program}
def St (P:Program) (g0:Gh) (w0:World) (H0:PH) (g:Gh) (w:World) (H:PH):Prop:=Inv P g0 w0 H0 (cellOwn g0 w0 H0) 0 g w { tmps:=#[],defers:=[] } [] H
theorem St.start {g:Gh} {w:World} {H:PH} {val:Nat→Value} {E:Env} (hr:Rel P g w val E H):St P g w H g w H :=
 ⟨⟨hr.h,fun t=>(V.undef _).vc,fun t i t' i' b h=>(by cases h.2.1),fun t i b h=>(by cases h.2.1),hr.cc⟩,rfl,rfl,
  ⟨Same.refl _ _ _,rfl,rfl,rfl,zqn _,Keeps.refl _ _,fun _ _ h=>.inl h,fun b _ _ _=>⟨rfl,fun o h=>h⟩,fun _ h=>h⟩,fun t i b h=>(by cases h.2.1),fun b h=>.inr h⟩
theorem St.call {g0 g : Gh} {w0 w : World} {H0 H : PH} (h : St P g0 w0 H0 g w H) {f : Nat} {fn : Func} (hf : P.funcs[f]? = some fn) (hname : (fn.name == "runtime.NumGoroutine") = false) (hb : fn.body.isNone = false)
  {args:List PV} {Q:PV→PH→Prop} (hc:CK P f args H Q) {vs:Array Value} (hs:vs.size=args.length) (hv:∀(j:Nat) (c:PV),args[j]? = some c→V g w (vs.getD j undef) c) :
  Calls P f vs w fun e w'=>∃v r H' g',e=.returned v∧Q r H'∧St P g0 w0 H0 g' w' H'∧Keeps g w g' w'∧VC P g' w' v r:=by
 rcases hc g w vs hs (Rel.args h.rel.h h.rel.cc hs hv) with ⟨_,h2⟩ | ⟨v,w',h1,_⟩
 ·refine h2.mono ?_
  rintro e w' ⟨v,r,H',g',rfl,q,hr,hst,ho,hcc⟩
  obtain ⟨i1,i2,_⟩:=Inv.call h hr hst ho hcc
  exact ⟨v,r,H',g',rfl,q,i1,hst.keeps,i2⟩
 ·rw [run_callFunc_body hf hname hb] at h1
  cases h1
theorem St.callD {g0 g:Gh} {w0 w:World} {H0 H:PH} (h:St P g0 w0 H0 g w H) {f:Nat}
  {args:List PV} {Q:PV→PH→Prop} (hc:CallDOk P f args H Q) {vs:Array Value} (u:FrameMode) (hs:vs.size=args.length) (hv:∀(j:Nat) (c:PV),args[j]? = some c→V g w (vs.getD j undef) c) :
  (callFunc f vs).run P w=.ok (.enter f vs) w∧CallsD P f vs u w fun e u' w'=>u'=u∧∃v r H' g',e=.returned v∧Q r H'∧St P g0 w0 H0 g' w' H'∧Keeps g w g' w':=by
 obtain ⟨h1,h2⟩:=hc g w vs u hs (Rel.args h.rel.h h.rel.cc hs hv)
 refine ⟨h1,h2.mono ?_⟩
 rintro e u' w' ⟨hu,v,r,H',g',rfl,q,hr,hst,ho,hcc⟩
 exact ⟨hu,v,r,H',g',rfl,q,(Inv.call h hr hst ho hcc).1,hst.keeps⟩
theorem St.fin {g0 g:Gh} {w0 w:World} {H0 H:PH} (h:St P g0 w0 H0 g w H):Rel P g w (one (.tuple #[])) [(0,.tup [])] H∧Step g0 w0 H0 (cellOwn g0 w0 H0) g w H ∧
  (∀i b,ownAt (.tuple #[]) (.tup []) i b→w0.heap.size≤b∨cellOwn g0 w0 H0 b)∧∀b,cellOwn g w H b→w0.heap.size≤b∨cellOwn g0 w0 H0 b:=by
 refine ⟨⟨h.rel.h,fun t=>?_,fun t i t' i' b k=>?_,fun t i b k=>?_,h.rel.cc⟩,h.step,fun i b k=>absurd k (unit_own i b),h.cown⟩
 ·rw [Env.get_cons]
  unfold one
  by_cases e:t=0
  ·rw [zqp e,zqp e.symm];exact unit_vc
  ·rw [zqo e,zqo (Ne.symm e)];exact (V.undef _).vc
 ·rw [Env.get_cons] at k
  unfold one at k
  by_cases e:t=0
  ·rw [zqp e,zqp e.symm] at k;exact absurd k (unit_own i b)
  ·rw [zqo (Ne.symm e)] at k;cases k.2.1
 ·rw [Env.get_cons] at k
  unfold one at k
  by_cases e:t=0
  ·rw [zqp e,zqp e.symm] at k;exact absurd k (unit_own i b)
  ·rw [zqo (Ne.symm e)] at k;cases k.2.1
end
end Ps
