import Derived.Test.YtekfgclbjenocaaGreatDoorA7
set_option linter.all false
set_option maxRecDepth 100000
namespace Go.Proofs.Tryz
open Go Ps
noncomputable section
def knownE:EX:=fun args _=>match args with
 | []=>.pure (.bool true)
 | _=>.err 961
theorem ex9:ExOk prog 9 knownE:=by
 refine ⟨fun args hh r h' hr=>?_,fun args hh r hr H rh=>?_⟩
 ·unfold knownE at hr
  split at hr <;> cases hr
 ·unfold knownE at hr
  split at hr
  ·cases hr
   exact c9W H
  ·cases hr
def begR:CC:=cCall (extOf exA10) tgA ftA 1000000 60 6 [] hZ
def begE:EX:=fun args h=>match args with
 | []=>match h with
  | ⟨0,.nil⟩=>begR
  | _=>.err 963
 | _=>.err 962
theorem ex6:ExOk prog 6 begE:=by
 refine ⟨fun args hh r h' hr H rh=>?_,fun args hh r hr H rh=>?_⟩
 ·unfold begE at hr
  split at hr
  ·split at hr
   ·exact (runA_ok 60).ok 6 [] hZ r h' hr H rh
   ·cases hr
  ·cases hr
 ·unfold begE at hr
  split at hr
  ·split at hr
   ·exact (runA_ok 60).pure 6 [] hZ r hr H rh
   ·cases hr
  ·cases hr
def exA11:Tr EX:=(exA10.set knownE 9).set begE 6
def exL11:List (Nat×EX):=[(127,pureE taG),(159,numAdd .i64),(119,pureE (clE 146 3 56)),(35,pureE prG),(131,pureE wdG),(9,knownE),(321,pureE indexG),(105,pureE cloneG),(101,mixE),(165,pureE kiG),(85,pureE taG),(149,pureE kiG),(213,numLoad .i64),(309,pureE countG),(45,clR),(128,pureE prG),(96,pureE intG),(160,pureE sumG),(120,streamE),(52,pureE conG),(156,pureE catG),(6,begE),(130,pureE rsG),(106,pureE (reG isRealmB)),(90,pureE textG),(86,pureE (reG isRg)),(118,pureE (clE 142 2 32))]
theorem exL11_eq:(exA11.toL fun j=>j)=exL11:=by kernel_rfl
theorem exL11_ok:ExAll prog exL11:=⟨ex127,ex85,ex120,ex35,ex131,ex9,ex280,ex217,ex171,ex165,ex85t,ex149,ex90,ex263,exR118,ex128,ex212,ex216,ex218,ex52,ex236,ex6,ex130,ex106,ex219,ex86,ex119,zqv⟩
def run11 (f:Nat) (args:List PV):CC:=cCall (extOf exA11) tgA ftA 1000000 60 f args hZ
theorem run11_ok {f:Nat} {args:List PV} (hr:isTrue (run11 f args)=true):CK prog f args [] fun r _=>r=.bool true:=by
 have hs:CallS prog (cCall (extOf exA11) tgA ftA 1000000 60):=cCall_ok follows ttA_ok depth6 (ttOf_ok tgA) (fun call hc=>extOf_ok (by rw [exL11_eq];exact exL11_ok) call hc) ftA_ok 1000000 60
 unfold run11 at hr
 generalize hc:cCall (extOf exA11) tgA ftA 1000000 60 f args hZ=c at hr
 unfold isTrue at hr
 split at hr
 ·exact (hs.ok f args hZ _ _ hc [] (show RH [] hZ from by exact rfl)).mono fun r H' hh=>hh.1
 ·cases hr
end
end Go.Proofs.Tryz
