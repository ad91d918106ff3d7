import Derived.Test.YtikacleldnaphaaGreatDoorA7
import Derived.Test.YtikacleldnaphaaGreatDoorA3
import Derived.Test.YtikacleldnaphaaGreatDoorA6
set_option linter.all false
set_option maxRecDepth 100000
namespace Go.Proofs.Tryz
open Go Ps
noncomputable section
def knownE:EX:=fun args _=>match args with
 | []=>.pure (.bool true)
 | _=>.err 961
theorem ex18:ExOk prog 18 knownE:=by
 refine ⟨fun args hh r h' hr=>?_,fun args hh r hr H rh=>?_⟩
 ·unfold knownE at hr
  split at hr <;> cases hr
 ·unfold knownE at hr
  split at hr
  ·cases hr
   exact c18 H
  ·cases hr
def exA8:Tr EX:=exA7.set knownE 18
def exL8:List (Nat×EX):=[(263,pureE countG),(119,pureE (clE 130 2 32)),(171,mixE),(219,pureE textG),(217,pureE cloneG),(85,numAdd .i64),(141,pureE openG),(280,pureE indexG),(216,pureE sumG),(120,pureE (clE 193 3 56)),(212,pureE intG),(236,pureE catG),(18,knownE),(90,numLoad .i64),(218,streamE),(38,pureE sealG),(118,clR)]
theorem exL8_eq:(exA8.toL fun j=>j)=exL8:=by kernel_rfl
theorem exL8_ok:ExAll prog exL8:=⟨ex263,ex119,ex171,ex219,ex217,ex85,ex141,ex280,ex216,ex120,ex212,ex236,ex18,ex90,ex218,ex38,exR118,trivial⟩
def run8 (f:Nat) (args:List PV):CC:=cCall (extOf exA8) tgA ftA 1000000 60 f args hZ
theorem run8_ok {f:Nat} {args:List PV} (hr:isTrue (run8 f args)=true):CK prog f args [] fun r _=>r=.bool true:=by
 have hs:CallS prog (cCall (extOf exA8) tgA ftA 1000000 60):=cCall_ok follows ttA_ok depth6 (ttOf_ok tgA) (fun call hc=>extOf_ok (by rw [exL8_eq];exact exL8_ok) call hc) ftA_ok 1000000 60
 unfold run8 at hr
 generalize hc:cCall (extOf exA8) tgA ftA 1000000 60 f args hZ=c at hr
 unfold isTrue at hr
 split at hr
 ·exact (hs.ok f args hZ _ _ hc [] (show RH [] hZ from by exact rfl)).mono fun r H' hh=>hh.1
 ·cases hr
end
set_option maxHeartbeats 4000000
def tt8:TT:=[(3,⟨.int .i64,1,8,[.int .i64 0]⟩),(5,⟨.int .u8,1,1,[.int .u8 0]⟩),(9,⟨.str,1,16,[.str []]⟩),(22,⟨.slice 5,1,24,[.slice 0 [] (some 5)]⟩),(24,⟨.arr 32 5,32,32,List.replicate 32 (.int .u8 0)⟩),(25,⟨.ptr,1,8,[.ptr none]⟩),(30,⟨.strct [(9,0),(9,1)],2,32,[.str [],.str []]⟩),(33,⟨.strct [(30,0),(24,2),(9,34),(3,35),(3,36)],37,96,[.str [],.str []]++List.replicate 32 (.int .u8 0)++[.str [],.int .i64 0,.int .i64 0]⟩),(35,⟨.strct [(30,0),(3,2),(3,3)],4,48,[.str [],.str [],.int .i64 0,.int .i64 0]⟩),(36,⟨.slice 9,1,24,[.slice 0 [] (some 9)]⟩),(38,⟨.strct [(30,0),(30,2),(24,4),(36,36),(3,37),(3,38)],39,136,[.str [],.str [],.str [],.str []]++List.replicate 32 (.int .u8 0)++[.slice 0 [] (some 9),.int .i64 0,.int .i64 0]⟩),(39,⟨.int .i64,1,8,[.int .i64 0]⟩),(41,⟨.ptr,1,8,[.ptr none]⟩),(42,⟨.ptr,1,8,[.ptr none]⟩),(44,⟨.strct [(41,0),(42,1)],2,16,[.ptr none,.ptr none]⟩),(64,⟨.strct [(30,0),(30,2),(3,4),(3,5)],6,80,[.str [],.str [],.str [],.str [],.int .i64 0,.int .i64 0]⟩),(66,⟨.strct [(30,0),(3,2),(22,3)],4,64,[.str [],.str [],.int .i64 0,.slice 0 [] (some 5)]⟩),(68,⟨.strct [(66,0),(22,4),(30,5),(3,7),(3,8)],9,136,[.str [],.str [],.int .i64 0,.slice 0 [] (some 5),.slice 0 [] (some 5),.str [],.str [],.int .i64 0,.int .i64 0]⟩),(70,⟨.strct [(30,0),(66,2),(22,6)],7,120,[.str [],.str [],.str [],.str [],.int .i64 0,.slice 0 [] (some 5),.slice 0 [] (some 5)]⟩),(72,⟨.strct [(66,0),(22,4)],5,88,[.str [],.str [],.int .i64 0,.slice 0 [] (some 5),.slice 0 [] (some 5)]⟩),(74,⟨.strct [(39,0),(3,1)],2,16,[.int .i64 0,.int .i64 0]⟩),(76,⟨.strct [(3,0),(64,1),(68,7),(70,16),(72,23),(74,28)],30,448,[.int .i64 0,.str [],.str [],.str [],.str [],.int .i64 0,.int .i64 0,.str [],.str [],.int .i64 0,.slice 0 [] (some 5),.slice 0 [] (some 5),.str [],.str [],.int .i64 0,.int .i64 0,.str [],.str [],.str [],.str [],.int .i64 0,.slice 0 [] (some 5),.slice 0 [] (some 5),.str [],.str [],.int .i64 0,.slice 0 [] (some 5),.slice 0 [] (some 5),.int .i64 0,.int .i64 0]⟩)]
theorem tt8_ok:ttOk prog tt8=true:=by kernel_rfl
def imm8:List Nat:=[]
theorem c8out (n:Int) (h:n<0∨2<n):CK prog 8 [.int .i64 n] [] fun r _=>r=.bool true:=by
 have k18:=c18 []
 (refine fnS (imm:=imm8) tt8_ok func8 ?_;(conv=>whnf))
 by_cases h1:n<0
 ·(repeat (first | ((first | (apply exA;(focus exact oN)) | refine ⟨fun _=>?_,fun h=>absurd (by first | assumption | rfl | decide | omega) h⟩ | refine ⟨fun h=>absurd h (by first | assumption | rfl | decide | omega),fun _=>?_⟩ | refine And.intro ⟨by exact fitS,by exact fitS⟩ ⟨fun _=>?_,fun h=>absurd (by first | assumption | rfl | decide | omega) h⟩ | refine And.intro ⟨by exact fitS,by exact fitS⟩ ⟨fun h=>absurd h (by first | assumption | rfl | decide | omega),fun _=>?_⟩ | (apply cP;(focus assumption)) | (apply cE;(focus assumption)) | refine ⟨by first | decide | omega,?_⟩);((conv=>whnf))) | ((conv in (_[_]?)=>tactic=>first | exact oL | exact gS (by assumption));(conv=>whnf))));first | rfl | trace_state
 have h2:2<n:=by omega
 (repeat (first | ((first | (apply exA;(focus exact oN)) | refine ⟨fun _=>?_,fun h=>absurd (by first | assumption | rfl | decide | omega) h⟩ | refine ⟨fun h=>absurd h (by first | assumption | rfl | decide | omega),fun _=>?_⟩ | refine And.intro ⟨by exact fitS,by exact fitS⟩ ⟨fun _=>?_,fun h=>absurd (by first | assumption | rfl | decide | omega) h⟩ | refine And.intro ⟨by exact fitS,by exact fitS⟩ ⟨fun h=>absurd h (by first | assumption | rfl | decide | omega),fun _=>?_⟩ | (apply cP;(focus assumption)) | (apply cE;(focus assumption)) | refine ⟨by first | decide | omega,?_⟩);((conv=>whnf))) | ((conv in (_[_]?)=>tactic=>first | exact oL | exact gS (by assumption));(conv=>whnf))));first | rfl | trace_state
end Go.Proofs.Tryz
