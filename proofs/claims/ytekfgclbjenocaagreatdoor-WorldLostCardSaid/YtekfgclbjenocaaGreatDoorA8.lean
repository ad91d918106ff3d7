import Derived.Test.YtekfgclbjenocaaGreatDoorA7
set_option linter.all false
set_option maxRecDepth 100000
set_option maxHeartbeats 2000000
namespace Go.Proofs.Tryz
open Go Ps
noncomputable section
def runW (f:Nat) (args:List PV):CC:=cCall (extOf exA10) tgA ftA 1000000 60 f args hZ
def okIs (v:PV) (c:CC):Bool:=match c with
 | .ok r _=>pvEq r v
 | .pure r=>pvEq r v
 | .err _=>false
theorem pureRun {f:Nat} {args:List PV} {v:PV} (hv:oldR v=true) (ha:args.all argQ=true) (hr:okIs v (runW f args)=true):Pure prog f args v:=by
 intro H
 refine CK.frameR hv ha ?_ H
 unfold runW at hr
 generalize hc:cCall (extOf exA10) tgA ftA 1000000 60 f args hZ=c at hr
 unfold okIs at hr
 split at hr
 ·have h:=pvEq_eq _ _ hr
  exact ((runA_ok 60).ok f args hZ _ _ hc [] (show RH [] hZ from by exact rfl)).mono fun r H' hh=>by rw [hh.1,h]
 ·have h:=pvEq_eq _ _ hr
  exact ((runA_ok 60).pure f args hZ _ hc [] (show RH [] hZ from by exact rfl)).mono fun r H' hh=>by rw [hh.1,h]
 ·cases hr
def aE:List UInt8:=[65,46,69,68,85]
def bE:List UInt8:=[66,46,69,68,85]
def eE:List UInt8:=[69,68,85]
def treeV:PV:=.agg [.slice 3 [.str aE,.str eE,.str bE] none,.slice 4 [.str aE,.str eE,.str eE,.str aE,.str eE,.str bE,.str bE,.str eE] none,.nilS]
theorem k14:Pure prog 14 [.ptr none,.int .i64 0,.int .i64 1,.agg [.str [],.str []],.str [],.agg [.str [],.str []]] (.tup [.nilS,.int .i64 1]):=pureRun rfl rfl (by kernel_rfl)
theorem k12:Pure prog 12 [.ptr none] (.ptr none):=pureRun rfl rfl (by kernel_rfl)
theorem k10:Pure prog 10 [.ptr none,.int .i64 0] (.ptr none):=pureRun rfl rfl (by kernel_rfl)
theorem k15:Pure prog 15 [.ptr none] .nilS:=pureRun rfl rfl (by kernel_rfl)
theorem k16:Pure prog 16 [.ptr none] .nilS:=pureRun rfl rfl (by kernel_rfl)
theorem k8:Pure prog 8 [.ptr none] .nilS:=pureRun rfl rfl (by kernel_rfl)
theorem k17 (n:Int):Pure prog 17 [.ptr none,.int .i64 n] (.int .i64 0):=pureRun rfl rfl (by kernel_rfl)
theorem k19:Pure prog 19 [] treeV:=pureRun rfl rfl (by kernel_rfl)
theorem k18:Pure prog 18 [treeV] (.bool true):=pureRun rfl rfl (by kernel_rfl)
theorem old_bytes (b:List UInt8):oldPs (b.map bC)=true:=by
 induction b with
 | nil=>rfl
 | cons x b ih=>simp only [List.map_cons,oldPs,ih,zq6];rfl
theorem k7 (a b c d:Int) (s:List UInt8):Pure prog 7 [.ptr none,.agg [.int .i64 a,.int .i64 b,.int .i64 c,.int .i64 d,sl s]] (.int .i64 1):=pureRun rfl (by
 simp [argQ,oldP,oldPs,isOwn,sl,old_bytes]) (by kernel_rfl)
end
def ttL:TT:=[(3,⟨.int .i64,1,8,[.int .i64 0]⟩),(5,⟨.int .u8,1,1,[.int .u8 0]⟩),(9,⟨.str,1,16,[.str []]⟩),(23,⟨.ptr,1,8,[.ptr none]⟩),(29,⟨.int .i64,1,8,[.int .i64 0]⟩),(31,⟨.slice 5,1,24,[.slice 0 [] (some 5)]⟩),(33,⟨.strct [(3,0),(3,1),(3,2),(3,3),(31,4)],5,56,[.int .i64 0,.int .i64 0,.int .i64 0,.int .i64 0,.slice 0 [] (some 5)]⟩),(34,⟨.slice 37,1,24,[.slice 0 [] (some 37)]⟩),(37,⟨.arr 32 5,32,32,List.replicate 32 (.int .u8 0)⟩),(41,⟨.ptr,1,8,[.ptr none]⟩),(44,⟨.ptr,1,8,[.ptr none]⟩),(51,⟨.strct [(9,0),(9,1)],2,32,[.str [],.str []]⟩),(52,⟨.slice 136,1,24,[.slice 0 [] (some 136)]⟩),(54,⟨.slice 139,1,24,[.slice 0 [] (some 139)]⟩),(58,⟨.slice 9,1,24,[.slice 0 [] (some 9)]⟩),(59,⟨.slice 142,1,24,[.slice 0 [] (some 142)]⟩),(60,⟨.slice 146,1,24,[.slice 0 [] (some 146)]⟩),(62,⟨.strct [(58,0),(59,1),(60,2)],3,72,[.slice 0 [] (some 9),.slice 0 [] (some 142),.slice 0 [] (some 146)]⟩),(120,⟨.strct [(51,0),(3,2),(31,3)],4,64,[.str [],.str [],.int .i64 0,.slice 0 [] (some 5)]⟩),(136,⟨.strct [(51,0),(51,2),(37,4),(58,36),(3,37),(3,38)],39,136,[.str [],.str [],.str [],.str []]++List.replicate 32 (.int .u8 0)++[.slice 0 [] (some 9),.int .i64 0,.int .i64 0]⟩),(139,⟨.strct [(9,0),(120,1),(120,5)],9,144,[.str [],.str [],.str [],.int .i64 0,.slice 0 [] (some 5),.str [],.str [],.int .i64 0,.slice 0 [] (some 5)]⟩),(142,⟨.arr 2 9,2,32,[.str [],.str []]⟩),(146,⟨.strct [(9,0),(9,1),(58,2)],3,56,[.str [],.str [],.slice 0 [] (some 9)]⟩)]
theorem ttL_ok:ttOk prog ttL=true:=by kernel_rfl
def imm5W:List Nat:=[1]
theorem c5W (a b c d:Int) (s:List UInt8):CK prog 5 [.agg [.int .i64 a,.int .i64 b,.int .i64 c,.int .i64 d,sl s]] [] fun r _=>r=.bool true:=by
 have e14:=k14
 have e12:=k12
 have e10:=k10
 have e15:=k15
 have e16:=k16
 have e8:=k8
 have e17:=k17 b
 have e19:=k19
 have e18:=k18
 have e7:=k7 a b c d s
 have e9:Pure prog 9 [] (.bool true):=fun H=>c9W H
 (refine fnS (imm:=imm5W) ttL_ok func5 ?_;(conv=>whnf))
 by_cases h1:(500:Int)<s.length
 ·(repeat (first | ((first | (apply exA;(focus exact oN)) | refine bT ?_ | refine bF ?_ | refine bW (bT ?_) | refine bW (bF ?_) | (apply cP;(focus assumption)) | (apply cE;(focus assumption)) | refine ⟨by first | decide | omega,?_⟩);((conv=>whnf))) | ((conv in (_[_]?)=>tactic=>first | exact oL | exact gS (by assumption));(conv=>whnf))));rfl
 (repeat (first | (first | ((first | (apply exA;(focus exact oN)) | refine bT ?_ | refine bF ?_ | refine bW (bT ?_) | refine bW (bF ?_) | (apply cP;(focus assumption)) | (apply cE;(focus assumption)) | refine ⟨by first | decide | omega,?_⟩);((conv=>whnf))) | ((conv in (_[_]?)=>tactic=>first | exact oL | exact gS (by assumption));(conv=>whnf))) | (refine dP2 (by kernel_rfl) ?_;(conv=>whnf))))
 rfl
end Go.Proofs.Tryz
