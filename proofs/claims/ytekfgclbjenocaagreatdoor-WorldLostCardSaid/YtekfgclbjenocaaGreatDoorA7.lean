import Derived.Test.YtekfgclbjenocaaGreatDoorA5
import Derived.Test.YtekfgclbjenocaaGreatDoorA6
set_option linter.all false
set_option maxRecDepth 100000
namespace Go.Proofs.Tryz
open Go Ps
noncomputable section
def hZ:CH:=⟨0,.nil⟩
def isTrue (c:CC):Bool:=match c with
 | .ok (.bool true) _=>true
 | _=>false
theorem isTrue_ok {n f:Nat} {args:List PV} {h:CH} {H:PH} (rh:RH H h) (hr:isTrue (cCall (extOf exA10) tgA ftA 1000000 n f args h)=true):CK prog f args H fun r _=>r=.bool true:=by
 generalize hc:cCall (extOf exA10) tgA ftA 1000000 n f args h=c at hr
 unfold isTrue at hr
 split at hr
 ·exact ((runA_ok n).ok f args h _ _ hc H rh).mono fun r H' hh=>hh.1
 ·cases hr
theorem known_run:isTrue (cCall (extOf exA10) tgA ftA 1000000 60 9 [] hZ)=true:=by kernel_rfl
theorem c9W (H:PH):CK prog 9 [] H fun r H'=>r=.bool true∧H'=H:=CK.frame rfl rfl (isTrue_ok (show RH [] hZ from by exact rfl) known_run) H
end
end Go.Proofs.Tryz
