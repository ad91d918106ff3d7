import Derived.Test.YtikacleldnaphaaGreatDoorA5
import Derived.Test.YtikacleldnaphaaGreatDoorA6
set_option linter.all false
set_option maxRecDepth 100000
namespace Go.Proofs.Tryz
open Go Ps
noncomputable section
def hZ:CH:=⟨0,.nil⟩
def zsf (c:CC):Bool:=match c with
 | .ok (.bool true) _=>true
 | _=>false
theorem zsg {n f:Nat} {args:List PV} {h:CH} {H:PH} (rh:RH H h) (hr:zsf (cCall (extOf exA7) tgA ftA 1000000 n f args h)=true):CK prog f args H fun r _=>r=.bool true:=by
 generalize hc:cCall (extOf exA7) tgA ftA 1000000 n f args h=c at hr
 unfold zsf at hr
 split at hr
 ·exact ((zyl n).ok f args h _ _ hc H rh).mono fun r H' hh=>hh.1
 ·cases hr
theorem zsj:zsf (cCall (extOf exA7) tgA ftA 1000000 60 18 [] hZ)=true:=by kernel_rfl
theorem c18 (H:PH):CK prog 18 [] H fun r H'=>r=.bool true∧H'=H:=CK.frame rfl rfl (zsg (show RH [] hZ from by exact rfl) zsj) H
end
end Go.Proofs.Tryz
