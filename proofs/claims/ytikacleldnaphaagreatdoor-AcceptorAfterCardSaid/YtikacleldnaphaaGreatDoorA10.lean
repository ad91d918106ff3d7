import Derived.Test.YtikacleldnaphaaGreatDoorA8
set_option linter.all false
set_option maxRecDepth 100000
namespace Go.Proofs.Tryz
open Go Ps
theorem after1:isTrue (run8 8 [.int .i64 1])=true:=by kernel_rfl
end Go.Proofs.Tryz
