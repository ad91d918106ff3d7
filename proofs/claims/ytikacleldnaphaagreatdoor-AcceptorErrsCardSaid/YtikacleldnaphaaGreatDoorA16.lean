import Derived.Test.YtikacleldnaphaaGreatDoorA8
set_option linter.all false
set_option maxRecDepth 100000
namespace Go.Proofs.Tryz
open Go Ps
theorem way7:isTrue (run8 5 [.int .i64 7])=true:=by kernel_rfl
end Go.Proofs.Tryz
