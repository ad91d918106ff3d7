import Derived.Test.YtekfgclbjenocaaGreatDoorA9
set_option linter.all false
set_option maxRecDepth 100000
namespace Go.Proofs.Tryz
open Go Ps
theorem lost7:([40]:List Int).all (fun n=>isTrue (run11 4 [.int .i64 n]))=true:=by kernel_rfl
end Go.Proofs.Tryz
