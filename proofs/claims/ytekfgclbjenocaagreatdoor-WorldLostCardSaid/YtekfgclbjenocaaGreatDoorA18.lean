import Derived.Test.YtekfgclbjenocaaGreatDoorA8
import Derived.Test.YtekfgclbjenocaaGreatDoorA10
import Derived.Test.YtekfgclbjenocaaGreatDoorA11
import Derived.Test.YtekfgclbjenocaaGreatDoorA12
import Derived.Test.YtekfgclbjenocaaGreatDoorA13
import Derived.Test.YtekfgclbjenocaaGreatDoorA14
import Derived.Test.YtekfgclbjenocaaGreatDoorA15
import Derived.Test.YtekfgclbjenocaaGreatDoorA16
import Derived.Test.YtekfgclbjenocaaGreatDoorA17
set_option linter.all false
set_option maxRecDepth 100000
set_option maxHeartbeats 2000000
namespace Go.Proofs.Tryz
open Go Ps
theorem c4out (n:Int) (h:n<0∨40<n):CK prog 4 [.int .i64 n] [] fun r _=>r=.bool true:=by
 (refine fnS (imm:=imm5W) ttL_ok func4 ?_;(conv=>whnf))
 by_cases h1:n<0
 ·(repeat (first | ((first | (apply exA;(focus exact oN)) | refine bT ?_ | refine bF ?_ | refine bW (bT ?_) | refine bW (bF ?_) | (apply cP;(focus assumption)) | (apply cE;(focus assumption)) | refine ⟨by first | decide | omega,?_⟩);((conv=>whnf))) | ((conv in (_[_]?)=>tactic=>first | exact oL | exact gS (by assumption));(conv=>whnf))));first | rfl | trace_state
 have h2:40<n:=by omega
 (repeat (first | ((first | (apply exA;(focus exact oN)) | refine bT ?_ | refine bF ?_ | refine bW (bT ?_) | refine bW (bF ?_) | (apply cP;(focus assumption)) | (apply cE;(focus assumption)) | refine ⟨by first | decide | omega,?_⟩);((conv=>whnf))) | ((conv in (_[_]?)=>tactic=>first | exact oL | exact gS (by assumption));(conv=>whnf))));first | rfl | trace_state
theorem lost_of {l:List Int} {n:Int} (h:l.all (fun n=>isTrue (run11 4 [.int .i64 n]))=true) (hn:n∈l):CK prog 4 [.int .i64 n] [] fun r _=>r=.bool true:=run11_ok (List.all_eq_true.1 h n hn)
theorem c4W (n:Int):CK prog 4 [.int .i64 n] [] fun r _=>r=.bool true:=by
 by_cases h:n<0∨40<n
 ·exact c4out n h
 by_cases h0:n≤8
 ·exact lost_of lost0 (by simp only [List.mem_cons,List.not_mem_nil,or_false];omega)
 by_cases h1:n≤15
 ·exact lost_of lost1 (by simp only [List.mem_cons,List.not_mem_nil,or_false];omega)
 by_cases h2:n≤21
 ·exact lost_of lost2 (by simp only [List.mem_cons,List.not_mem_nil,or_false];omega)
 by_cases h3:n≤26
 ·exact lost_of lost3 (by simp only [List.mem_cons,List.not_mem_nil,or_false];omega)
 by_cases h4:n≤31
 ·exact lost_of lost4 (by simp only [List.mem_cons,List.not_mem_nil,or_false];omega)
 by_cases h5:n≤35
 ·exact lost_of lost5 (by simp only [List.mem_cons,List.not_mem_nil,or_false];omega)
 by_cases h6:n≤39
 ·exact lost_of lost6 (by simp only [List.mem_cons,List.not_mem_nil,or_false];omega)
 exact lost_of lost7 (by simp only [List.mem_cons,List.not_mem_nil,or_false];omega)
end Go.Proofs.Tryz
