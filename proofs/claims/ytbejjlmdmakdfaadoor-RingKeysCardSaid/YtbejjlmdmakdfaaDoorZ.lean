import Derived.Test.YtbejjlmdmakdfaaDoorT17
import Derived.Test.YtbejjlmdmakdfaaDoorCards
import Derived.Test.YtbejjlmdmakdfaaDoorTie
import Derived.WalkKit
import Derived.ProofKit
import Derived.OpenShut
import Derived.Deep.DeepHandedRow
import Derived.Lib.LaidTab
set_option linter.all false
set_option linter.unusedVariables false
set_option linter.unusedSimpArgs false
set_option linter.unnecessarySimpa false
set_option maxRecDepth 100000
namespace Go.Proofs.YtbejjlmdmakdfaaDoor
open Go Go.RowKit Ps
theorem rows_ints {k : IntKind} : ∀ {rs : List (List PV)}, (∀ r ∈ rs, ∃ x, r = [.int k x] ∧ (Lit.int k x).wf = true) → ∃ xs : List Int, rs.length = xs.length ∧ rs.flatten = xs.map (.int k) ∧ ∀ x ∈ xs, (Lit.int k x).wf = true
  | [], _ => ⟨[], rfl, rfl, fun x h => by cases h⟩
  | r :: rs, h => by
    obtain ⟨x, rfl, hx⟩ := h r List.mem_cons_self
    obtain ⟨xs, h1, h2, h3⟩ := rows_ints fun r hr => h r (List.mem_cons_of_mem _ hr)
    exact ⟨x :: xs, by simp [h1], by simp [h2], fun y hy => by
      rcases List.mem_cons.1 hy with rfl | hy
      · exact hx
      · exact h3 y hy⟩
/-- Integers that are bytes. -/
theorem bytes_of : ∀ {xs : List Int}, (∀ x ∈ xs, (Lit.int .u8 x).wf = true) → ∃ bs : List UInt8, xs.length = bs.length ∧ xs.map (PV.int .u8) = bs.map byteC
  | [], _ => ⟨[], rfl, rfl⟩
  | x :: xs, h => by
    obtain ⟨bs, h1, h2⟩ := bytes_of fun y hy => h y (List.mem_cons_of_mem _ hy)
    have hx := bounds_u8 (h x List.mem_cons_self)
    refine ⟨UInt8.ofNat x.toNat :: bs, by simp [h1], ?_⟩
    rw [List.map_cons, List.map_cons, h2]
    congr 1
    show PV.int .u8 x = .int .u8 _
    rw [UInt8.toNat_ofNat']
    congr 1; omega
theorem own : ownKnob Tryd.prog.godebug = none := by kernel_rfl
theorem laidOut : laidOutB Tryd.prog = true := by kernel_rfl
/-- The cells of a table. -/
def litV : DataW Unit → Value
  | .lit (.int k n) => .int k n
  | _ => Go.undef
def litVs : DataW Unit → List Value
  | .agg l => l.map litV
  | d => [litV d]
def tabVs : DataW Unit → List Value
  | .agg l => l.flatMap litVs
  | _ => []
def fillTab (l : List Value) : Obj → Obj
  | .cells _ t frozen => .cells l.toArray t frozen
  | o => o
/-- A world for the witness: the settled one, the listed tables laid. -/
noncomputable def laidWorld (os : Os) : World :=
  { World.holding Tryd.prog os ⟨#[], #[], []⟩ with heap := ((World.holding Tryd.prog os ⟨#[], #[], []⟩).heap.modify 0 (fillTab (tabVs Rows.laid_unicode_utf8_first))).modify 1 (fillTab (tabVs Rows.laid_unicode_utf8_acceptRanges)) }
theorem laid_met (os : Os) (args : Array Value) : laidMet Tryd.prog [("unicode/utf8.acceptRanges", Rows.laid_unicode_utf8_acceptRanges), ("unicode/utf8.first", Rows.laid_unicode_utf8_first)] ((laidWorld os).forCall (fun _ _ => 0) ⟨#[], args, []⟩).memory :=
  laidMet_of_run' 8 (by kernel_rfl) (by kernel_rfl)
theorem varsB (os : Os) (args : Array Value) : ((laidWorld os).forCall (fun _ _ => 0) ⟨#[], args, []⟩).variablesB Tryd.checked.prog = true := by kernel_rfl
theorem heapB (os : Os) (args : Array Value) : (((laidWorld os).forCall (fun _ _ => 0) ⟨#[], args, []⟩).heap.toList.drop Tryd.checked.prog.globals.size).take ((begin Tryd.checked.prog (fun _ _ => 0) default).world.heap.size - Tryd.checked.prog.globals.size) =
      (begin Tryd.checked.prog (fun _ _ => 0) default).world.heap.toList.drop Tryd.checked.prog.globals.size := by kernel_rfl
theorem noLooks : false = Tryd.prog.looks [] := by kernel_rfl
theorem plainOf {name : String} {k : Nat} {g : Func} (hn : Tryd.prog.funcNamed name = some k) (hg : Tryd.prog.funcs[k]? = some g) (hall : (g.params.toList.all fun t => Tryd.prog.wantsStandIn t == false) = true)
    (f : FuncId) (fn : Func) (hf : Tryd.pinned.checked.prog.funcNamed name = some f) (hfn : Tryd.pinned.checked.prog.funcs[f]? = some fn) :
    false = Tryd.pinned.checked.prog.looks [] ∧ ∀ (j : Nat) t, fn.params[j]? = some t → Tryd.pinned.checked.prog.wantsStandIn t = false := by
  obtain rfl : f = k := Option.some.inj (hn.symm.trans hf) |>.symm
  obtain rfl : fn = g := (Option.some.inj (hg.symm.trans hfn)).symm
  refine ⟨noLooks, fun j t ht => ?_⟩
  have h : Tryd.prog.wantsStandIn t = false := by simpa using List.all_eq_true.1 hall t (Array.mem_toList_iff.2 (Array.mem_of_getElem? ht))
  exact h
end Go.Proofs.YtbejjlmdmakdfaaDoor
