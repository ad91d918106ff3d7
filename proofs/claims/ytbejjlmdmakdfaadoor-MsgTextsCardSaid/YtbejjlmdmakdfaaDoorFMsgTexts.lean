/- MsgTexts: for every row of bytes the law answers true, and the row reads as it did. No condition. -/
import Derived.Test.YtbejjlmdmakdfaaDoorA0
import Derived.Test.YtbejjlmdmakdfaaDoorCards
import Derived.Test.YtbejjlmdmakdfaaDoorTie
import Derived.WalkKit
import Derived.ProofKit
import Derived.OpenShut
import Derived.Deep.DeepHandedRow
import Derived.Lib.LaidTab
import Derived.Test.YtbejjlmdmakdfaaDoorA2
set_option linter.all false
set_option maxRecDepth 100000
namespace Go.Proofs.YtbejjlmdmakdfaaDoor
open Go Go.RowKit Ps
theorem rows_ints {k : IntKind} : ∀ {rs : List (List PV)}, (∀ r ∈ rs, ∃ x, r = [.int k x] ∧ (Lit.int k x).wf = true) → ∃ xs : List Int, rs.length = xs.length ∧ rs.flatten = xs.map (.int k) ∧ ∀ x ∈ xs, (Lit.int k x).wf = true
  | [], _ => ⟨[], rfl, rfl, fun x h => by cases h⟩
  | r :: rs, h => by
    obtain ⟨x, rfl, hx⟩ := h r List.mem_cons_self
    obtain ⟨xs, h1, h2, h3⟩ := rows_ints fun r hr => h r (List.mem_cons_of_mem _ hr)
    exact ⟨x :: xs, by simp [h1], by simp [h2], fun y hy => by
      rcases List.mem_cons.1 hy with rfl | hy
      · exact hx
      · exact h3 y hy⟩
/-- Integers that are bytes. -/
theorem bytes_of : ∀ {xs : List Int}, (∀ x ∈ xs, (Lit.int .u8 x).wf = true) → ∃ bs : List UInt8, xs.length = bs.length ∧ xs.map (PV.int .u8) = bs.map byteC
  | [], _ => ⟨[], rfl, rfl⟩
  | x :: xs, h => by
    obtain ⟨bs, h1, h2⟩ := bytes_of fun y hy => h y (List.mem_cons_of_mem _ hy)
    have hx := bounds_u8 (h x List.mem_cons_self)
    refine ⟨UInt8.ofNat x.toNat :: bs, by simp [h1], ?_⟩
    rw [List.map_cons, List.map_cons, h2]
    congr 1
    show PV.int .u8 x = .int .u8 _
    rw [UInt8.toNat_ofNat']
    congr 1; omega
theorem own : ownKnob Tryd.prog.godebug = none := by kernel_rfl
theorem laidOut : laidOutB Tryd.prog = true := by kernel_rfl
/-- The cells of a table. -/
def litV : DataW Unit → Value
  | .lit (.int k n) => .int k n
  | _ => Go.undef
def litVs : DataW Unit → List Value
  | .agg l => l.map litV
  | d => [litV d]
def tabVs : DataW Unit → List Value
  | .agg l => l.flatMap litVs
  | _ => []
def fillTab (l : List Value) : Obj → Obj
  | .cells _ t frozen => .cells l.toArray t frozen
  | o => o
/-- A world for the witness: the settled one, the listed tables laid. -/
noncomputable def laidWorld (os : Os) : World :=
  { World.holding Tryd.prog os ⟨#[], #[], []⟩ with heap := ((World.holding Tryd.prog os ⟨#[], #[], []⟩).heap.modify 0 (fillTab (tabVs Rows.laid_unicode_utf8_first))).modify 1 (fillTab (tabVs Rows.laid_unicode_utf8_acceptRanges)) }
theorem laid_met (os : Os) (args : Array Value) : laidMet Tryd.prog [("unicode/utf8.acceptRanges", Rows.laid_unicode_utf8_acceptRanges), ("unicode/utf8.first", Rows.laid_unicode_utf8_first)] ((laidWorld os).forCall (fun _ _ => 0) ⟨#[], args, []⟩).memory :=
  laidMet_of_run' 8 (by kernel_rfl) (by kernel_rfl)
theorem varsB (os : Os) (args : Array Value) : ((laidWorld os).forCall (fun _ _ => 0) ⟨#[], args, []⟩).variablesB Tryd.checked.prog = true := by kernel_rfl
theorem heapB (os : Os) (args : Array Value) : (((laidWorld os).forCall (fun _ _ => 0) ⟨#[], args, []⟩).heap.toList.drop Tryd.checked.prog.globals.size).take ((begin Tryd.checked.prog (fun _ _ => 0) default).world.heap.size - Tryd.checked.prog.globals.size) =
      (begin Tryd.checked.prog (fun _ _ => 0) default).world.heap.toList.drop Tryd.checked.prog.globals.size := by kernel_rfl
theorem noLooks : false = Tryd.prog.looks [] := by kernel_rfl
theorem plainOf {name : String} {k : Nat} {g : Func} (hn : Tryd.prog.funcNamed name = some k) (hg : Tryd.prog.funcs[k]? = some g) (hall : (g.params.toList.all fun t => Tryd.prog.wantsStandIn t == false) = true)
    (f : FuncId) (fn : Func) (hf : Tryd.pinned.checked.prog.funcNamed name = some f) (hfn : Tryd.pinned.checked.prog.funcs[f]? = some fn) :
    false = Tryd.pinned.checked.prog.looks [] ∧ ∀ (j : Nat) t, fn.params[j]? = some t → Tryd.pinned.checked.prog.wantsStandIn t = false := by
  obtain rfl : f = k := Option.some.inj (hn.symm.trans hf) |>.symm
  obtain rfl : fn = g := (Option.some.inj (hg.symm.trans hfn)).symm
  refine ⟨noLooks, fun j t ht => ?_⟩
  have h : Tryd.prog.wantsStandIn t = false := by simpa using List.all_eq_true.1 hall t (Array.mem_toList_iff.2 (Array.mem_of_getElem? ht))
  exact h
end Go.Proofs.YtbejjlmdmakdfaaDoor

set_option maxRecDepth 100000
namespace Go.Proofs.YtbejjlmdmakdfaaDoor
open Go Go.RowKit Ps
def msgTextsArgs : Array Value := #[.slice none 0 0]
def msgTextsData {H : Type} : List (DataW H) := [.nil]
theorem msgTexts_reads (os : Os) {H : Type} (enc : TypeId × Value → H) : ∃ places, DataW.whole enc Tryd.prog ((laidWorld os).forCall (fun _ _ => 0) ⟨#[], msgTextsArgs, []⟩).memory Tryd.f9.params.toList Rows.msgTextsSpec.vars false msgTextsArgs.toList 8 = some (msgTextsData, [], places) :=
  ⟨[], by kernel_rfl⟩
theorem msgTexts_call (xs : List PV) (h : RdA Tryd.prog reachBytes 3 Tryd.f9.params.toList xs) : CallOk Tryd.prog 9 xs [] fun r _ => r = .bool true := by
  obtain ⟨p1, _, rfl, h1, rfl⟩ := h
  obtain ⟨rs, rfl, _, _, hr⟩ : ∃ rs : List (List PV), p1 = [.slice rs.length rs.flatten none] ∧ rs.length * Tryd.prog.bytesOf 5 ≤ reachBytes ∧ rs.length ≤ 9223372036854775807 ∧ ∀ r ∈ rs, r.length = Tryd.prog.cellsOf 5 ∧ RdP Tryd.prog reachBytes 2 5 r := h1
  obtain ⟨xs, e1, e2, e3⟩ := rows_ints (k := .u8) fun r hr' => (hr r hr').2
  obtain ⟨bs, e4, e5⟩ := bytes_of e3
  rw [e1, e2, e4, e5]
  exact Tryd.c9 bs
theorem msgTexts_lifted (os : Os) (started : os.Started) (H : Type) (enc : TypeId × Value → H) (F : Stop.Interp) :
    ReturnsInHanded {} Tryd.checked os 9 .any ((OpenSpec.ofChange Rows.msgTextsSpec).preRow enc Tryd.prog Tryd.f9 Rows.msgTextsRow.domain false Rows.msgTextsRow.laid) (((OpenSpec.ofChange Rows.msgTextsSpec).at F).post enc Tryd.prog Tryd.f9 false true false false) := by
  obtain ⟨places, hx⟩ := msgTexts_reads os enc
  refine returnsInHanded_of_row (C := Tryd.checked) (s := OpenSpec.ofChange Rows.msgTextsSpec) own started (by kernel_rfl) Tryd.func9
    (witness_row_at (enc := enc) (C := Tryd.checked) false (laidWorld os) msgTextsArgs rfl (varsB os _) (heapB os _) (by kernel_rfl)
      (OpenSpec.preRow_of_cond 8 hx (by kernel_rfl) (fun k hk => by cases hk) (by kernel_rfl) (laid_met os _))) ?_
  intro W base args ds gs before hval hW _ _ hwt _ _ _
  exact law_true (n := 3) laidOut Tryd.func9 (by kernel_rfl) (by kernel_rfl) rfl (fun ds h => by
    match ds, h with
    | [_], _ => rfl) (by kernel_rfl) rfl Tryd.underlying4 msgTexts_call hval hW rfl hwt
theorem msgTexts_said : Rows.MsgTextsSaid :=
  OpenClaim.holds_of_cond 9 Tryd.f9 rfl rfl rfl rfl rfl rfl rfl ⟨rfl, rfl, rfl, rfl, rfl⟩ rfl rfl rfl rfl rfl (by kernel_rfl) Tryd.func9 (by kernel_rfl)
    (of_decide_eq_true (by kernel_rfl)) (by unfold Func.isWrapper; first | (rw [if_pos (by decide +kernel)]; kernel_rfl) | (rw [if_neg (by decide +kernel)]; exact ⟨rfl, rfl⟩))
    (fun os started H enc _ F => by rw [OpenClaim.pre_eq_preRow]; exact msgTexts_lifted os started H enc F)
/-- The card. -/
theorem msgTexts_card : Rows.MsgTextsCardSaid :=
  Claim7.holds_tied_plain_at .later [] _ _ _ _ msgTexts_said (fun _ h => by cases h) (by kernel_rfl) (fun _ h => by cases h) msgTexts_row_tie rfl ⟨rfl, rfl⟩ (by kernel_rfl) rfl (plainOf (name := "legate/legatelaw8.MsgTexts") (k := 9) (g := Tryd.f9) (by kernel_rfl) Tryd.func9 (by kernel_rfl)) (by kernel_rfl)
end Go.Proofs.YtbejjlmdmakdfaaDoor
