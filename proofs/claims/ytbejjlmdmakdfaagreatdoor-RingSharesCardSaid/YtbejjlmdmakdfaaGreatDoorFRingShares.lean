/- RingShares: for every two numbers the law answers true. No condition. -/
import Derived.Test.YtbejjlmdmakdfaaGreatDoorA0
import Derived.Test.YtbejjlmdmakdfaaGreatDoorCards
import Derived.Test.YtbejjlmdmakdfaaGreatDoorTie
import Derived.WalkKit
import Derived.ProofKit
import Derived.OpenShut
import Derived.Deep.DeepHandedRow
import Derived.Lib.LaidTab
import Derived.Test.YtbejjlmdmakdfaaGreatDoorA1
set_option linter.all false
set_option maxRecDepth 100000
namespace Go.Proofs.YtbejjlmdmakdfaaGreatDoor
open Go Go.RowKit Ps
theorem rows_ints {k : IntKind} : ∀ {rs : List (List PV)}, (∀ r ∈ rs, ∃ x, r = [.int k x] ∧ (Lit.int k x).wf = true) → ∃ xs : List Int, rs.length = xs.length ∧ rs.flatten = xs.map (.int k) ∧ ∀ x ∈ xs, (Lit.int k x).wf = true
  | [], _ => ⟨[], rfl, rfl, fun x h => by cases h⟩
  | r :: rs, h => by
    obtain ⟨x, rfl, hx⟩ := h r List.mem_cons_self
    obtain ⟨xs, h1, h2, h3⟩ := rows_ints fun r hr => h r (List.mem_cons_of_mem _ hr)
    exact ⟨x :: xs, by simp [h1], by simp [h2], fun y hy => by
      rcases List.mem_cons.1 hy with rfl | hy
      · exact hx
      · exact h3 y hy⟩
/-- Integers that are bytes. -/
theorem bytes_of : ∀ {xs : List Int}, (∀ x ∈ xs, (Lit.int .u8 x).wf = true) → ∃ bs : List UInt8, xs.length = bs.length ∧ xs.map (PV.int .u8) = bs.map byteC
  | [], _ => ⟨[], rfl, rfl⟩
  | x :: xs, h => by
    obtain ⟨bs, h1, h2⟩ := bytes_of fun y hy => h y (List.mem_cons_of_mem _ hy)
    have hx := bounds_u8 (h x List.mem_cons_self)
    refine ⟨UInt8.ofNat x.toNat :: bs, by simp [h1], ?_⟩
    rw [List.map_cons, List.map_cons, h2]
    congr 1
    show PV.int .u8 x = .int .u8 _
    rw [UInt8.toNat_ofNat']
    congr 1; omega
theorem own : ownKnob Tryz.prog.godebug = none := by kernel_rfl
theorem laidOut : laidOutB Tryz.prog = true := by kernel_rfl
/-- The cells of a table. -/
def litV : DataW Unit → Value
  | .lit (.int k n) => .int k n
  | _ => Go.undef
def litVs : DataW Unit → List Value
  | .agg l => l.map litV
  | d => [litV d]
def tabVs : DataW Unit → List Value
  | .agg l => l.flatMap litVs
  | _ => []
def fillTab (l : List Value) : Obj → Obj
  | .cells _ t frozen => .cells l.toArray t frozen
  | o => o
/-- A world for the witness: the settled one, the listed tables laid. -/
noncomputable def laidWorld (os : Os) : World :=
  { World.holding Tryz.prog os ⟨#[], #[], []⟩ with heap := ((World.holding Tryz.prog os ⟨#[], #[], []⟩).heap.modify 0 (fillTab (tabVs Rows.laid_unicode_utf8_first))).modify 1 (fillTab (tabVs Rows.laid_unicode_utf8_acceptRanges)) }
theorem laid_met (os : Os) (args : Array Value) : laidMet Tryz.prog [("unicode/utf8.acceptRanges", Rows.laid_unicode_utf8_acceptRanges), ("unicode/utf8.first", Rows.laid_unicode_utf8_first)] ((laidWorld os).forCall (fun _ _ => 0) ⟨#[], args, []⟩).memory :=
  laidMet_of_run' 8 (by kernel_rfl) (by kernel_rfl)
theorem varsB (os : Os) (args : Array Value) : ((laidWorld os).forCall (fun _ _ => 0) ⟨#[], args, []⟩).variablesB Tryz.checked.prog = true := by kernel_rfl
theorem heapB (os : Os) (args : Array Value) : (((laidWorld os).forCall (fun _ _ => 0) ⟨#[], args, []⟩).heap.toList.drop Tryz.checked.prog.globals.size).take ((begin Tryz.checked.prog (fun _ _ => 0) default).world.heap.size - Tryz.checked.prog.globals.size) =
      (begin Tryz.checked.prog (fun _ _ => 0) default).world.heap.toList.drop Tryz.checked.prog.globals.size := by kernel_rfl
theorem noLooks : false = Tryz.prog.looks [] := by kernel_rfl
theorem plainOf {name : String} {k : Nat} {g : Func} (hn : Tryz.prog.funcNamed name = some k) (hg : Tryz.prog.funcs[k]? = some g) (hall : (g.params.toList.all fun t => Tryz.prog.wantsStandIn t == false) = true)
    (f : FuncId) (fn : Func) (hf : Tryz.pinned.checked.prog.funcNamed name = some f) (hfn : Tryz.pinned.checked.prog.funcs[f]? = some fn) :
    false = Tryz.pinned.checked.prog.looks [] ∧ ∀ (j : Nat) t, fn.params[j]? = some t → Tryz.pinned.checked.prog.wantsStandIn t = false := by
  obtain rfl : f = k := Option.some.inj (hn.symm.trans hf) |>.symm
  obtain rfl : fn = g := (Option.some.inj (hg.symm.trans hfn)).symm
  refine ⟨noLooks, fun j t ht => ?_⟩
  have h : Tryz.prog.wantsStandIn t = false := by simpa using List.all_eq_true.1 hall t (Array.mem_toList_iff.2 (Array.mem_of_getElem? ht))
  exact h
end Go.Proofs.YtbejjlmdmakdfaaGreatDoor

set_option maxRecDepth 100000
namespace Go.Proofs.YtbejjlmdmakdfaaGreatDoor
open Go Go.RowKit Ps
def ringSharesArgs : Array Value := #[.int .i64 0, .int .i64 0]
def ringSharesData {H : Type} : List (DataW H) := [.lit (.int .i64 0), .lit (.int .i64 0)]
theorem ringShares_reads (os : Os) {H : Type} (enc : TypeId × Value → H) : ∃ places, DataW.whole enc Tryz.prog ((laidWorld os).forCall (fun _ _ => 0) ⟨#[], ringSharesArgs, []⟩).memory Tryz.f8.params.toList Rows.ringSharesSpec.vars false ringSharesArgs.toList 8 = some (ringSharesData, [], places) :=
  ⟨[], by kernel_rfl⟩
theorem ringShares_call (xs : List PV) (h : RdA Tryz.prog reachBytes 3 Tryz.f8.params.toList xs) : CallOk Tryz.prog 8 xs [] fun r _ => r = .bool true := by
  obtain ⟨p1, _, rfl, h1, p2, _, rfl, h2, rfl⟩ := h
  obtain ⟨n, rfl, _⟩ : ∃ i, p1 = [.int .i64 i] ∧ _ := h1
  obtain ⟨m, rfl, _⟩ : ∃ i, p2 = [.int .i64 i] ∧ _ := h2
  exact Tryz.c8 n m
theorem ringShares_lifted (os : Os) (started : os.Started) (H : Type) (enc : TypeId × Value → H) (F : Stop.Interp) :
    ReturnsInHanded {} Tryz.checked os 8 .any ((OpenSpec.ofChange Rows.ringSharesSpec).preRow enc Tryz.prog Tryz.f8 Rows.ringSharesRow.domain false Rows.ringSharesRow.laid) (((OpenSpec.ofChange Rows.ringSharesSpec).at F).post enc Tryz.prog Tryz.f8 false true false false) := by
  obtain ⟨places, hx⟩ := ringShares_reads os enc
  refine returnsInHanded_of_row (C := Tryz.checked) (s := OpenSpec.ofChange Rows.ringSharesSpec) own started (by kernel_rfl) Tryz.func8
    (witness_row_at (enc := enc) (C := Tryz.checked) false (laidWorld os) ringSharesArgs rfl (varsB os _) (heapB os _) (by kernel_rfl)
      (OpenSpec.preRow_of_cond 8 hx (by kernel_rfl) (fun k hk => by cases hk) (by kernel_rfl) (laid_met os _))) ?_
  intro W base args ds gs before hval hW _ _ hwt _ _ _
  exact law_true (n := 3) laidOut Tryz.func8 (by kernel_rfl) (by kernel_rfl) rfl (fun ds h => by
    match ds, h with
    | [_, _], _ => rfl) (by kernel_rfl) rfl Tryz.underlying4 ringShares_call hval hW rfl hwt
theorem ringShares_said : Rows.RingSharesSaid :=
  OpenClaim.holds_of_cond 8 Tryz.f8 rfl rfl rfl rfl rfl rfl rfl ⟨rfl, rfl, rfl, rfl, rfl⟩ rfl rfl rfl rfl rfl (by kernel_rfl) Tryz.func8 (by kernel_rfl)
    (of_decide_eq_true (by kernel_rfl)) (by unfold Func.isWrapper; first | (rw [if_pos (by decide +kernel)]; kernel_rfl) | (rw [if_neg (by decide +kernel)]; exact ⟨rfl, rfl⟩))
    (fun os started H enc _ F => by rw [OpenClaim.pre_eq_preRow]; exact ringShares_lifted os started H enc F)
/-- The card. -/
theorem ringShares_card : Rows.RingSharesCardSaid :=
  Claim7.holds_tied_plain_at .later [] _ _ _ _ ringShares_said (fun _ h => by cases h) (by kernel_rfl) (fun _ h => by cases h) ringShares_row_tie rfl ⟨rfl, rfl⟩ (by kernel_rfl) rfl (plainOf (name := "legate/legatelaw9.RingShares") (k := 8) (g := Tryz.f8) (by kernel_rfl) Tryz.func8 (by kernel_rfl)) (by kernel_rfl)
end Go.Proofs.YtbejjlmdmakdfaaGreatDoor
