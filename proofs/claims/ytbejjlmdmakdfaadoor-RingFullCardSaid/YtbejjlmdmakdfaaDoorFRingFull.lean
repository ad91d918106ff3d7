/- RingFull: for every number and every principal the law answers true, and both read as they did. No condition. -/
import Derived.Test.YtbejjlmdmakdfaaDoorT18
import Derived.Test.YtbejjlmdmakdfaaDoorZ
set_option linter.all false
set_option linter.unusedVariables false
set_option linter.unusedSimpArgs false
set_option linter.unnecessarySimpa false
set_option maxRecDepth 100000
namespace Go.Proofs.YtbejjlmdmakdfaaDoor
open Go Go.RowKit Ps
def ringFullArgs : Array Value := #[.int .i64 0, .agg #[.string ⟨#[]⟩, .string ⟨#[]⟩]]
def ringFullData {H : Type} : List (DataW H) := [.lit (.int .i64 0), .agg [.lit (.string []), .lit (.string [])]]
theorem ringFull_reads (os : Os) {H : Type} (enc : TypeId × Value → H) : ∃ places, DataW.whole enc Tryd.prog ((laidWorld os).forCall (fun _ _ => 0) ⟨#[], ringFullArgs, []⟩).memory Tryd.f3.params.toList Rows.ringFullSpec.vars false ringFullArgs.toList 8 = some (ringFullData, [], places) :=
  ⟨[], by kernel_rfl⟩
theorem ringFull_call (xs : List PV) (h : RdA Tryd.prog reachBytes 3 Tryd.f3.params.toList xs) : CallOk Tryd.prog 3 xs [] fun r _ => r = .bool true := by
  obtain ⟨p1, _, rfl, h1, p2, _, rfl, h2, rfl⟩ := h
  obtain ⟨n, rfl, _⟩ : ∃ i, p1 = [.int .i64 i] ∧ _ := h1
  obtain ⟨_, _, rfl, ⟨a, rfl, ha⟩, _, _, rfl, ⟨b, rfl, hb⟩, rfl⟩ : RdL (RdP Tryd.prog reachBytes 2) [_, _] p2 := h2
  exact Tryd.c3 n a b (Nat.le_trans ha (by decide)) (Nat.le_trans hb (by decide))
theorem ringFull_lifted (os : Os) (started : os.Started) (H : Type) (enc : TypeId × Value → H) (F : Stop.Interp) :
    ReturnsInHanded {} Tryd.checked os 3 .any ((OpenSpec.ofChange Rows.ringFullSpec).preRow enc Tryd.prog Tryd.f3 Rows.ringFullRow.domain false Rows.ringFullRow.laid) (((OpenSpec.ofChange Rows.ringFullSpec).at F).post enc Tryd.prog Tryd.f3 false true false false) := by
  obtain ⟨places, hx⟩ := ringFull_reads os enc
  refine returnsInHanded_of_row (C := Tryd.checked) (s := OpenSpec.ofChange Rows.ringFullSpec) own started (by kernel_rfl) Tryd.func3
    (witness_row_at (enc := enc) (C := Tryd.checked) false (laidWorld os) ringFullArgs rfl (varsB os _) (heapB os _) (by kernel_rfl)
      (OpenSpec.preRow_of_cond 8 hx (by kernel_rfl) (fun k hk => by cases hk) (by kernel_rfl) (laid_met os _))) ?_
  intro W base args ds gs before hval hW _ _ hwt _ _ _
  exact law_true (n := 3) laidOut Tryd.func3 (by kernel_rfl) (by kernel_rfl) rfl (fun ds h => by
    match ds, h with
    | [_, _], _ => rfl) (by kernel_rfl) rfl Tryd.underlying4 ringFull_call hval hW rfl hwt
theorem ringFull_said : Rows.RingFullSaid :=
  OpenClaim.holds_of_cond 3 Tryd.f3 rfl rfl rfl rfl rfl rfl rfl ⟨rfl, rfl, rfl, rfl, rfl⟩ rfl rfl rfl rfl rfl (by kernel_rfl) Tryd.func3 (by kernel_rfl)
    (of_decide_eq_true (by kernel_rfl)) (by unfold Func.isWrapper; first | (rw [if_pos (by decide +kernel)]; kernel_rfl) | (rw [if_neg (by decide +kernel)]; exact ⟨rfl, rfl⟩))
    (fun os started H enc _ F => by rw [OpenClaim.pre_eq_preRow]; exact ringFull_lifted os started H enc F)
/-- The card. -/
theorem ringFull_card : Rows.RingFullCardSaid :=
  Claim7.holds_tied_plain_at .later [] _ _ _ _ ringFull_said (fun _ h => by cases h) (by kernel_rfl) (fun _ h => by cases h) ringFull_row_tie rfl ⟨rfl, rfl⟩ (by kernel_rfl) rfl (plainOf (name := "legate/legatelaw9.RingFull") (k := 3) (g := Tryd.f3) (by kernel_rfl) Tryd.func3 (by kernel_rfl)) (by kernel_rfl)
end Go.Proofs.YtbejjlmdmakdfaaDoor
