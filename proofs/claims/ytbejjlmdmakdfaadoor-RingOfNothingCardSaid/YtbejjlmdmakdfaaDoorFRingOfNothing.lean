/- RingOfNothing: for every principal and every number the law answers true, and both read as they did. No condition. -/
import Derived.Test.YtbejjlmdmakdfaaDoorT19
import Derived.Test.YtbejjlmdmakdfaaDoorZ
set_option linter.all false
set_option linter.unusedVariables false
set_option linter.unusedSimpArgs false
set_option linter.unnecessarySimpa false
set_option maxRecDepth 100000
namespace Go.Proofs.YtbejjlmdmakdfaaDoor
open Go Go.RowKit Ps
def ringOfNothingArgs : Array Value := #[.agg #[.string ⟨#[]⟩, .string ⟨#[]⟩], .int .i64 0]
def ringOfNothingData {H : Type} : List (DataW H) := [.agg [.lit (.string []), .lit (.string [])], .lit (.int .i64 0)]
theorem ringOfNothing_reads (os : Os) {H : Type} (enc : TypeId × Value → H) : ∃ places, DataW.whole enc Tryd.prog ((laidWorld os).forCall (fun _ _ => 0) ⟨#[], ringOfNothingArgs, []⟩).memory Tryd.f6.params.toList Rows.ringOfNothingSpec.vars false ringOfNothingArgs.toList 8 = some (ringOfNothingData, [], places) :=
  ⟨[], by kernel_rfl⟩
theorem ringOfNothing_call (xs : List PV) (h : RdA Tryd.prog reachBytes 3 Tryd.f6.params.toList xs) : CallOk Tryd.prog 6 xs [] fun r _ => r = .bool true := by
  obtain ⟨p2, _, rfl, h2, p1, _, rfl, h1, rfl⟩ := h
  obtain ⟨n, rfl, _⟩ : ∃ i, p1 = [.int .i64 i] ∧ _ := h1
  obtain ⟨_, _, rfl, ⟨a, rfl, ha⟩, _, _, rfl, ⟨b, rfl, hb⟩, rfl⟩ : RdL (RdP Tryd.prog reachBytes 2) [_, _] p2 := h2
  exact Tryd.c6 n a b (Nat.le_trans ha (by decide)) (Nat.le_trans hb (by decide))
theorem ringOfNothing_lifted (os : Os) (started : os.Started) (H : Type) (enc : TypeId × Value → H) (F : Stop.Interp) :
    ReturnsInHanded {} Tryd.checked os 6 .any ((OpenSpec.ofChange Rows.ringOfNothingSpec).preRow enc Tryd.prog Tryd.f6 Rows.ringOfNothingRow.domain false Rows.ringOfNothingRow.laid) (((OpenSpec.ofChange Rows.ringOfNothingSpec).at F).post enc Tryd.prog Tryd.f6 false true false false) := by
  obtain ⟨places, hx⟩ := ringOfNothing_reads os enc
  refine returnsInHanded_of_row (C := Tryd.checked) (s := OpenSpec.ofChange Rows.ringOfNothingSpec) own started (by kernel_rfl) Tryd.func6
    (witness_row_at (enc := enc) (C := Tryd.checked) false (laidWorld os) ringOfNothingArgs rfl (varsB os _) (heapB os _) (by kernel_rfl)
      (OpenSpec.preRow_of_cond 8 hx (by kernel_rfl) (fun k hk => by cases hk) (by kernel_rfl) (laid_met os _))) ?_
  intro W base args ds gs before hval hW _ _ hwt _ _ _
  exact law_true (n := 3) laidOut Tryd.func6 (by kernel_rfl) (by kernel_rfl) rfl (fun ds h => by
    match ds, h with
    | [_, _], _ => rfl) (by kernel_rfl) rfl Tryd.underlying4 ringOfNothing_call hval hW rfl hwt
theorem ringOfNothing_said : Rows.RingOfNothingSaid :=
  OpenClaim.holds_of_cond 6 Tryd.f6 rfl rfl rfl rfl rfl rfl rfl ⟨rfl, rfl, rfl, rfl, rfl⟩ rfl rfl rfl rfl rfl (by kernel_rfl) Tryd.func6 (by kernel_rfl)
    (of_decide_eq_true (by kernel_rfl)) (by unfold Func.isWrapper; first | (rw [if_pos (by decide +kernel)]; kernel_rfl) | (rw [if_neg (by decide +kernel)]; exact ⟨rfl, rfl⟩))
    (fun os started H enc _ F => by rw [OpenClaim.pre_eq_preRow]; exact ringOfNothing_lifted os started H enc F)
/-- The card. -/
theorem ringOfNothing_card : Rows.RingOfNothingCardSaid :=
  Claim7.holds_tied_plain_at .later [] _ _ _ _ ringOfNothing_said (fun _ h => by cases h) (by kernel_rfl) (fun _ h => by cases h) ringOfNothing_row_tie rfl ⟨rfl, rfl⟩ (by kernel_rfl) rfl (plainOf (name := "legate/legatelaw9.RingOfNothing") (k := 6) (g := Tryd.f6) (by kernel_rfl) Tryd.func6 (by kernel_rfl)) (by kernel_rfl)
end Go.Proofs.YtbejjlmdmakdfaaDoor
