/- RingNumbers: for every list of numbers the law answers true, and the list reads as it did. No condition. -/
import Derived.Test.YtbejjlmdmakdfaaDoorT20
import Derived.Test.YtbejjlmdmakdfaaDoorZ
set_option linter.all false
set_option linter.unusedVariables false
set_option linter.unusedSimpArgs false
set_option linter.unnecessarySimpa false
set_option maxRecDepth 100000
namespace Go.Proofs.YtbejjlmdmakdfaaDoor
open Go Go.RowKit Ps
def ringNumbersArgs : Array Value := #[.slice none 0 0]
def ringNumbersData {H : Type} : List (DataW H) := [.nil]
theorem ringNumbers_reads (os : Os) {H : Type} (enc : TypeId × Value → H) : ∃ places, DataW.whole enc Tryd.prog ((laidWorld os).forCall (fun _ _ => 0) ⟨#[], ringNumbersArgs, []⟩).memory Tryd.f4.params.toList Rows.ringNumbersSpec.vars false ringNumbersArgs.toList 8 = some (ringNumbersData, [], places) :=
  ⟨[], by kernel_rfl⟩
theorem ringNumbers_call (xs : List PV) (h : RdA Tryd.prog reachBytes 3 Tryd.f4.params.toList xs) : CallOk Tryd.prog 4 xs [] fun r _ => r = .bool true := by
  obtain ⟨p1, _, rfl, h1, rfl⟩ := h
  obtain ⟨rs, rfl, _, _, hr⟩ : ∃ rs : List (List PV), p1 = [.slice rs.length rs.flatten none] ∧ rs.length * Tryd.prog.bytesOf 3 ≤ reachBytes ∧ rs.length ≤ 9223372036854775807 ∧ ∀ r ∈ rs, r.length = Tryd.prog.cellsOf 3 ∧ RdP Tryd.prog reachBytes 2 3 r := h1
  obtain ⟨xs, e1, e2, _⟩ := rows_ints (k := .i64) fun r hr' => (hr r hr').2
  rw [e1, e2]
  exact Tryd.c4 xs
theorem ringNumbers_lifted (os : Os) (started : os.Started) (H : Type) (enc : TypeId × Value → H) (F : Stop.Interp) :
    ReturnsInHanded {} Tryd.checked os 4 .any ((OpenSpec.ofChange Rows.ringNumbersSpec).preRow enc Tryd.prog Tryd.f4 Rows.ringNumbersRow.domain false Rows.ringNumbersRow.laid) (((OpenSpec.ofChange Rows.ringNumbersSpec).at F).post enc Tryd.prog Tryd.f4 false true false false) := by
  obtain ⟨places, hx⟩ := ringNumbers_reads os enc
  refine returnsInHanded_of_row (C := Tryd.checked) (s := OpenSpec.ofChange Rows.ringNumbersSpec) own started (by kernel_rfl) Tryd.func4
    (witness_row_at (enc := enc) (C := Tryd.checked) false (laidWorld os) ringNumbersArgs rfl (varsB os _) (heapB os _) (by kernel_rfl)
      (OpenSpec.preRow_of_cond 8 hx (by kernel_rfl) (fun k hk => by cases hk) (by kernel_rfl) (laid_met os _))) ?_
  intro W base args ds gs before hval hW _ _ hwt _ _ _
  exact law_true (n := 3) laidOut Tryd.func4 (by kernel_rfl) (by kernel_rfl) rfl (fun ds h => by
    match ds, h with
    | [_], _ => rfl) (by kernel_rfl) rfl Tryd.underlying4 ringNumbers_call hval hW rfl hwt
theorem ringNumbers_said : Rows.RingNumbersSaid :=
  OpenClaim.holds_of_cond 4 Tryd.f4 rfl rfl rfl rfl rfl rfl rfl ⟨rfl, rfl, rfl, rfl, rfl⟩ rfl rfl rfl rfl rfl (by kernel_rfl) Tryd.func4 (by kernel_rfl)
    (of_decide_eq_true (by kernel_rfl)) (by unfold Func.isWrapper; first | (rw [if_pos (by decide +kernel)]; kernel_rfl) | (rw [if_neg (by decide +kernel)]; exact ⟨rfl, rfl⟩))
    (fun os started H enc _ F => by rw [OpenClaim.pre_eq_preRow]; exact ringNumbers_lifted os started H enc F)
/-- The card. -/
theorem ringNumbers_card : Rows.RingNumbersCardSaid :=
  Claim7.holds_tied_plain_at .later [] _ _ _ _ ringNumbers_said (fun _ h => by cases h) (by kernel_rfl) (fun _ h => by cases h) ringNumbers_row_tie rfl ⟨rfl, rfl⟩ (by kernel_rfl) rfl (plainOf (name := "legate/legatelaw9.RingNumbers") (k := 4) (g := Tryd.f4) (by kernel_rfl) Tryd.func4 (by kernel_rfl)) (by kernel_rfl)
end Go.Proofs.YtbejjlmdmakdfaaDoor
