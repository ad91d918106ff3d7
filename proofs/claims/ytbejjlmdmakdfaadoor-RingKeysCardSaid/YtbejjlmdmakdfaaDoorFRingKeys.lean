/- RingKeys: for every row of bytes the law answers true, and the row reads as it did. No condition. -/
import Derived.Test.YtbejjlmdmakdfaaDoorT22
import Derived.Test.YtbejjlmdmakdfaaDoorZ
set_option linter.all false
set_option linter.unusedVariables false
set_option linter.unusedSimpArgs false
set_option linter.unnecessarySimpa false
set_option maxRecDepth 100000
namespace Go.Proofs.YtbejjlmdmakdfaaDoor
open Go Go.RowKit Ps
def ringKeysArgs : Array Value := #[.slice none 0 0]
def ringKeysData {H : Type} : List (DataW H) := [.nil]
theorem ringKeys_reads (os : Os) {H : Type} (enc : TypeId × Value → H) : ∃ places, DataW.whole enc Tryd.prog ((laidWorld os).forCall (fun _ _ => 0) ⟨#[], ringKeysArgs, []⟩).memory Tryd.f5.params.toList Rows.ringKeysSpec.vars false ringKeysArgs.toList 8 = some (ringKeysData, [], places) :=
  ⟨[], by kernel_rfl⟩
theorem ringKeys_call (xs : List PV) (h : RdA Tryd.prog reachBytes 3 Tryd.f5.params.toList xs) : CallOk Tryd.prog 5 xs [] fun r _ => r = .bool true := by
  obtain ⟨p1, _, rfl, h1, rfl⟩ := h
  obtain ⟨rs, rfl, _, _, hr⟩ : ∃ rs : List (List PV), p1 = [.slice rs.length rs.flatten none] ∧ rs.length * Tryd.prog.bytesOf 5 ≤ reachBytes ∧ rs.length ≤ 9223372036854775807 ∧ ∀ r ∈ rs, r.length = Tryd.prog.cellsOf 5 ∧ RdP Tryd.prog reachBytes 2 5 r := h1
  obtain ⟨xs, e1, e2, e3⟩ := rows_ints (k := .u8) fun r hr' => (hr r hr').2
  obtain ⟨bs, e4, e5⟩ := bytes_of e3
  rw [e1, e2, e4, e5]
  exact Tryd.c5 bs
theorem ringKeys_lifted (os : Os) (started : os.Started) (H : Type) (enc : TypeId × Value → H) (F : Stop.Interp) :
    ReturnsInHanded {} Tryd.checked os 5 .any ((OpenSpec.ofChange Rows.ringKeysSpec).preRow enc Tryd.prog Tryd.f5 Rows.ringKeysRow.domain false Rows.ringKeysRow.laid) (((OpenSpec.ofChange Rows.ringKeysSpec).at F).post enc Tryd.prog Tryd.f5 false true false false) := by
  obtain ⟨places, hx⟩ := ringKeys_reads os enc
  refine returnsInHanded_of_row (C := Tryd.checked) (s := OpenSpec.ofChange Rows.ringKeysSpec) own started (by kernel_rfl) Tryd.func5
    (witness_row_at (enc := enc) (C := Tryd.checked) false (laidWorld os) ringKeysArgs rfl (varsB os _) (heapB os _) (by kernel_rfl)
      (OpenSpec.preRow_of_cond 8 hx (by kernel_rfl) (fun k hk => by cases hk) (by kernel_rfl) (laid_met os _))) ?_
  intro W base args ds gs before hval hW _ _ hwt _ _ _
  exact law_true (n := 3) laidOut Tryd.func5 (by kernel_rfl) (by kernel_rfl) rfl (fun ds h => by
    match ds, h with
    | [_], _ => rfl) (by kernel_rfl) rfl Tryd.underlying4 ringKeys_call hval hW rfl hwt
theorem ringKeys_said : Rows.RingKeysSaid :=
  OpenClaim.holds_of_cond 5 Tryd.f5 rfl rfl rfl rfl rfl rfl rfl ⟨rfl, rfl, rfl, rfl, rfl⟩ rfl rfl rfl rfl rfl (by kernel_rfl) Tryd.func5 (by kernel_rfl)
    (of_decide_eq_true (by kernel_rfl)) (by unfold Func.isWrapper; first | (rw [if_pos (by decide +kernel)]; kernel_rfl) | (rw [if_neg (by decide +kernel)]; exact ⟨rfl, rfl⟩))
    (fun os started H enc _ F => by rw [OpenClaim.pre_eq_preRow]; exact ringKeys_lifted os started H enc F)
/-- The card. -/
theorem ringKeys_card : Rows.RingKeysCardSaid :=
  Claim7.holds_tied_plain_at .later [] _ _ _ _ ringKeys_said (fun _ h => by cases h) (by kernel_rfl) (fun _ h => by cases h) ringKeys_row_tie rfl ⟨rfl, rfl⟩ (by kernel_rfl) rfl (plainOf (name := "legate/legatelaw9.RingKeys") (k := 5) (g := Tryd.f5) (by kernel_rfl) Tryd.func5 (by kernel_rfl)) (by kernel_rfl)
end Go.Proofs.YtbejjlmdmakdfaaDoor
