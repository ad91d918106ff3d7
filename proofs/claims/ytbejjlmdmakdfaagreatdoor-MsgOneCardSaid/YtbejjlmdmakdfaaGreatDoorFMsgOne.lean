/- MsgOne: for every two rows of bytes and every number the law answers true, and the rows read as they did. No condition. -/
import Derived.Test.YtbejjlmdmakdfaaGreatDoorA3
import Derived.Test.YtbejjlmdmakdfaaGreatDoorA1
set_option linter.all false
set_option maxRecDepth 100000
namespace Go.Proofs.YtbejjlmdmakdfaaGreatDoor
open Go Go.RowKit Ps
def msgOneArgs : Array Value := #[.slice none 0 0, .int .i64 0, .slice none 0 0]
def msgOneData {H : Type} : List (DataW H) := [.nil, .lit (.int .i64 0), .nil]
theorem msgOne_reads (os : Os) {H : Type} (enc : TypeId × Value → H) : ∃ places, DataW.whole enc Tryz.prog ((laidWorld os).forCall (fun _ _ => 0) ⟨#[], msgOneArgs, []⟩).memory Tryz.f3.params.toList Rows.msgOneSpec.vars false msgOneArgs.toList 8 = some (msgOneData, [], places) :=
  ⟨[], by kernel_rfl⟩
theorem msgOne_call (xs : List PV) (h : RdA Tryz.prog reachBytes 3 Tryz.f3.params.toList xs) : CallOk Tryz.prog 3 xs [] fun r _ => r = .bool true := by
  obtain ⟨p1, _, rfl, h1, p2, _, rfl, h2, p3, _, rfl, h3, rfl⟩ := h
  obtain ⟨b, rfl, _⟩ := Tryz.rdBytes h1
  obtain ⟨n, rfl, _⟩ := Tryz.rdInt h2
  obtain ⟨r, rfl, _⟩ := Tryz.rdBytes h3
  exact Tryz.c3 b n r
theorem msgOne_lifted (os : Os) (started : os.Started) (H : Type) (enc : TypeId × Value → H) (F : Stop.Interp) :
    ReturnsInHanded {} Tryz.checked os 3 .any ((OpenSpec.ofChange Rows.msgOneSpec).preRow enc Tryz.prog Tryz.f3 Rows.msgOneRow.domain false Rows.msgOneRow.laid) (((OpenSpec.ofChange Rows.msgOneSpec).at F).post enc Tryz.prog Tryz.f3 false true false false) := by
  obtain ⟨places, hx⟩ := msgOne_reads os enc
  refine returnsInHanded_of_row (C := Tryz.checked) (s := OpenSpec.ofChange Rows.msgOneSpec) own started (by kernel_rfl) Tryz.func3
    (witness_row_at (enc := enc) (C := Tryz.checked) false (laidWorld os) msgOneArgs rfl (varsB os _) (heapB os _) (by kernel_rfl)
      (OpenSpec.preRow_of_cond 8 hx (by kernel_rfl) (fun k hk => by cases hk) (by kernel_rfl) (laid_met os _))) ?_
  intro W base args ds gs before hval hW _ _ hwt _ _ _
  exact law_true (n := 3) laidOut Tryz.func3 (by kernel_rfl) (by kernel_rfl) rfl (fun ds h => by
    match ds, h with
    | [_, _, _], _ => rfl) (by kernel_rfl) rfl Tryz.underlying4 msgOne_call hval hW rfl hwt
theorem msgOne_said : Rows.MsgOneSaid :=
  OpenClaim.holds_of_cond 3 Tryz.f3 rfl rfl rfl rfl rfl rfl rfl ⟨rfl, rfl, rfl, rfl, rfl⟩ rfl rfl rfl rfl rfl (by kernel_rfl) Tryz.func3 (by kernel_rfl)
    (of_decide_eq_true (by kernel_rfl)) (by unfold Func.isWrapper; first | (rw [if_pos (by decide +kernel)]; kernel_rfl) | (rw [if_neg (by decide +kernel)]; exact ⟨rfl, rfl⟩))
    (fun os started H enc _ F => by rw [OpenClaim.pre_eq_preRow]; exact msgOne_lifted os started H enc F)
/-- The card. -/
theorem msgOne_card : Rows.MsgOneCardSaid :=
  Claim7.holds_tied_plain_at .later [] _ _ _ _ msgOne_said (fun _ h => by cases h) (by kernel_rfl) (fun _ h => by cases h) msgOne_row_tie rfl ⟨rfl, rfl⟩ (by kernel_rfl) rfl (plainOf (name := "legate/legatelaw8.MsgOne") (k := 3) (g := Tryz.f3) (by kernel_rfl) Tryz.func3 (by kernel_rfl)) (by kernel_rfl)
end Go.Proofs.YtbejjlmdmakdfaaGreatDoor
