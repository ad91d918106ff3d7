/- RingOld: for every two bytes and every row of bytes the law answers true, and the row reads as it did. No condition. -/
import Derived.Test.YtbejjlmdmakdfaaGreatDoorA2
import Derived.Test.YtbejjlmdmakdfaaGreatDoorA0
set_option linter.all false
set_option maxRecDepth 100000
namespace Go.Proofs.YtbejjlmdmakdfaaGreatDoor
open Go Go.RowKit Ps
def ringOldArgs : Array Value := #[.int .u8 0, .int .u8 0, .slice none 0 0]
def ringOldData {H : Type} : List (DataW H) := [.lit (.int .u8 0), .lit (.int .u8 0), .nil]
theorem ringOld_reads (os : Os) {H : Type} (enc : TypeId × Value → H) : ∃ places, DataW.whole enc Tryz.prog ((laidWorld os).forCall (fun _ _ => 0) ⟨#[], ringOldArgs, []⟩).memory Tryz.f7.params.toList Rows.ringOldSpec.vars false ringOldArgs.toList 8 = some (ringOldData, [], places) :=
  ⟨[], by kernel_rfl⟩
theorem ringOld_call (xs : List PV) (h : RdA Tryz.prog reachBytes 3 Tryz.f7.params.toList xs) : CallOk Tryz.prog 7 xs [] fun r _ => r = .bool true := by
  obtain ⟨p1, _, rfl, h1, p2, _, rfl, h2, p3, _, rfl, h3, rfl⟩ := h
  obtain ⟨a, rfl⟩ := Tryz.rdByte1 h1
  obtain ⟨b, rfl⟩ := Tryz.rdByte1 h2
  obtain ⟨p, rfl, _⟩ := Tryz.rdBytes1 h3
  exact Tryz.c7 a b p
theorem ringOld_lifted (os : Os) (started : os.Started) (H : Type) (enc : TypeId × Value → H) (F : Stop.Interp) :
    ReturnsInHanded {} Tryz.checked os 7 .any ((OpenSpec.ofChange Rows.ringOldSpec).preRow enc Tryz.prog Tryz.f7 Rows.ringOldRow.domain false Rows.ringOldRow.laid) (((OpenSpec.ofChange Rows.ringOldSpec).at F).post enc Tryz.prog Tryz.f7 false true false false) := by
  obtain ⟨places, hx⟩ := ringOld_reads os enc
  refine returnsInHanded_of_row (C := Tryz.checked) (s := OpenSpec.ofChange Rows.ringOldSpec) own started (by kernel_rfl) Tryz.func7
    (witness_row_at (enc := enc) (C := Tryz.checked) false (laidWorld os) ringOldArgs rfl (varsB os _) (heapB os _) (by kernel_rfl)
      (OpenSpec.preRow_of_cond 8 hx (by kernel_rfl) (fun k hk => by cases hk) (by kernel_rfl) (laid_met os _))) ?_
  intro W base args ds gs before hval hW _ _ hwt _ _ _
  exact law_true (n := 3) laidOut Tryz.func7 (by kernel_rfl) (by kernel_rfl) rfl (fun ds h => by
    match ds, h with
    | [_, _, _], _ => rfl) (by kernel_rfl) rfl Tryz.underlying4 ringOld_call hval hW rfl hwt
theorem ringOld_said : Rows.RingOldSaid :=
  OpenClaim.holds_of_cond 7 Tryz.f7 rfl rfl rfl rfl rfl rfl rfl ⟨rfl, rfl, rfl, rfl, rfl⟩ rfl rfl rfl rfl rfl (by kernel_rfl) Tryz.func7 (by kernel_rfl)
    (of_decide_eq_true (by kernel_rfl)) (by unfold Func.isWrapper; first | (rw [if_pos (by decide +kernel)]; kernel_rfl) | (rw [if_neg (by decide +kernel)]; exact ⟨rfl, rfl⟩))
    (fun os started H enc _ F => by rw [OpenClaim.pre_eq_preRow]; exact ringOld_lifted os started H enc F)
/-- The card. -/
theorem ringOld_card : Rows.RingOldCardSaid :=
  Claim7.holds_tied_plain_at .later [] _ _ _ _ ringOld_said (fun _ h => by cases h) (by kernel_rfl) (fun _ h => by cases h) ringOld_row_tie rfl ⟨rfl, rfl⟩ (by kernel_rfl) rfl (plainOf (name := "legate/legatelaw9.RingOld") (k := 7) (g := Tryz.f7) (by kernel_rfl) Tryz.func7 (by kernel_rfl)) (by kernel_rfl)
end Go.Proofs.YtbejjlmdmakdfaaGreatDoor
