/- RingPlays: for every row of acts the law answers true, and it reads as it did. No condition. -/
import Derived.Test.YtbejjlmdmakdfaaGreatDoorA3
import Derived.Test.YtbejjlmdmakdfaaGreatDoorA2
import Derived.Test.YtbejjlmdmakdfaaGreatDoorA0
set_option linter.all false
set_option maxRecDepth 100000
namespace Go.Proofs.YtbejjlmdmakdfaaGreatDoor
open Go Go.RowKit Ps
def ringPlaysArgs : Array Value := #[.slice none 0 0]
def ringPlaysData {H : Type} : List (DataW H) := [.nil]
theorem ringPlays_reads (os : Os) {H : Type} (enc : TypeId × Value → H) : ∃ places, DataW.whole enc Tryz.prog ((laidWorld os).forCall (fun _ _ => 0) ⟨#[], ringPlaysArgs, []⟩).memory Tryz.f5.params.toList Rows.ringPlaysSpec.vars false ringPlaysArgs.toList 8 = some (ringPlaysData, [], places) :=
  ⟨[], by kernel_rfl⟩
theorem ringPlays_call (xs : List PV) (h : RdA Tryz.prog reachBytes 5 Tryz.f5.params.toList xs) : CallOk Tryz.prog 5 xs [] fun r _ => r = .bool true := by
  obtain ⟨p1, _, rfl, h1, rfl⟩ := h
  obtain ⟨l, rfl, hl, hb⟩ := Tryz.rdActs h1
  exact Tryz.c5 l (Nat.le_trans hl (by decide)) fun a ha => ⟨Nat.le_trans (hb a ha).1 (by decide), Nat.le_trans (hb a ha).2 (by decide)⟩
theorem ringPlays_lifted (os : Os) (started : os.Started) (H : Type) (enc : TypeId × Value → H) (F : Stop.Interp) :
    ReturnsInHanded {} Tryz.checked os 5 .any ((OpenSpec.ofChange Rows.ringPlaysSpec).preRow enc Tryz.prog Tryz.f5 Rows.ringPlaysRow.domain false Rows.ringPlaysRow.laid) (((OpenSpec.ofChange Rows.ringPlaysSpec).at F).post enc Tryz.prog Tryz.f5 false true false false) := by
  obtain ⟨places, hx⟩ := ringPlays_reads os enc
  refine returnsInHanded_of_row (C := Tryz.checked) (s := OpenSpec.ofChange Rows.ringPlaysSpec) own started (by kernel_rfl) Tryz.func5
    (witness_row_at (enc := enc) (C := Tryz.checked) false (laidWorld os) ringPlaysArgs rfl (varsB os _) (heapB os _) (by kernel_rfl)
      (OpenSpec.preRow_of_cond 8 hx (by kernel_rfl) (fun k hk => by cases hk) (by kernel_rfl) (laid_met os _))) ?_
  intro W base args ds gs before hval hW _ _ hwt _ _ _
  exact law_true (n := 5) laidOut Tryz.func5 (by kernel_rfl) (by kernel_rfl) rfl (fun ds h => by
    match ds, h with
    | [_], _ => rfl) (by kernel_rfl) rfl Tryz.underlying4 ringPlays_call hval hW rfl hwt
theorem ringPlays_said : Rows.RingPlaysSaid :=
  OpenClaim.holds_of_cond 5 Tryz.f5 rfl rfl rfl rfl rfl rfl rfl ⟨rfl, rfl, rfl, rfl, rfl⟩ rfl rfl rfl rfl rfl (by kernel_rfl) Tryz.func5 (by kernel_rfl)
    (of_decide_eq_true (by kernel_rfl)) (by unfold Func.isWrapper; first | (rw [if_pos (by decide +kernel)]; kernel_rfl) | (rw [if_neg (by decide +kernel)]; exact ⟨rfl, rfl⟩))
    (fun os started H enc _ F => by rw [OpenClaim.pre_eq_preRow]; exact ringPlays_lifted os started H enc F)
/-- The card. -/
theorem ringPlays_card : Rows.RingPlaysCardSaid :=
  Claim7.holds_tied_plain_at .later [] _ _ _ _ ringPlays_said (fun _ h => by cases h) (by kernel_rfl) (fun _ h => by cases h) ringPlays_row_tie rfl ⟨rfl, rfl⟩ (by kernel_rfl) rfl (plainOf (name := "legate/legatelaw9.RingPlays") (k := 5) (g := Tryz.f5) (by kernel_rfl) Tryz.func5 (by kernel_rfl)) (by kernel_rfl)
end Go.Proofs.YtbejjlmdmakdfaaGreatDoor
