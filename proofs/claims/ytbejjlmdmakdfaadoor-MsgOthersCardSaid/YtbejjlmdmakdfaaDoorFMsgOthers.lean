/- MsgOthers: for every message and every number the law answers true, and both read as they did. No condition. -/
import Derived.Test.YtbejjlmdmakdfaaDoorA1
set_option linter.all false
set_option maxRecDepth 100000
namespace Go.Proofs.YtbejjlmdmakdfaaDoor
open Go Go.RowKit Ps
def msgOthersArgs : Array Value := #[.agg #[.int .i64 0, .string ⟨#[]⟩, .string ⟨#[]⟩, .string ⟨#[]⟩, .string ⟨#[]⟩, .int .i64 0, .int .i64 0, .string ⟨#[]⟩, .string ⟨#[]⟩, .int .i64 0, .slice none 0 0, .slice none 0 0, .string ⟨#[]⟩, .string ⟨#[]⟩, .int .i64 0, .int .i64 0, .string ⟨#[]⟩, .string ⟨#[]⟩, .string ⟨#[]⟩, .string ⟨#[]⟩, .int .i64 0, .slice none 0 0, .slice none 0 0, .string ⟨#[]⟩, .string ⟨#[]⟩, .int .i64 0, .slice none 0 0, .slice none 0 0, .int .i64 0, .int .i64 0], .int .i64 0]
def msgOthersData {H : Type} : List (DataW H) := [.agg [.lit (.int .i64 0), .agg [.agg [.lit (.string []), .lit (.string [])], .agg [.lit (.string []), .lit (.string [])], .lit (.int .i64 0), .lit (.int .i64 0)], .agg [.agg [.agg [.lit (.string []), .lit (.string [])], .lit (.int .i64 0), .nil], .nil, .agg [.lit (.string []), .lit (.string [])], .lit (.int .i64 0), .lit (.int .i64 0)], .agg [.agg [.lit (.string []), .lit (.string [])], .agg [.agg [.lit (.string []), .lit (.string [])], .lit (.int .i64 0), .nil], .nil], .agg [.agg [.agg [.lit (.string []), .lit (.string [])], .lit (.int .i64 0), .nil], .nil], .agg [.lit (.int .i64 0), .lit (.int .i64 0)]], .lit (.int .i64 0)]
theorem msgOthers_reads (os : Os) {H : Type} (enc : TypeId × Value → H) : ∃ places, DataW.whole enc Tryd.prog ((laidWorld os).forCall (fun _ _ => 0) ⟨#[], msgOthersArgs, []⟩).memory Tryd.f7.params.toList Rows.msgOthersSpec.vars false msgOthersArgs.toList 8 = some (msgOthersData, [], places) :=
  ⟨[], by kernel_rfl⟩
theorem msgOthers_call (xs : List PV) (h : RdA Tryd.prog reachBytes 5 Tryd.f7.params.toList xs) : CallOk Tryd.prog 7 xs [] fun r _ => r = .bool true := by
  obtain ⟨p1, _, rfl, h1, p2, _, rfl, h2, rfl⟩ := h
  obtain ⟨n, rfl, _⟩ := Tryd.rdInt h2
  obtain ⟨m, rfl, hm⟩ := Tryd.rdMsg h1
  exact (Tryd.c7 m n hm []).mono fun _ _ h => h.1
theorem msgOthers_lifted (os : Os) (started : os.Started) (H : Type) (enc : TypeId × Value → H) (F : Stop.Interp) :
    ReturnsInHanded {} Tryd.checked os 7 .any ((OpenSpec.ofChange Rows.msgOthersSpec).preRow enc Tryd.prog Tryd.f7 Rows.msgOthersRow.domain false Rows.msgOthersRow.laid) (((OpenSpec.ofChange Rows.msgOthersSpec).at F).post enc Tryd.prog Tryd.f7 false true false false) := by
  obtain ⟨places, hx⟩ := msgOthers_reads os enc
  refine returnsInHanded_of_row (C := Tryd.checked) (s := OpenSpec.ofChange Rows.msgOthersSpec) own started (by kernel_rfl) Tryd.func7
    (witness_row_at (enc := enc) (C := Tryd.checked) false (laidWorld os) msgOthersArgs rfl (varsB os _) (heapB os _) (by kernel_rfl)
      (OpenSpec.preRow_of_cond 8 hx (by kernel_rfl) (fun k hk => by cases hk) (by kernel_rfl) (laid_met os _))) ?_
  intro W base args ds gs before hval hW _ _ hwt _ _ _
  exact law_true (n := 5) laidOut Tryd.func7 (by kernel_rfl) (by kernel_rfl) rfl (fun ds h => by
    match ds, h with
    | [_, _], _ => rfl) (by kernel_rfl) rfl Tryd.underlying4 msgOthers_call hval hW rfl hwt
theorem msgOthers_said : Rows.MsgOthersSaid :=
  OpenClaim.holds_of_cond 7 Tryd.f7 rfl rfl rfl rfl rfl rfl rfl ⟨rfl, rfl, rfl, rfl, rfl⟩ rfl rfl rfl rfl rfl (by kernel_rfl) Tryd.func7 (by kernel_rfl)
    (of_decide_eq_true (by kernel_rfl)) (by unfold Func.isWrapper; first | (rw [if_pos (by decide +kernel)]; kernel_rfl) | (rw [if_neg (by decide +kernel)]; exact ⟨rfl, rfl⟩))
    (fun os started H enc _ F => by rw [OpenClaim.pre_eq_preRow]; exact msgOthers_lifted os started H enc F)
/-- The card. -/
theorem msgOthers_card : Rows.MsgOthersCardSaid :=
  Claim7.holds_tied_plain_at .later [] _ _ _ _ msgOthers_said (fun _ h => by cases h) (by kernel_rfl) (fun _ h => by cases h) msgOthers_row_tie rfl ⟨rfl, rfl⟩ (by kernel_rfl) rfl (plainOf (name := "legate/legatelaw8.MsgOthers") (k := 7) (g := Tryd.f7) (by kernel_rfl) Tryd.func7 (by kernel_rfl)) (by kernel_rfl)
end Go.Proofs.YtbejjlmdmakdfaaDoor
