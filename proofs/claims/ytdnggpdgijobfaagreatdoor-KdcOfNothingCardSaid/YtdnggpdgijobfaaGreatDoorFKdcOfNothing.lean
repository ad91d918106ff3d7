/- KdcOfNothing: for every text and every row of bytes the law answers true, and the row reads as it did. No condition. -/
import Derived.Test.YtdnggpdgijobfaaGreatDoorA5
import Derived.ClosedOfChecked
set_option linter.all false
set_option maxRecDepth 100000
namespace Go.Proofs.YtdnggpdgijobfaaGreatDoor
open Go Go.RowKit Ps
theorem and_l {a b : Bool} (h : (a && b) = true) : a = true := (Bool.and_eq_true_iff.1 h).1
theorem and_r {a b : Bool} (h : (a && b) = true) : b = true := (Bool.and_eq_true_iff.1 h).2
theorem and2 {a b : Bool} (h : a = true) (k : b = true) : (a && b) = true := Bool.and_eq_true_iff.2 ⟨h, k⟩
theorem cl1 : Tryz.checked.prog.types = Tryz.checked.src.types := by kernel_rfl
theorem cl2 : (Tryz.checked.prog.globals.all (fun g => decide (g.type < Tryz.checked.prog.types.size)) && Tryz.checked.prog.funcs.all (fun f => f.params.all fun t => decide (t < Tryz.checked.prog.types.size))) = true := by kernel_rfl
theorem cl3 : ClosedOfChecked.keysListB Tryz.checked.prog = true := by kernel_rfl
theorem laidOut2 : laidOutB Tryz.checked.prog = true ∧ mapsRowed Tryz.checked.prog = true ∧ Tryz.checked.prog.plainKeys = true := ClosedOfChecked.closed_of_checked Tryz.checked cl1 cl2 cl3
theorem kdcOfNothing_keys : (Rows.kdcOfNothingRow.plainKeys == Tryz.pinned.checked.prog.plainKeys) = true := by
 rw [show Tryz.pinned.checked.prog.plainKeys = true from laidOut2.2.2]; rfl
theorem kdcOfNothing_g0 : ((Rows.kdcOfNothingRow.inPlace == Tryz.pinned.checked.prog.inPlace 14)) = true := by kernel_rfl
theorem kdcOfNothing_g1 : ((Rows.kdcOfNothingRow.unfollowed == Tryz.pinned.checked.prog.unfollowed 14)) = true := by kernel_rfl
theorem kdcOfNothing_g2 : ((Rows.kdcOfNothingRow.recurses == Tryz.pinned.checked.prog.recurses 14)) = true := by kernel_rfl
theorem kdcOfNothing_g3 : ((Rows.kdcOfNothingRow.named == Tryz.pinned.checked.prog.varsNamed 14)) = true := by kernel_rfl
theorem kdcOfNothing_g4 : (Rows.kdcOfNothingRow.wf (OpenSpec.ofChange (OpenSpec.ofChange Rows.kdcOfNothingSpec).bare) && Tryz.f14.params.all (Tryz.pinned.checked.prog.readableRec ·) && namedTie Tryz.pinned.checked.prog Rows.kdcOfNothingRow.named (OpenSpec.ofChange Rows.kdcOfNothingSpec).bare.vars && (Rows.kdcOfNothingRow.stops == []) && (Tryz.pinned.checked.prog.stops == []) && (Rows.kdcOfNothingRow.knobs == []) && (Tryz.pinned.checked.prog.stopKnobs == [])) = true := by kernel_rfl
theorem kdcOfNothing_g5 : ((Rows.kdcOfNothingRow.maps == (Tryz.f14.params.toList ++ (OpenSpec.ofChange Rows.kdcOfNothingSpec).bare.plain.varTypes Tryz.pinned.checked.prog).any (Tryz.pinned.checked.prog.mapsRec ·)) && (Rows.kdcOfNothingRow.ifaces == (Tryz.f14.params.toList ++ (OpenSpec.ofChange Rows.kdcOfNothingSpec).bare.plain.varTypes Tryz.pinned.checked.prog).any (Tryz.pinned.checked.prog.ifacesRec ·)) && (Rows.kdcOfNothingRow.mapsOut == Tryz.pinned.checked.prog.mapsAmong Tryz.f14.resultTypes.toList) && (Rows.kdcOfNothingRow.loops == (Tryz.f14.params.toList ++ (OpenSpec.ofChange Rows.kdcOfNothingSpec).bare.plain.varTypes Tryz.pinned.checked.prog).any (Tryz.pinned.checked.prog.loopsFrom ·)) && (Rows.kdcOfNothingRow.wideKeys == (Tryz.f14.params.toList ++ (OpenSpec.ofChange Rows.kdcOfNothingSpec).bare.plain.varTypes Tryz.pinned.checked.prog ++ Tryz.f14.resultTypes.toList).any (Tryz.pinned.checked.prog.wideKeysFrom ·)) && (OpenSpec.ofChange Rows.kdcOfNothingSpec).bare.vars.all (Tryz.pinned.checked.prog.varReadable ·) && Tryz.f14.resultTypes.all (fun t => Tryz.pinned.checked.prog.readableRec t && decide (t < Tryz.pinned.checked.prog.types.size)) && (Rows.kdcOfNothingRow.ifacesOut == Tryz.f14.resultTypes.toList.any (Tryz.pinned.checked.prog.ifacesRec ·)) && (Rows.kdcOfNothingRow.loopsOut == Tryz.f14.resultTypes.toList.any (Tryz.pinned.checked.prog.loopsFrom ·))) = true := by kernel_rfl
theorem kdcOfNothing_g6 : (Rows.kdcOfNothingRow.shortTexts.isNone && Tryz.pinned.checked.prog.stopsHeard && Tryz.pinned.checked.prog.mayEnter && (Rows.kdcOfNothingRow.lifted == Tryz.pinned.checked.prog.liftsFinal) && (Tryz.pinned.checked.prog.make == some Rows.kdcOfNothingRow.make) && (Rows.kdcOfNothingRow.kinds == (if Rows.kdcOfNothingRow.domain.isEmpty then [] else Tryz.f14.params.toList.map fun t => match Tryz.pinned.checked.prog.underlying t with | some (.int k) => some k | _ => none)) && (Rows.kdcOfNothingRow.pinned == Rows.kdcOfNothingRow.pinnedBy) && (Rows.kdcOfNothingRow.veiled == (Tryz.f14.params.toList ++ (OpenSpec.ofChange Rows.kdcOfNothingSpec).bare.plain.varTypes Tryz.pinned.checked.prog ++ Tryz.f14.resultTypes.toList).any (Tryz.pinned.checked.prog.veiledRec ·)) && Rows.kdcOfNothingRow.veiledFits Tryz.pinned.checked.prog Tryz.f14.params.toList (Tryz.f14.params.toList ++ (OpenSpec.ofChange Rows.kdcOfNothingSpec).bare.plain.varTypes Tryz.pinned.checked.prog ++ Tryz.f14.resultTypes.toList)) = true := by kernel_rfl
theorem kdcOfNothing_joined : joinedFacts Tryz.pinned.checked.prog 14 Tryz.f14 (OpenSpec.ofChange Rows.kdcOfNothingSpec).bare Rows.kdcOfNothingRow = true := (and2 (and2 (and2 (and2 (and2 (and2 (and2 (and2 (and2 (and2 (and2 (and2 (and2 (and2 (and2 (and2 (and2 (and2 (and2 (and2 (and2 (and2 (and2 (and2 (and2 (and2 (and2 (and2 (and2 (and2 (and2 (and_l (and_l (and_l (and_l (and_l (and_l kdcOfNothing_g4)))))) laidOut2.1) laidOut2.2.1) (and_r (and_l (and_l (and_l (and_l (and_l kdcOfNothing_g4))))))) (and_r (and_l (and_l (and_l (and_l kdcOfNothing_g4)))))) (and_r (and_l (and_l (and_l kdcOfNothing_g4))))) (and_r (and_l (and_l kdcOfNothing_g4)))) (and_r (and_l kdcOfNothing_g4))) (and_r kdcOfNothing_g4)) kdcOfNothing_g0) kdcOfNothing_g1) kdcOfNothing_g2) kdcOfNothing_g3) (and_l (and_l (and_l (and_l (and_l (and_l (and_l (and_l kdcOfNothing_g5))))))))) (and_r (and_l (and_l (and_l (and_l (and_l (and_l (and_l kdcOfNothing_g5))))))))) (and_r (and_l (and_l (and_l (and_l (and_l (and_l kdcOfNothing_g5)))))))) (and_r (and_l (and_l (and_l (and_l (and_l kdcOfNothing_g5))))))) (and_r (and_l (and_l (and_l (and_l kdcOfNothing_g5)))))) (and_r (and_l (and_l (and_l kdcOfNothing_g5))))) (and_r (and_l (and_l kdcOfNothing_g5)))) (and_r (and_l kdcOfNothing_g5))) (and_r kdcOfNothing_g5)) (kdcOfNothing_keys)) (and_l (and_l (and_l (and_l (and_l (and_l (and_l (and_l kdcOfNothing_g6))))))))) (and_r (and_l (and_l (and_l (and_l (and_l (and_l (and_l kdcOfNothing_g6))))))))) (and_r (and_l (and_l (and_l (and_l (and_l (and_l kdcOfNothing_g6)))))))) (and_r (and_l (and_l (and_l (and_l (and_l kdcOfNothing_g6))))))) (and_r (and_l (and_l (and_l (and_l kdcOfNothing_g6)))))) (and_r (and_l (and_l (and_l kdcOfNothing_g6))))) (and_r (and_l (and_l kdcOfNothing_g6)))) (and_r (and_l kdcOfNothing_g6))) (and_r kdcOfNothing_g6))
def kdcOfNothingArgs : Array Value := #[.string ⟨#[]⟩, .slice none 0 0]
def kdcOfNothingData {H : Type} : List (DataW H) := [.lit (.string []), .nil]
theorem kdcOfNothing_reads (os : Os) {H : Type} (enc : TypeId × Value → H) : ∃ places, DataW.whole enc Tryz.prog ((laidWorld os).forCall (fun _ _ => 0) ⟨#[], kdcOfNothingArgs, []⟩).memory Tryz.f14.params.toList Rows.kdcOfNothingSpec.vars false kdcOfNothingArgs.toList 8 = some (kdcOfNothingData, [], places) :=
 ⟨[], by kernel_rfl⟩
theorem kdcOfNothing_call (xs : List PV) (h : RdA Tryz.prog reachBytes 5 Tryz.f14.params.toList xs) : CallOk Tryz.prog 14 xs [] fun r _ => r = .bool true := by
 obtain ⟨p1, _, rfl, h1, p2, _, rfl, h2, rfl⟩ := h
 obtain ⟨s, rfl, b1⟩ := Tryz.rdStr h1
 obtain ⟨b, rfl, b2⟩ := Tryz.rdBytes1 h2
 exact Tryz.c14o s b b1 b2 []
theorem kdcOfNothing_lifted (os : Os) (started : os.Started) (H : Type) (enc : TypeId × Value → H) (F : Stop.Interp) :
  ReturnsInHanded {} Tryz.checked os 14 .any ((OpenSpec.ofChange Rows.kdcOfNothingSpec).preRow enc Tryz.prog Tryz.f14 Rows.kdcOfNothingRow.domain false Rows.kdcOfNothingRow.laid) (((OpenSpec.ofChange Rows.kdcOfNothingSpec).at F).post enc Tryz.prog Tryz.f14 false true false false) := by
 obtain ⟨places, hx⟩ := kdcOfNothing_reads os enc
 refine returnsInHanded_of_row (C := Tryz.checked) (s := OpenSpec.ofChange Rows.kdcOfNothingSpec) own started (by kernel_rfl) Tryz.func14
  (witness_row_at (enc := enc) (C := Tryz.checked) false (laidWorld os) kdcOfNothingArgs rfl (varsB os _) (heapB os _) (by kernel_rfl)
   (OpenSpec.preRow_of_cond 8 hx (by kernel_rfl) (fun k hk => by cases hk) (by kernel_rfl) (laid_met os _))) ?_
 intro W base args ds gs before hval hW _ _ hwt _ _ _
 exact law_true (n := 5) laidOut Tryz.func14 (by kernel_rfl) (by kernel_rfl) rfl (fun ds h => by
  match ds, h with
  | [_, _], _ => rfl) (by kernel_rfl) rfl Tryz.underlying4 kdcOfNothing_call hval hW rfl hwt
theorem kdcOfNothing_named : Tryz.pinned.checked.prog.funcNamed Rows.kdcOfNothingRow.func = some 14 := by kernel_rfl
theorem kdcOfNothing_inst : Tryz.f14.isInstance Tryz.pinned.checked.prog Rows.kdcOfNothingRow.origin Rows.kdcOfNothingRow.targs := of_decide_eq_true (by kernel_rfl)
theorem kdcOfNothing_wrap : Tryz.f14.isWrapper Tryz.pinned.checked.prog Rows.kdcOfNothingRow.wrapper Rows.kdcOfNothingRow.mainSum := by unfold Func.isWrapper; first | (rw [if_pos (by decide +kernel)]; kernel_rfl) | (rw [if_neg (by decide +kernel)]; exact ⟨rfl, rfl⟩)
theorem kdcOfNothing_said : Rows.KdcOfNothingSaid :=
 OpenClaim.holds_of_cond 14 Tryz.f14 rfl rfl rfl rfl rfl rfl rfl ⟨rfl, rfl, rfl, rfl, rfl⟩ rfl rfl rfl rfl rfl kdcOfNothing_named Tryz.func14 kdcOfNothing_joined
  kdcOfNothing_inst kdcOfNothing_wrap
  (fun os started H enc _ F => by rw [OpenClaim.pre_eq_preRow]; exact kdcOfNothing_lifted os started H enc F)
theorem kdcOfNothing_wfText : Rows.kdcOfNothingRow.wfByText (OpenSpec.ofChange Rows.kdcOfNothingSpec) = true := by kernel_rfl
theorem kdcOfNothing_main : Tryz.pinned.checked.prog.mainIs = some (true, ("485df97083f2a848746c463c7befe76b033b0d0ba34540856cde784224e0a8d8" : String).toList) := by kernel_rfl
theorem kdcOfNothing_hn : Tryz.prog.funcNamed "legate/legatelaw10.KdcOfNothing" = some 14 := by kernel_rfl
theorem kdcOfNothing_hall : (Tryz.f14.params.toList.all fun t => Tryz.prog.wantsStandIn t == false) = true := by kernel_rfl
theorem kdcOfNothing_goes : false = Rows.kdcOfNothingRow.goesBy Tryz.pinned.checked.prog := by kernel_rfl
theorem kdcOfNothing_card : Rows.KdcOfNothingCardSaid :=
 Claim7.holds_tied_plain_at .later [] _ _ _ _ kdcOfNothing_said (fun _ h => by cases h) kdcOfNothing_wfText (fun _ h => by cases h) kdcOfNothing_row_tie rfl ⟨rfl, rfl⟩ kdcOfNothing_main rfl (plainOf kdcOfNothing_hn Tryz.func14 kdcOfNothing_hall) kdcOfNothing_goes
end Go.Proofs.YtdnggpdgijobfaaGreatDoor
