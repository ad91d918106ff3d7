/- KdcNonces: for every row of truths the law answers true, and it reads as it did. No condition. -/
import Derived.Test.YtdnggpdgijobfaaGreatDoorA5
import Derived.ClosedOfChecked
set_option linter.all false
set_option maxRecDepth 100000
namespace Go.Proofs.YtdnggpdgijobfaaGreatDoor
open Go Go.RowKit Ps
theorem and_l {a b : Bool} (h : (a && b) = true) : a = true := (Bool.and_eq_true_iff.1 h).1
theorem and_r {a b : Bool} (h : (a && b) = true) : b = true := (Bool.and_eq_true_iff.1 h).2
theorem and2 {a b : Bool} (h : a = true) (k : b = true) : (a && b) = true := Bool.and_eq_true_iff.2 ⟨h, k⟩
theorem cl1 : Tryz.checked.prog.types = Tryz.checked.src.types := by kernel_rfl
theorem cl2 : (Tryz.checked.prog.globals.all (fun g => decide (g.type < Tryz.checked.prog.types.size)) && Tryz.checked.prog.funcs.all (fun f => f.params.all fun t => decide (t < Tryz.checked.prog.types.size))) = true := by kernel_rfl
theorem cl3 : ClosedOfChecked.keysListB Tryz.checked.prog = true := by kernel_rfl
theorem laidOut2 : laidOutB Tryz.checked.prog = true ∧ mapsRowed Tryz.checked.prog = true ∧ Tryz.checked.prog.plainKeys = true := ClosedOfChecked.closed_of_checked Tryz.checked cl1 cl2 cl3
theorem kdcNonces_keys : (Rows.kdcNoncesRow.plainKeys == Tryz.pinned.checked.prog.plainKeys) = true := by
  rw [show Tryz.pinned.checked.prog.plainKeys = true from laidOut2.2.2]; rfl
theorem kdcNonces_g0 : ((Rows.kdcNoncesRow.inPlace == Tryz.pinned.checked.prog.inPlace 4)) = true := by kernel_rfl
theorem kdcNonces_g1 : ((Rows.kdcNoncesRow.unfollowed == Tryz.pinned.checked.prog.unfollowed 4)) = true := by kernel_rfl
theorem kdcNonces_g2 : ((Rows.kdcNoncesRow.recurses == Tryz.pinned.checked.prog.recurses 4)) = true := by kernel_rfl
theorem kdcNonces_g3 : ((Rows.kdcNoncesRow.named == Tryz.pinned.checked.prog.varsNamed 4)) = true := by kernel_rfl
theorem kdcNonces_g4 : (Rows.kdcNoncesRow.wf (OpenSpec.ofChange (OpenSpec.ofChange Rows.kdcNoncesSpec).bare) && Tryz.f4.params.all (Tryz.pinned.checked.prog.readableRec ·) && namedTie Tryz.pinned.checked.prog Rows.kdcNoncesRow.named (OpenSpec.ofChange Rows.kdcNoncesSpec).bare.vars && (Rows.kdcNoncesRow.stops == []) && (Tryz.pinned.checked.prog.stops == []) && (Rows.kdcNoncesRow.knobs == []) && (Tryz.pinned.checked.prog.stopKnobs == [])) = true := by kernel_rfl
theorem kdcNonces_g5 : ((Rows.kdcNoncesRow.maps == (Tryz.f4.params.toList ++ (OpenSpec.ofChange Rows.kdcNoncesSpec).bare.plain.varTypes Tryz.pinned.checked.prog).any (Tryz.pinned.checked.prog.mapsRec ·)) && (Rows.kdcNoncesRow.ifaces == (Tryz.f4.params.toList ++ (OpenSpec.ofChange Rows.kdcNoncesSpec).bare.plain.varTypes Tryz.pinned.checked.prog).any (Tryz.pinned.checked.prog.ifacesRec ·)) && (Rows.kdcNoncesRow.mapsOut == Tryz.pinned.checked.prog.mapsAmong Tryz.f4.resultTypes.toList) && (Rows.kdcNoncesRow.loops == (Tryz.f4.params.toList ++ (OpenSpec.ofChange Rows.kdcNoncesSpec).bare.plain.varTypes Tryz.pinned.checked.prog).any (Tryz.pinned.checked.prog.loopsFrom ·)) && (Rows.kdcNoncesRow.wideKeys == (Tryz.f4.params.toList ++ (OpenSpec.ofChange Rows.kdcNoncesSpec).bare.plain.varTypes Tryz.pinned.checked.prog ++ Tryz.f4.resultTypes.toList).any (Tryz.pinned.checked.prog.wideKeysFrom ·)) && (OpenSpec.ofChange Rows.kdcNoncesSpec).bare.vars.all (Tryz.pinned.checked.prog.varReadable ·) && Tryz.f4.resultTypes.all (fun t => Tryz.pinned.checked.prog.readableRec t && decide (t < Tryz.pinned.checked.prog.types.size)) && (Rows.kdcNoncesRow.ifacesOut == Tryz.f4.resultTypes.toList.any (Tryz.pinned.checked.prog.ifacesRec ·)) && (Rows.kdcNoncesRow.loopsOut == Tryz.f4.resultTypes.toList.any (Tryz.pinned.checked.prog.loopsFrom ·))) = true := by kernel_rfl
theorem kdcNonces_g6 : (Rows.kdcNoncesRow.shortTexts.isNone && Tryz.pinned.checked.prog.stopsHeard && Tryz.pinned.checked.prog.mayEnter && (Rows.kdcNoncesRow.lifted == Tryz.pinned.checked.prog.liftsFinal) && (Tryz.pinned.checked.prog.make == some Rows.kdcNoncesRow.make) && (Rows.kdcNoncesRow.kinds == (if Rows.kdcNoncesRow.domain.isEmpty then [] else Tryz.f4.params.toList.map fun t => match Tryz.pinned.checked.prog.underlying t with | some (.int k) => some k | _ => none)) && (Rows.kdcNoncesRow.pinned == Rows.kdcNoncesRow.pinnedBy) && (Rows.kdcNoncesRow.veiled == (Tryz.f4.params.toList ++ (OpenSpec.ofChange Rows.kdcNoncesSpec).bare.plain.varTypes Tryz.pinned.checked.prog ++ Tryz.f4.resultTypes.toList).any (Tryz.pinned.checked.prog.veiledRec ·)) && Rows.kdcNoncesRow.veiledFits Tryz.pinned.checked.prog Tryz.f4.params.toList (Tryz.f4.params.toList ++ (OpenSpec.ofChange Rows.kdcNoncesSpec).bare.plain.varTypes Tryz.pinned.checked.prog ++ Tryz.f4.resultTypes.toList)) = true := by kernel_rfl
theorem kdcNonces_joined : joinedFacts Tryz.pinned.checked.prog 4 Tryz.f4 (OpenSpec.ofChange Rows.kdcNoncesSpec).bare Rows.kdcNoncesRow = true := (and2 (and2 (and2 (and2 (and2 (and2 (and2 (and2 (and2 (and2 (and2 (and2 (and2 (and2 (and2 (and2 (and2 (and2 (and2 (and2 (and2 (and2 (and2 (and2 (and2 (and2 (and2 (and2 (and2 (and2 (and2 (and_l (and_l (and_l (and_l (and_l (and_l kdcNonces_g4)))))) laidOut2.1) laidOut2.2.1) (and_r (and_l (and_l (and_l (and_l (and_l kdcNonces_g4))))))) (and_r (and_l (and_l (and_l (and_l kdcNonces_g4)))))) (and_r (and_l (and_l (and_l kdcNonces_g4))))) (and_r (and_l (and_l kdcNonces_g4)))) (and_r (and_l kdcNonces_g4))) (and_r kdcNonces_g4)) kdcNonces_g0) kdcNonces_g1) kdcNonces_g2) kdcNonces_g3) (and_l (and_l (and_l (and_l (and_l (and_l (and_l (and_l kdcNonces_g5))))))))) (and_r (and_l (and_l (and_l (and_l (and_l (and_l (and_l kdcNonces_g5))))))))) (and_r (and_l (and_l (and_l (and_l (and_l (and_l kdcNonces_g5)))))))) (and_r (and_l (and_l (and_l (and_l (and_l kdcNonces_g5))))))) (and_r (and_l (and_l (and_l (and_l kdcNonces_g5)))))) (and_r (and_l (and_l (and_l kdcNonces_g5))))) (and_r (and_l (and_l kdcNonces_g5)))) (and_r (and_l kdcNonces_g5))) (and_r kdcNonces_g5)) (kdcNonces_keys)) (and_l (and_l (and_l (and_l (and_l (and_l (and_l (and_l kdcNonces_g6))))))))) (and_r (and_l (and_l (and_l (and_l (and_l (and_l (and_l kdcNonces_g6))))))))) (and_r (and_l (and_l (and_l (and_l (and_l (and_l kdcNonces_g6)))))))) (and_r (and_l (and_l (and_l (and_l (and_l kdcNonces_g6))))))) (and_r (and_l (and_l (and_l (and_l kdcNonces_g6)))))) (and_r (and_l (and_l (and_l kdcNonces_g6))))) (and_r (and_l (and_l kdcNonces_g6)))) (and_r (and_l kdcNonces_g6))) (and_r kdcNonces_g6))
def kdcNoncesArgs : Array Value := #[.slice none 0 0]
def kdcNoncesData {H : Type} : List (DataW H) := [.nil]
theorem kdcNonces_reads (os : Os) {H : Type} (enc : TypeId × Value → H) : ∃ places, DataW.whole enc Tryz.prog ((laidWorld os).forCall (fun _ _ => 0) ⟨#[], kdcNoncesArgs, []⟩).memory Tryz.f4.params.toList Rows.kdcNoncesSpec.vars false kdcNoncesArgs.toList 8 = some (kdcNoncesData, [], places) :=
  ⟨[], by kernel_rfl⟩
theorem kdcNonces_call (xs : List PV) (h : RdA Tryz.prog reachBytes 5 Tryz.f4.params.toList xs) : CallOk Tryz.prog 4 xs [] fun r _ => r = .bool true := by
  obtain ⟨p1, _, rfl, h1, rfl⟩ := h
  obtain ⟨l, rfl, hl⟩ := Tryz.rdBools h1
  exact Tryz.c4n l [] hl
theorem kdcNonces_lifted (os : Os) (started : os.Started) (H : Type) (enc : TypeId × Value → H) (F : Stop.Interp) :
    ReturnsInHanded {} Tryz.checked os 4 .any ((OpenSpec.ofChange Rows.kdcNoncesSpec).preRow enc Tryz.prog Tryz.f4 Rows.kdcNoncesRow.domain false Rows.kdcNoncesRow.laid) (((OpenSpec.ofChange Rows.kdcNoncesSpec).at F).post enc Tryz.prog Tryz.f4 false true false false) := by
  obtain ⟨places, hx⟩ := kdcNonces_reads os enc
  refine returnsInHanded_of_row (C := Tryz.checked) (s := OpenSpec.ofChange Rows.kdcNoncesSpec) own started (by kernel_rfl) Tryz.func4
    (witness_row_at (enc := enc) (C := Tryz.checked) false (laidWorld os) kdcNoncesArgs rfl (varsB os _) (heapB os _) (by kernel_rfl)
      (OpenSpec.preRow_of_cond 8 hx (by kernel_rfl) (fun k hk => by cases hk) (by kernel_rfl) (laid_met os _))) ?_
  intro W base args ds gs before hval hW _ _ hwt _ _ _
  exact law_true (n := 5) laidOut Tryz.func4 (by kernel_rfl) (by kernel_rfl) rfl (fun ds h => by
    match ds, h with
    | [_], _ => rfl) (by kernel_rfl) rfl Tryz.underlying4 kdcNonces_call hval hW rfl hwt
theorem kdcNonces_named : Tryz.pinned.checked.prog.funcNamed Rows.kdcNoncesRow.func = some 4 := by kernel_rfl
theorem kdcNonces_inst : Tryz.f4.isInstance Tryz.pinned.checked.prog Rows.kdcNoncesRow.origin Rows.kdcNoncesRow.targs := of_decide_eq_true (by kernel_rfl)
theorem kdcNonces_wrap : Tryz.f4.isWrapper Tryz.pinned.checked.prog Rows.kdcNoncesRow.wrapper Rows.kdcNoncesRow.mainSum := by unfold Func.isWrapper; first | (rw [if_pos (by decide +kernel)]; kernel_rfl) | (rw [if_neg (by decide +kernel)]; exact ⟨rfl, rfl⟩)
theorem kdcNonces_said : Rows.KdcNoncesSaid :=
  OpenClaim.holds_of_cond 4 Tryz.f4 rfl rfl rfl rfl rfl rfl rfl ⟨rfl, rfl, rfl, rfl, rfl⟩ rfl rfl rfl rfl rfl kdcNonces_named Tryz.func4 kdcNonces_joined
    kdcNonces_inst kdcNonces_wrap
    (fun os started H enc _ F => by rw [OpenClaim.pre_eq_preRow]; exact kdcNonces_lifted os started H enc F)
theorem kdcNonces_wfText : Rows.kdcNoncesRow.wfByText (OpenSpec.ofChange Rows.kdcNoncesSpec) = true := by kernel_rfl
theorem kdcNonces_main : Tryz.pinned.checked.prog.mainIs = some (true, ("485df97083f2a848746c463c7befe76b033b0d0ba34540856cde784224e0a8d8" : String).toList) := by kernel_rfl
theorem kdcNonces_hn : Tryz.prog.funcNamed "legate/legatelaw10.KdcNonces" = some 4 := by kernel_rfl
theorem kdcNonces_hall : (Tryz.f4.params.toList.all fun t => Tryz.prog.wantsStandIn t == false) = true := by kernel_rfl
theorem kdcNonces_goes : false = Rows.kdcNoncesRow.goesBy Tryz.pinned.checked.prog := by kernel_rfl
/-- The card. -/
theorem kdcNonces_card : Rows.KdcNoncesCardSaid :=
  Claim7.holds_tied_plain_at .later [] _ _ _ _ kdcNonces_said (fun _ h => by cases h) kdcNonces_wfText (fun _ h => by cases h) kdcNonces_row_tie rfl ⟨rfl, rfl⟩ kdcNonces_main rfl (plainOf kdcNonces_hn Tryz.func4 kdcNonces_hall) kdcNonces_goes
end Go.Proofs.YtdnggpdgijobfaaGreatDoor
