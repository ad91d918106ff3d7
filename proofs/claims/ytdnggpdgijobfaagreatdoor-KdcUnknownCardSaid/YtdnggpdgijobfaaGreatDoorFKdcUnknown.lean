/- KdcUnknown: for every two principals the law answers true. No condition. -/
import Derived.Test.YtdnggpdgijobfaaGreatDoorA5
import Derived.ClosedOfChecked
set_option linter.all false
set_option maxRecDepth 100000
namespace Go.Proofs.YtdnggpdgijobfaaGreatDoor
open Go Go.RowKit Ps
theorem and_l {a b : Bool} (h : (a && b) = true) : a = true := (Bool.and_eq_true_iff.1 h).1
theorem and_r {a b : Bool} (h : (a && b) = true) : b = true := (Bool.and_eq_true_iff.1 h).2
theorem and2 {a b : Bool} (h : a = true) (k : b = true) : (a && b) = true := Bool.and_eq_true_iff.2 ⟨h, k⟩
theorem cl1 : Tryz.checked.prog.types = Tryz.checked.src.types := by kernel_rfl
theorem cl2 : (Tryz.checked.prog.globals.all (fun g => decide (g.type < Tryz.checked.prog.types.size)) && Tryz.checked.prog.funcs.all (fun f => f.params.all fun t => decide (t < Tryz.checked.prog.types.size))) = true := by kernel_rfl
theorem cl3 : ClosedOfChecked.keysListB Tryz.checked.prog = true := by kernel_rfl
theorem laidOut2 : laidOutB Tryz.checked.prog = true ∧ mapsRowed Tryz.checked.prog = true ∧ Tryz.checked.prog.plainKeys = true := ClosedOfChecked.closed_of_checked Tryz.checked cl1 cl2 cl3
theorem kdcUnknown_keys : (Rows.kdcUnknownRow.plainKeys == Tryz.pinned.checked.prog.plainKeys) = true := by
  rw [show Tryz.pinned.checked.prog.plainKeys = true from laidOut2.2.2]; rfl
theorem kdcUnknown_g0 : ((Rows.kdcUnknownRow.inPlace == Tryz.pinned.checked.prog.inPlace 5)) = true := by kernel_rfl
theorem kdcUnknown_g1 : ((Rows.kdcUnknownRow.unfollowed == Tryz.pinned.checked.prog.unfollowed 5)) = true := by kernel_rfl
theorem kdcUnknown_g2 : ((Rows.kdcUnknownRow.recurses == Tryz.pinned.checked.prog.recurses 5)) = true := by kernel_rfl
theorem kdcUnknown_g3 : ((Rows.kdcUnknownRow.named == Tryz.pinned.checked.prog.varsNamed 5)) = true := by kernel_rfl
theorem kdcUnknown_g4 : (Rows.kdcUnknownRow.wf (OpenSpec.ofChange (OpenSpec.ofChange Rows.kdcUnknownSpec).bare) && Tryz.f5.params.all (Tryz.pinned.checked.prog.readableRec ·) && namedTie Tryz.pinned.checked.prog Rows.kdcUnknownRow.named (OpenSpec.ofChange Rows.kdcUnknownSpec).bare.vars && (Rows.kdcUnknownRow.stops == []) && (Tryz.pinned.checked.prog.stops == []) && (Rows.kdcUnknownRow.knobs == []) && (Tryz.pinned.checked.prog.stopKnobs == [])) = true := by kernel_rfl
theorem kdcUnknown_g5 : ((Rows.kdcUnknownRow.maps == (Tryz.f5.params.toList ++ (OpenSpec.ofChange Rows.kdcUnknownSpec).bare.plain.varTypes Tryz.pinned.checked.prog).any (Tryz.pinned.checked.prog.mapsRec ·)) && (Rows.kdcUnknownRow.ifaces == (Tryz.f5.params.toList ++ (OpenSpec.ofChange Rows.kdcUnknownSpec).bare.plain.varTypes Tryz.pinned.checked.prog).any (Tryz.pinned.checked.prog.ifacesRec ·)) && (Rows.kdcUnknownRow.mapsOut == Tryz.pinned.checked.prog.mapsAmong Tryz.f5.resultTypes.toList) && (Rows.kdcUnknownRow.loops == (Tryz.f5.params.toList ++ (OpenSpec.ofChange Rows.kdcUnknownSpec).bare.plain.varTypes Tryz.pinned.checked.prog).any (Tryz.pinned.checked.prog.loopsFrom ·)) && (Rows.kdcUnknownRow.wideKeys == (Tryz.f5.params.toList ++ (OpenSpec.ofChange Rows.kdcUnknownSpec).bare.plain.varTypes Tryz.pinned.checked.prog ++ Tryz.f5.resultTypes.toList).any (Tryz.pinned.checked.prog.wideKeysFrom ·)) && (OpenSpec.ofChange Rows.kdcUnknownSpec).bare.vars.all (Tryz.pinned.checked.prog.varReadable ·) && Tryz.f5.resultTypes.all (fun t => Tryz.pinned.checked.prog.readableRec t && decide (t < Tryz.pinned.checked.prog.types.size)) && (Rows.kdcUnknownRow.ifacesOut == Tryz.f5.resultTypes.toList.any (Tryz.pinned.checked.prog.ifacesRec ·)) && (Rows.kdcUnknownRow.loopsOut == Tryz.f5.resultTypes.toList.any (Tryz.pinned.checked.prog.loopsFrom ·))) = true := by kernel_rfl
theorem kdcUnknown_g6 : (Rows.kdcUnknownRow.shortTexts.isNone && Tryz.pinned.checked.prog.stopsHeard && Tryz.pinned.checked.prog.mayEnter && (Rows.kdcUnknownRow.lifted == Tryz.pinned.checked.prog.liftsFinal) && (Tryz.pinned.checked.prog.make == some Rows.kdcUnknownRow.make) && (Rows.kdcUnknownRow.kinds == (if Rows.kdcUnknownRow.domain.isEmpty then [] else Tryz.f5.params.toList.map fun t => match Tryz.pinned.checked.prog.underlying t with | some (.int k) => some k | _ => none)) && (Rows.kdcUnknownRow.pinned == Rows.kdcUnknownRow.pinnedBy) && (Rows.kdcUnknownRow.veiled == (Tryz.f5.params.toList ++ (OpenSpec.ofChange Rows.kdcUnknownSpec).bare.plain.varTypes Tryz.pinned.checked.prog ++ Tryz.f5.resultTypes.toList).any (Tryz.pinned.checked.prog.veiledRec ·)) && Rows.kdcUnknownRow.veiledFits Tryz.pinned.checked.prog Tryz.f5.params.toList (Tryz.f5.params.toList ++ (OpenSpec.ofChange Rows.kdcUnknownSpec).bare.plain.varTypes Tryz.pinned.checked.prog ++ Tryz.f5.resultTypes.toList)) = true := by kernel_rfl
theorem kdcUnknown_joined : joinedFacts Tryz.pinned.checked.prog 5 Tryz.f5 (OpenSpec.ofChange Rows.kdcUnknownSpec).bare Rows.kdcUnknownRow = true := (and2 (and2 (and2 (and2 (and2 (and2 (and2 (and2 (and2 (and2 (and2 (and2 (and2 (and2 (and2 (and2 (and2 (and2 (and2 (and2 (and2 (and2 (and2 (and2 (and2 (and2 (and2 (and2 (and2 (and2 (and2 (and_l (and_l (and_l (and_l (and_l (and_l kdcUnknown_g4)))))) laidOut2.1) laidOut2.2.1) (and_r (and_l (and_l (and_l (and_l (and_l kdcUnknown_g4))))))) (and_r (and_l (and_l (and_l (and_l kdcUnknown_g4)))))) (and_r (and_l (and_l (and_l kdcUnknown_g4))))) (and_r (and_l (and_l kdcUnknown_g4)))) (and_r (and_l kdcUnknown_g4))) (and_r kdcUnknown_g4)) kdcUnknown_g0) kdcUnknown_g1) kdcUnknown_g2) kdcUnknown_g3) (and_l (and_l (and_l (and_l (and_l (and_l (and_l (and_l kdcUnknown_g5))))))))) (and_r (and_l (and_l (and_l (and_l (and_l (and_l (and_l kdcUnknown_g5))))))))) (and_r (and_l (and_l (and_l (and_l (and_l (and_l kdcUnknown_g5)))))))) (and_r (and_l (and_l (and_l (and_l (and_l kdcUnknown_g5))))))) (and_r (and_l (and_l (and_l (and_l kdcUnknown_g5)))))) (and_r (and_l (and_l (and_l kdcUnknown_g5))))) (and_r (and_l (and_l kdcUnknown_g5)))) (and_r (and_l kdcUnknown_g5))) (and_r kdcUnknown_g5)) (kdcUnknown_keys)) (and_l (and_l (and_l (and_l (and_l (and_l (and_l (and_l kdcUnknown_g6))))))))) (and_r (and_l (and_l (and_l (and_l (and_l (and_l (and_l kdcUnknown_g6))))))))) (and_r (and_l (and_l (and_l (and_l (and_l (and_l kdcUnknown_g6)))))))) (and_r (and_l (and_l (and_l (and_l (and_l kdcUnknown_g6))))))) (and_r (and_l (and_l (and_l (and_l kdcUnknown_g6)))))) (and_r (and_l (and_l (and_l kdcUnknown_g6))))) (and_r (and_l (and_l kdcUnknown_g6)))) (and_r (and_l kdcUnknown_g6))) (and_r kdcUnknown_g6))
def kdcUnknownArgs : Array Value := #[.agg #[.string ⟨#[]⟩, .string ⟨#[]⟩], .agg #[.string ⟨#[]⟩, .string ⟨#[]⟩]]
def kdcUnknownData {H : Type} : List (DataW H) := [.agg [.lit (.string []), .lit (.string [])], .agg [.lit (.string []), .lit (.string [])]]
theorem kdcUnknown_reads (os : Os) {H : Type} (enc : TypeId × Value → H) : ∃ places, DataW.whole enc Tryz.prog ((laidWorld os).forCall (fun _ _ => 0) ⟨#[], kdcUnknownArgs, []⟩).memory Tryz.f5.params.toList Rows.kdcUnknownSpec.vars false kdcUnknownArgs.toList 8 = some (kdcUnknownData, [], places) :=
  ⟨[], by kernel_rfl⟩
theorem kdcUnknown_call (xs : List PV) (h : RdA Tryz.prog reachBytes 5 Tryz.f5.params.toList xs) : CallOk Tryz.prog 5 xs [] fun r _ => r = .bool true := by
  obtain ⟨p1, _, rfl, h1, p2, _, rfl, h2, rfl⟩ := h
  obtain ⟨r1, n1, rfl, b1, b2⟩ := Tryz.rdPrinc h1
  obtain ⟨r2, n2, rfl, b3, b4⟩ := Tryz.rdPrinc h2
  exact Tryz.c5u r1 n1 r2 n2 b1 b2 b3 b4 []
theorem kdcUnknown_lifted (os : Os) (started : os.Started) (H : Type) (enc : TypeId × Value → H) (F : Stop.Interp) :
    ReturnsInHanded {} Tryz.checked os 5 .any ((OpenSpec.ofChange Rows.kdcUnknownSpec).preRow enc Tryz.prog Tryz.f5 Rows.kdcUnknownRow.domain false Rows.kdcUnknownRow.laid) (((OpenSpec.ofChange Rows.kdcUnknownSpec).at F).post enc Tryz.prog Tryz.f5 false true false false) := by
  obtain ⟨places, hx⟩ := kdcUnknown_reads os enc
  refine returnsInHanded_of_row (C := Tryz.checked) (s := OpenSpec.ofChange Rows.kdcUnknownSpec) own started (by kernel_rfl) Tryz.func5
    (witness_row_at (enc := enc) (C := Tryz.checked) false (laidWorld os) kdcUnknownArgs rfl (varsB os _) (heapB os _) (by kernel_rfl)
      (OpenSpec.preRow_of_cond 8 hx (by kernel_rfl) (fun k hk => by cases hk) (by kernel_rfl) (laid_met os _))) ?_
  intro W base args ds gs before hval hW _ _ hwt _ _ _
  exact law_true (n := 5) laidOut Tryz.func5 (by kernel_rfl) (by kernel_rfl) rfl (fun ds h => by
    match ds, h with
    | [_, _], _ => rfl) (by kernel_rfl) rfl Tryz.underlying4 kdcUnknown_call hval hW rfl hwt
theorem kdcUnknown_named : Tryz.pinned.checked.prog.funcNamed Rows.kdcUnknownRow.func = some 5 := by kernel_rfl
theorem kdcUnknown_inst : Tryz.f5.isInstance Tryz.pinned.checked.prog Rows.kdcUnknownRow.origin Rows.kdcUnknownRow.targs := of_decide_eq_true (by kernel_rfl)
theorem kdcUnknown_wrap : Tryz.f5.isWrapper Tryz.pinned.checked.prog Rows.kdcUnknownRow.wrapper Rows.kdcUnknownRow.mainSum := by unfold Func.isWrapper; first | (rw [if_pos (by decide +kernel)]; kernel_rfl) | (rw [if_neg (by decide +kernel)]; exact ⟨rfl, rfl⟩)
theorem kdcUnknown_said : Rows.KdcUnknownSaid :=
  OpenClaim.holds_of_cond 5 Tryz.f5 rfl rfl rfl rfl rfl rfl rfl ⟨rfl, rfl, rfl, rfl, rfl⟩ rfl rfl rfl rfl rfl kdcUnknown_named Tryz.func5 kdcUnknown_joined
    kdcUnknown_inst kdcUnknown_wrap
    (fun os started H enc _ F => by rw [OpenClaim.pre_eq_preRow]; exact kdcUnknown_lifted os started H enc F)
theorem kdcUnknown_wfText : Rows.kdcUnknownRow.wfByText (OpenSpec.ofChange Rows.kdcUnknownSpec) = true := by kernel_rfl
theorem kdcUnknown_main : Tryz.pinned.checked.prog.mainIs = some (true, ("485df97083f2a848746c463c7befe76b033b0d0ba34540856cde784224e0a8d8" : String).toList) := by kernel_rfl
theorem kdcUnknown_hn : Tryz.prog.funcNamed "legate/legatelaw10.KdcUnknown" = some 5 := by kernel_rfl
theorem kdcUnknown_hall : (Tryz.f5.params.toList.all fun t => Tryz.prog.wantsStandIn t == false) = true := by kernel_rfl
theorem kdcUnknown_goes : false = Rows.kdcUnknownRow.goesBy Tryz.pinned.checked.prog := by kernel_rfl
/-- The card. -/
theorem kdcUnknown_card : Rows.KdcUnknownCardSaid :=
  Claim7.holds_tied_plain_at .later [] _ _ _ _ kdcUnknown_said (fun _ h => by cases h) kdcUnknown_wfText (fun _ h => by cases h) kdcUnknown_row_tie rfl ⟨rfl, rfl⟩ kdcUnknown_main rfl (plainOf kdcUnknown_hn Tryz.func5 kdcUnknown_hall) kdcUnknown_goes
end Go.Proofs.YtdnggpdgijobfaaGreatDoor
