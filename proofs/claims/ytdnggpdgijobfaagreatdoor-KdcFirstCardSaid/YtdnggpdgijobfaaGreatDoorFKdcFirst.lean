/- KdcFirst: for every three numbers and every byte the law answers true. No condition. -/
import Derived.Test.YtdnggpdgijobfaaGreatDoorA5
import Derived.Test.YtdnggpdgijobfaaGreatDoorA6
import Derived.ClosedOfChecked
set_option linter.all false
set_option maxRecDepth 100000
namespace Go.Proofs.YtdnggpdgijobfaaGreatDoor
open Go Go.RowKit Ps
theorem and_l {a b : Bool} (h : (a && b) = true) : a = true := (Bool.and_eq_true_iff.1 h).1
theorem and_r {a b : Bool} (h : (a && b) = true) : b = true := (Bool.and_eq_true_iff.1 h).2
theorem and2 {a b : Bool} (h : a = true) (k : b = true) : (a && b) = true := Bool.and_eq_true_iff.2 ⟨h, k⟩
theorem cl1 : Tryz.checked.prog.types = Tryz.checked.src.types := by kernel_rfl
theorem cl2 : (Tryz.checked.prog.globals.all (fun g => decide (g.type < Tryz.checked.prog.types.size)) && Tryz.checked.prog.funcs.all (fun f => f.params.all fun t => decide (t < Tryz.checked.prog.types.size))) = true := by kernel_rfl
theorem cl3 : ClosedOfChecked.keysListB Tryz.checked.prog = true := by kernel_rfl
theorem laidOut2 : laidOutB Tryz.checked.prog = true ∧ mapsRowed Tryz.checked.prog = true ∧ Tryz.checked.prog.plainKeys = true := ClosedOfChecked.closed_of_checked Tryz.checked cl1 cl2 cl3
theorem kdcFirst_keys : (Rows.kdcFirstRow.plainKeys == Tryz.pinned.checked.prog.plainKeys) = true := by
 rw [show Tryz.pinned.checked.prog.plainKeys = true from laidOut2.2.2]; rfl
theorem kdcFirst_g0 : ((Rows.kdcFirstRow.inPlace == Tryz.pinned.checked.prog.inPlace 3)) = true := by kernel_rfl
theorem kdcFirst_g1 : ((Rows.kdcFirstRow.unfollowed == Tryz.pinned.checked.prog.unfollowed 3)) = true := by kernel_rfl
theorem kdcFirst_g2 : ((Rows.kdcFirstRow.recurses == Tryz.pinned.checked.prog.recurses 3)) = true := by kernel_rfl
theorem kdcFirst_g3 : ((Rows.kdcFirstRow.named == Tryz.pinned.checked.prog.varsNamed 3)) = true := by kernel_rfl
theorem kdcFirst_g4 : (Rows.kdcFirstRow.wf (OpenSpec.ofChange (OpenSpec.ofChange Rows.kdcFirstSpec).bare) && Tryz.f3.params.all (Tryz.pinned.checked.prog.readableRec ·) && namedTie Tryz.pinned.checked.prog Rows.kdcFirstRow.named (OpenSpec.ofChange Rows.kdcFirstSpec).bare.vars && (Rows.kdcFirstRow.stops == []) && (Tryz.pinned.checked.prog.stops == []) && (Rows.kdcFirstRow.knobs == []) && (Tryz.pinned.checked.prog.stopKnobs == [])) = true := by kernel_rfl
theorem kdcFirst_g5 : ((Rows.kdcFirstRow.maps == (Tryz.f3.params.toList ++ (OpenSpec.ofChange Rows.kdcFirstSpec).bare.plain.varTypes Tryz.pinned.checked.prog).any (Tryz.pinned.checked.prog.mapsRec ·)) && (Rows.kdcFirstRow.ifaces == (Tryz.f3.params.toList ++ (OpenSpec.ofChange Rows.kdcFirstSpec).bare.plain.varTypes Tryz.pinned.checked.prog).any (Tryz.pinned.checked.prog.ifacesRec ·)) && (Rows.kdcFirstRow.mapsOut == Tryz.pinned.checked.prog.mapsAmong Tryz.f3.resultTypes.toList) && (Rows.kdcFirstRow.loops == (Tryz.f3.params.toList ++ (OpenSpec.ofChange Rows.kdcFirstSpec).bare.plain.varTypes Tryz.pinned.checked.prog).any (Tryz.pinned.checked.prog.loopsFrom ·)) && (Rows.kdcFirstRow.wideKeys == (Tryz.f3.params.toList ++ (OpenSpec.ofChange Rows.kdcFirstSpec).bare.plain.varTypes Tryz.pinned.checked.prog ++ Tryz.f3.resultTypes.toList).any (Tryz.pinned.checked.prog.wideKeysFrom ·)) && (OpenSpec.ofChange Rows.kdcFirstSpec).bare.vars.all (Tryz.pinned.checked.prog.varReadable ·) && Tryz.f3.resultTypes.all (fun t => Tryz.pinned.checked.prog.readableRec t && decide (t < Tryz.pinned.checked.prog.types.size)) && (Rows.kdcFirstRow.ifacesOut == Tryz.f3.resultTypes.toList.any (Tryz.pinned.checked.prog.ifacesRec ·)) && (Rows.kdcFirstRow.loopsOut == Tryz.f3.resultTypes.toList.any (Tryz.pinned.checked.prog.loopsFrom ·))) = true := by kernel_rfl
theorem kdcFirst_g6 : (Rows.kdcFirstRow.shortTexts.isNone && Tryz.pinned.checked.prog.stopsHeard && Tryz.pinned.checked.prog.mayEnter && (Rows.kdcFirstRow.lifted == Tryz.pinned.checked.prog.liftsFinal) && (Tryz.pinned.checked.prog.make == some Rows.kdcFirstRow.make) && (Rows.kdcFirstRow.kinds == (if Rows.kdcFirstRow.domain.isEmpty then [] else Tryz.f3.params.toList.map fun t => match Tryz.pinned.checked.prog.underlying t with | some (.int k) => some k | _ => none)) && (Rows.kdcFirstRow.pinned == Rows.kdcFirstRow.pinnedBy) && (Rows.kdcFirstRow.veiled == (Tryz.f3.params.toList ++ (OpenSpec.ofChange Rows.kdcFirstSpec).bare.plain.varTypes Tryz.pinned.checked.prog ++ Tryz.f3.resultTypes.toList).any (Tryz.pinned.checked.prog.veiledRec ·)) && Rows.kdcFirstRow.veiledFits Tryz.pinned.checked.prog Tryz.f3.params.toList (Tryz.f3.params.toList ++ (OpenSpec.ofChange Rows.kdcFirstSpec).bare.plain.varTypes Tryz.pinned.checked.prog ++ Tryz.f3.resultTypes.toList)) = true := by kernel_rfl
theorem kdcFirst_joined : joinedFacts Tryz.pinned.checked.prog 3 Tryz.f3 (OpenSpec.ofChange Rows.kdcFirstSpec).bare Rows.kdcFirstRow = true := (and2 (and2 (and2 (and2 (and2 (and2 (and2 (and2 (and2 (and2 (and2 (and2 (and2 (and2 (and2 (and2 (and2 (and2 (and2 (and2 (and2 (and2 (and2 (and2 (and2 (and2 (and2 (and2 (and2 (and2 (and2 (and_l (and_l (and_l (and_l (and_l (and_l kdcFirst_g4)))))) laidOut2.1) laidOut2.2.1) (and_r (and_l (and_l (and_l (and_l (and_l kdcFirst_g4))))))) (and_r (and_l (and_l (and_l (and_l kdcFirst_g4)))))) (and_r (and_l (and_l (and_l kdcFirst_g4))))) (and_r (and_l (and_l kdcFirst_g4)))) (and_r (and_l kdcFirst_g4))) (and_r kdcFirst_g4)) kdcFirst_g0) kdcFirst_g1) kdcFirst_g2) kdcFirst_g3) (and_l (and_l (and_l (and_l (and_l (and_l (and_l (and_l kdcFirst_g5))))))))) (and_r (and_l (and_l (and_l (and_l (and_l (and_l (and_l kdcFirst_g5))))))))) (and_r (and_l (and_l (and_l (and_l (and_l (and_l kdcFirst_g5)))))))) (and_r (and_l (and_l (and_l (and_l (and_l kdcFirst_g5))))))) (and_r (and_l (and_l (and_l (and_l kdcFirst_g5)))))) (and_r (and_l (and_l (and_l kdcFirst_g5))))) (and_r (and_l (and_l kdcFirst_g5)))) (and_r (and_l kdcFirst_g5))) (and_r kdcFirst_g5)) (kdcFirst_keys)) (and_l (and_l (and_l (and_l (and_l (and_l (and_l (and_l kdcFirst_g6))))))))) (and_r (and_l (and_l (and_l (and_l (and_l (and_l (and_l kdcFirst_g6))))))))) (and_r (and_l (and_l (and_l (and_l (and_l (and_l kdcFirst_g6)))))))) (and_r (and_l (and_l (and_l (and_l (and_l kdcFirst_g6))))))) (and_r (and_l (and_l (and_l (and_l kdcFirst_g6)))))) (and_r (and_l (and_l (and_l kdcFirst_g6))))) (and_r (and_l (and_l kdcFirst_g6)))) (and_r (and_l kdcFirst_g6))) (and_r kdcFirst_g6))
def kdcFirstArgs : Array Value := #[.int .i64 0, .int .i64 0, .int .i64 0, .int .u8 0]
def kdcFirstData {H : Type} : List (DataW H) := [.lit (.int .i64 0), .lit (.int .i64 0), .lit (.int .i64 0), .lit (.int .u8 0)]
theorem kdcFirst_reads (os : Os) {H : Type} (enc : TypeId × Value → H) : ∃ places, DataW.whole enc Tryz.prog ((laidWorld os).forCall (fun _ _ => 0) ⟨#[], kdcFirstArgs, []⟩).memory Tryz.f3.params.toList Rows.kdcFirstSpec.vars false kdcFirstArgs.toList 8 = some (kdcFirstData, [], places) :=
 ⟨[], by kernel_rfl⟩
theorem kdcFirst_call (xs : List PV) (h : RdA Tryz.prog reachBytes 5 Tryz.f3.params.toList xs) : CallOk Tryz.prog 3 xs [] fun r _ => r = .bool true := by
 obtain ⟨p1, _, rfl, h1, p2, _, rfl, h2, p3, _, rfl, h3, p4, _, rfl, h4, rfl⟩ := h
 obtain ⟨a, rfl, _⟩ := Tryz.rdInt h1
 obtain ⟨b, rfl, _⟩ := Tryz.rdInt h2
 obtain ⟨c, rfl, _⟩ := Tryz.rdInt h3
 obtain ⟨d, rfl⟩ := Tryz.rdByte1 h4
 exact Tryz.c3f a b c d []
theorem kdcFirst_lifted (os : Os) (started : os.Started) (H : Type) (enc : TypeId × Value → H) (F : Stop.Interp) :
  ReturnsInHanded {} Tryz.checked os 3 .any ((OpenSpec.ofChange Rows.kdcFirstSpec).preRow enc Tryz.prog Tryz.f3 Rows.kdcFirstRow.domain false Rows.kdcFirstRow.laid) (((OpenSpec.ofChange Rows.kdcFirstSpec).at F).post enc Tryz.prog Tryz.f3 false true false false) := by
 obtain ⟨places, hx⟩ := kdcFirst_reads os enc
 refine returnsInHanded_of_row (C := Tryz.checked) (s := OpenSpec.ofChange Rows.kdcFirstSpec) own started (by kernel_rfl) Tryz.func3
  (witness_row_at (enc := enc) (C := Tryz.checked) false (laidWorld os) kdcFirstArgs rfl (varsB os _) (heapB os _) (by kernel_rfl)
   (OpenSpec.preRow_of_cond 8 hx (by kernel_rfl) (fun k hk => by cases hk) (by kernel_rfl) (laid_met os _))) ?_
 intro W base args ds gs before hval hW _ _ hwt _ _ _
 exact law_true (n := 5) laidOut Tryz.func3 (by kernel_rfl) (by kernel_rfl) rfl (fun ds h => by
  match ds, h with
  | [_, _, _, _], _ => rfl) (by kernel_rfl) rfl Tryz.underlying4 kdcFirst_call hval hW rfl hwt
theorem kdcFirst_named : Tryz.pinned.checked.prog.funcNamed Rows.kdcFirstRow.func = some 3 := by kernel_rfl
theorem kdcFirst_inst : Tryz.f3.isInstance Tryz.pinned.checked.prog Rows.kdcFirstRow.origin Rows.kdcFirstRow.targs := of_decide_eq_true (by kernel_rfl)
theorem kdcFirst_wrap : Tryz.f3.isWrapper Tryz.pinned.checked.prog Rows.kdcFirstRow.wrapper Rows.kdcFirstRow.mainSum := by unfold Func.isWrapper; first | (rw [if_pos (by decide +kernel)]; kernel_rfl) | (rw [if_neg (by decide +kernel)]; exact ⟨rfl, rfl⟩)
theorem kdcFirst_said : Rows.KdcFirstSaid :=
 OpenClaim.holds_of_cond 3 Tryz.f3 rfl rfl rfl rfl rfl rfl rfl ⟨rfl, rfl, rfl, rfl, rfl⟩ rfl rfl rfl rfl rfl kdcFirst_named Tryz.func3 kdcFirst_joined
  kdcFirst_inst kdcFirst_wrap
  (fun os started H enc _ F => by rw [OpenClaim.pre_eq_preRow]; exact kdcFirst_lifted os started H enc F)
theorem kdcFirst_wfText : Rows.kdcFirstRow.wfByText (OpenSpec.ofChange Rows.kdcFirstSpec) = true := by kernel_rfl
theorem kdcFirst_main : Tryz.pinned.checked.prog.mainIs = some (true, ("485df97083f2a848746c463c7befe76b033b0d0ba34540856cde784224e0a8d8" : String).toList) := by kernel_rfl
theorem kdcFirst_hn : Tryz.prog.funcNamed "legate/legatelaw10.KdcFirst" = some 3 := by kernel_rfl
theorem kdcFirst_hall : (Tryz.f3.params.toList.all fun t => Tryz.prog.wantsStandIn t == false) = true := by kernel_rfl
theorem kdcFirst_goes : false = Rows.kdcFirstRow.goesBy Tryz.pinned.checked.prog := by kernel_rfl
theorem kdcFirst_card : Rows.KdcFirstCardSaid :=
 Claim7.holds_tied_plain_at .later [] _ _ _ _ kdcFirst_said (fun _ h => by cases h) kdcFirst_wfText (fun _ h => by cases h) kdcFirst_row_tie rfl ⟨rfl, rfl⟩ kdcFirst_main rfl (plainOf kdcFirst_hn Tryz.func3 kdcFirst_hall) kdcFirst_goes
end Go.Proofs.YtdnggpdgijobfaaGreatDoor
