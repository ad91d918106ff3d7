import Derived.Test.YtdnggpdgijobfaaGreatDoorA4
import Derived.Test.YtdnggpdgijobfaaGreatDoorA2
import Derived.Test.YtdnggpdgijobfaaGreatDoorCards
import Derived.Test.YtdnggpdgijobfaaGreatDoorTie
import Derived.WalkKit
import Derived.ProofKit
import Derived.OpenShut
import Derived.Deep.DeepHandedRow
import Derived.Lib.LaidTab
import Derived.Test.YtdnggpdgijobfaaGreatDoorA3
set_option linter.all false
set_option maxRecDepth 100000
set_option maxHeartbeats 4000000
set_option linter.unusedVariables false
set_option linter.unusedSimpArgs false
namespace Go.Proofs.Tryz
open Go Ps
/-- As c51, the heap behind it named ahead. -/
theorem c51d {H : PH} {kid rid : Nat} {realm : List UInt8} {rs ls ps : PV} {l : List Ent} {n i : Nat} (hK : Kd H kid rid realm rs ls ps l n i) (hn : n ≤ 100000) (hi : i ≤ 100000)
    (sr sn : List UInt8) (hsr : sr.length ≤ 1000000) (hsn : sn.length ≤ 1000000) (p : Prt) (hr : p.r.length ≤ 1000000) (hpn : p.n.length ≤ 1000000) (ht : p.tr.length ≤ 1000000) (nonce : Int) (bid : Nat) (bkey : List UInt8) (hb : BoxAt H bid bkey) (u : Int) (hu : isUseB u = true) :
    ∃ H1, (Kd H1 kid rid realm rs ls ps l (bump (makeV l n sr sn p nonce bkey u) n 2) (bump (makeV l n sr sn p nonce bkey u) i 1) ∧ Evo (· = kid) H H1 ∧ H1.length = H.length + 1) ∧ CallOk prog 51 [.ptr (some (kid, 0)), .agg ([.str sr, .str sn] ++ p.cells ++ [.int .i64 nonce, .ptr (some (bid, 0)), .int .i64 u])] H fun x H' =>
      x = .tup [.agg (makeV l n sr sn p nonce bkey u).1.cells, .int .i64 (makeV l n sr sn p nonce bkey u).2] ∧ H' = H1 := by
  have e1 : Evo (fun _ => False) H (H ++ [ansO]) := Evo.app H _
  have hK1 := hK.evo e1 id id
  have hb1 := e1.box _ _ hb
  have hlt : kid < H.length := by obtain ⟨v, hv⟩ := hK.k; exact (List.getElem?_eq_some_iff.1 hv).1
  have hne : H.length ≠ kid := by omega
  have ha : (H ++ [ansO])[H.length]? = some ansO := get_last H _
  obtain ⟨v1, hv1⟩ := hK1.k
  have hrl : rid < H.length := by have := hK.ring.ex.choose_spec; exact (List.getElem?_eq_some_iff.1 this).1
  have hg := lastGet hK1.ring (by have := hK1.len; omega) sr sn
  have hEp := c106s p hr hpn ht
  have hEr := c107s (rptOf p sr sn nonce) hsr hsn
  unfold makeV
  cases hL : lastE (isP sr sn) l with
  | none =>
    rw [hL] at hg
    have w : ∃ o, CallOk prog 51 [.ptr (some (kid, 0)), .agg ([.str sr, .str sn] ++ p.cells ++ [.int .i64 nonce, .ptr (some (bid, 0)), .int .i64 u])] H fun x H' => x = .tup [.agg (repZ).cells, .int .i64 4] ∧ H' = (H ++ [ansO]).set H.length o := by
      apply Exists.intro
      (refine callOk_of_pFun2 (tt := ttK) (imm := imm51) follows ttK_ok depth6 func51 (by kernel_rfl) ?_; (conv => whnf))
      refine drawK_pure2 (by kernel_rfl) ?_
      (conv => whnf)
      iterate 3 (apply Exists.intro; apply And.intro; (focus ((conv => whnf); first | exact ⟨rfl, rfl, trivial⟩ | (refine ⟨by omega, ?_⟩; (conv => whnf); exact ⟨rfl, rfl, trivial⟩))); (conv => whnf))
      apply Exists.intro
      apply And.intro
      · (conv => whnf)
        ((conv in (_[_]?) => tactic => exact hv1); (conv => whnf))
        exact ⟨rfl, rfl, trivial⟩
      (conv => whnf)
      iterate 2 (apply Exists.intro; apply And.intro; (focus ((conv => whnf); first | exact ⟨rfl, rfl, trivial⟩ | (refine ⟨by omega, ?_⟩; (conv => whnf); exact ⟨rfl, rfl, trivial⟩))); (conv => whnf))
      refine ⟨_, callK_of hg (by rintro _ _ ⟨rfl, rfl⟩; exact ⟨rfl, rfl, trivial⟩), ?_⟩
      (conv => whnf)
      iterate 7 (apply Exists.intro; apply And.intro; (focus ((conv => whnf); first | exact ⟨rfl, rfl, trivial⟩ | (refine ⟨by omega, ?_⟩; (conv => whnf); exact ⟨rfl, rfl, trivial⟩))); (conv => whnf))
      refine ⟨fun h => absurd h (by decide), fun _ => ?_⟩
      (conv => whnf)
      ((conv in (_[_]?) => tactic => exact ha); (conv => whnf))
      ((conv in (_[_]?) => tactic => exact (show ((H ++ [ansO]).set H.length _)[H.length]? = some _ from get_set ha)); (conv => whnf))
      exact ⟨rfl, rfl⟩
    obtain ⟨o, ho⟩ := w
    have e2 : Evo (fun i => i = kid ∨ i = H.length) (H ++ [ansO]) ((H ++ [ansO]).set H.length o) := Evo.setOther ha (.inr rfl) ansT.1 ansT.2
    have e3 : Evo (fun i => i = H.length) (H ++ [ansO]) ((H ++ [ansO]).set H.length o) := Evo.setOther ha rfl ansT.1 ansT.2
    exact ⟨_, ⟨hK1.evo e3 (Ne.symm hne) (by show ¬ rid = H.length; omega), ((e1.mono fun _ h => h.elim).trans e2).drop (Nat.le_refl _), by simp⟩, ho⟩
  | some e =>
    rw [hL] at hg
    cases hP : isPartB p with
    | false =>
      rw [(ePrt p).2 hP] at hEp
      have w : ∃ o, CallOk prog 51 [.ptr (some (kid, 0)), .agg ([.str sr, .str sn] ++ p.cells ++ [.int .i64 nonce, .ptr (some (bid, 0)), .int .i64 u])] H fun x H' => x = .tup [.agg (repZ).cells, .int .i64 2] ∧ H' = (H ++ [ansO]).set H.length o := by
        apply Exists.intro
        (refine callOk_of_pFun2 (tt := ttK) (imm := imm51) follows ttK_ok depth6 func51 (by kernel_rfl) ?_; (conv => whnf))
        refine drawK_pure2 (by kernel_rfl) ?_
        (conv => whnf)
        iterate 3 (apply Exists.intro; apply And.intro; (focus ((conv => whnf); first | exact ⟨rfl, rfl, trivial⟩ | (refine ⟨by omega, ?_⟩; (conv => whnf); exact ⟨rfl, rfl, trivial⟩))); (conv => whnf))
        apply Exists.intro
        apply And.intro
        · (conv => whnf)
          ((conv in (_[_]?) => tactic => exact hv1); (conv => whnf))
          exact ⟨rfl, rfl, trivial⟩
        (conv => whnf)
        iterate 2 (apply Exists.intro; apply And.intro; (focus ((conv => whnf); first | exact ⟨rfl, rfl, trivial⟩ | (refine ⟨by omega, ?_⟩; (conv => whnf); exact ⟨rfl, rfl, trivial⟩))); (conv => whnf))
        refine ⟨_, callK_of hg (by rintro _ _ ⟨rfl, rfl⟩; exact ⟨rfl, rfl, trivial⟩), ?_⟩
        (conv => whnf)
        iterate 7 (apply Exists.intro; apply And.intro; (focus ((conv => whnf); first | exact ⟨rfl, rfl, trivial⟩ | (refine ⟨by omega, ?_⟩; (conv => whnf); exact ⟨rfl, rfl, trivial⟩))); (conv => whnf))
        refine ⟨fun _ => ?_, fun h => absurd rfl h⟩
        (conv => whnf)
        refine callK_pure hEp ?_
        (conv => whnf)
        refine callK_pure hEr ?_
        (conv => whnf)
        refine ⟨fun h => absurd h (by decide), fun _ => ?_⟩
        (conv => whnf)
        ((conv in (_[_]?) => tactic => exact ha); (conv => whnf))
        ((conv in (_[_]?) => tactic => exact (show ((H ++ [ansO]).set H.length _)[H.length]? = some _ from get_set ha)); (conv => whnf))
        exact ⟨rfl, rfl⟩
      obtain ⟨o, ho⟩ := w
      have e2 : Evo (fun i => i = kid ∨ i = H.length) (H ++ [ansO]) ((H ++ [ansO]).set H.length o) := Evo.setOther ha (.inr rfl) ansT.1 ansT.2
      have e3 : Evo (fun i => i = H.length) (H ++ [ansO]) ((H ++ [ansO]).set H.length o) := Evo.setOther ha rfl ansT.1 ansT.2
      exact ⟨_, ⟨hK1.evo e3 (Ne.symm hne) (by show ¬ rid = H.length; omega), ((e1.mono fun _ h => h.elim).trans e2).drop (Nat.le_refl _), by simp⟩, ho⟩
    | true =>
      cases hR : isRptB (rptOf p sr sn nonce) with
      | false =>
        rw [((ePrt p).1 hP).1, ((ePrt p).1 hP).2] at hEp
        rw [(eRpt _).2 hR] at hEr
        have w : ∃ o, CallOk prog 51 [.ptr (some (kid, 0)), .agg ([.str sr, .str sn] ++ p.cells ++ [.int .i64 nonce, .ptr (some (bid, 0)), .int .i64 u])] H fun x H' => x = .tup [.agg (repZ).cells, .int .i64 2] ∧ H' = (H ++ [ansO]).set H.length o := by
          apply Exists.intro
          (refine callOk_of_pFun2 (tt := ttK) (imm := imm51) follows ttK_ok depth6 func51 (by kernel_rfl) ?_; (conv => whnf))
          refine drawK_pure2 (by kernel_rfl) ?_
          (conv => whnf)
          iterate 3 (apply Exists.intro; apply And.intro; (focus ((conv => whnf); first | exact ⟨rfl, rfl, trivial⟩ | (refine ⟨by omega, ?_⟩; (conv => whnf); exact ⟨rfl, rfl, trivial⟩))); (conv => whnf))
          apply Exists.intro
          apply And.intro
          · (conv => whnf)
            ((conv in (_[_]?) => tactic => exact hv1); (conv => whnf))
            exact ⟨rfl, rfl, trivial⟩
          (conv => whnf)
          iterate 2 (apply Exists.intro; apply And.intro; (focus ((conv => whnf); first | exact ⟨rfl, rfl, trivial⟩ | (refine ⟨by omega, ?_⟩; (conv => whnf); exact ⟨rfl, rfl, trivial⟩))); (conv => whnf))
          refine ⟨_, callK_of hg (by rintro _ _ ⟨rfl, rfl⟩; exact ⟨rfl, rfl, trivial⟩), ?_⟩
          (conv => whnf)
          iterate 7 (apply Exists.intro; apply And.intro; (focus ((conv => whnf); first | exact ⟨rfl, rfl, trivial⟩ | (refine ⟨by omega, ?_⟩; (conv => whnf); exact ⟨rfl, rfl, trivial⟩))); (conv => whnf))
          refine ⟨fun _ => ?_, fun h => absurd rfl h⟩
          (conv => whnf)
          refine callK_pure hEp ?_
          (conv => whnf)
          refine callK_pure hEr ?_
          (conv => whnf)
          refine ⟨fun _ => ?_, fun h => absurd rfl h⟩
          (conv => whnf)
          refine ⟨fun h => absurd h (by decide), fun _ => ?_⟩
          (conv => whnf)
          ((conv in (_[_]?) => tactic => exact ha); (conv => whnf))
          ((conv in (_[_]?) => tactic => exact (show ((H ++ [ansO]).set H.length _)[H.length]? = some _ from get_set ha)); (conv => whnf))
          exact ⟨rfl, rfl⟩
        obtain ⟨o, ho⟩ := w
        have e2 : Evo (fun i => i = kid ∨ i = H.length) (H ++ [ansO]) ((H ++ [ansO]).set H.length o) := Evo.setOther ha (.inr rfl) ansT.1 ansT.2
        have e3 : Evo (fun i => i = H.length) (H ++ [ansO]) ((H ++ [ansO]).set H.length o) := Evo.setOther ha rfl ansT.1 ansT.2
        exact ⟨_, ⟨hK1.evo e3 (Ne.symm hne) (by show ¬ rid = H.length; omega), ((e1.mono fun _ h => h.elim).trans e2).drop (Nat.le_refl _), by simp⟩, ho⟩
      | true =>
        rw [((ePrt p).1 hP).1, ((ePrt p).1 hP).2] at hEp
        rw [((eRpt _).1 hR).1, ((eRpt _).1 hR).2] at hEr
        have hP7 := partL_784 hP
        have hR7 := rptL_784 hR
        have hP0 := Nat.zero_lt_of_ne_zero (show (partL p).length ≠ 0 from Nat.succ_ne_zero _)
        have hR0 := Nat.zero_lt_of_ne_zero (show (rptL (rptOf p sr sn nonce)).length ≠ 0 from Nat.succ_ne_zero _)
        show ∃ H1, (Kd H1 kid rid realm rs ls ps l (n + 2) (i + 1) ∧ Evo (· = kid) H H1 ∧ H1.length = H.length + 1) ∧ CallOk prog 51 [.ptr (some (kid, 0)), .agg ([.str sr, .str sn] ++ p.cells ++ [.int .i64 nonce, .ptr (some (bid, 0)), .int .i64 u])] H fun x H' =>
          x = .tup [.agg (RepO.cells ⟨p.r, p.n, sr, sn, e.kv, sealK e.key 2 (n + 1 : Int) (partL p), sealK bkey u (n + 2 : Int) (rptL (rptOf p sr sn nonce))⟩), .int .i64 0] ∧ H' = H1
        generalize partL p = pb at *
        generalize rptL (rptOf p sr sn nonce) = rb at *
        have hbx := hK1.ring.box e (lastE_mem hL)
        have hw1 : ((n : Int) + 1) = ((n + 1 : Nat) : Int) := by push_cast; rfl
        have hw2 : ((n : Int) + 2) = ((n + 2 : Nat) : Int) := by push_cast; rfl
        obtain ⟨hK2, e2⟩ := hK1.put (n + 1) i (v1 + 1)
        obtain ⟨H3, e3, l3, hc3⟩ := sealX (e2.box _ _ hbx) 2 ((n + 1 : Nat) : Int) rfl (by omega) (by omega) pb hP7 hP0
        have hK3 := hK2.evo e3 id id
        have hb3 := e3.box _ _ (e2.box _ _ hb1)
        obtain ⟨v3, hv3⟩ := hK3.k
        obtain ⟨hK4, e4⟩ := hK3.put (n + 2) i (v3 + 1)
        obtain ⟨H5, e5, l5, hc5⟩ := sealX (e4.box _ _ hb3) u ((n + 2 : Nat) : Int) hu (by omega) (by omega) rb hR7 hR0
        have hK5 := hK4.evo e5 id id
        obtain ⟨v5, hv5⟩ := hK5.k
        obtain ⟨hK6, e6⟩ := hK5.put (n + 2) (i + 1) (v5 + 1)
        have e16 : Evo (· = kid) (H ++ [ansO]) (H5.set kid (kdcO realm rs ls ps rid ((n + 2 : Nat) : Int) ((i + 1 : Nat) : Int) (v5 + 1))) := (((e2.trans (e3.mono fun _ h => h.elim)).trans e4).trans (e5.mono fun _ h => h.elim)).trans e6
        have ha6 := e16.same _ _ ha hne ansT.1 ansT.2
        have w : ∃ o, CallOk prog 51 [.ptr (some (kid, 0)), .agg ([.str sr, .str sn] ++ p.cells ++ [.int .i64 nonce, .ptr (some (bid, 0)), .int .i64 u])] H fun x H' => x = .tup [.agg (RepO.cells ⟨p.r, p.n, sr, sn, e.kv, sealK e.key 2 (n + 1 : Int) pb, sealK bkey u (n + 2 : Int) rb⟩), .int .i64 0] ∧ H' = (H5.set kid (kdcO realm rs ls ps rid ((n + 2 : Nat) : Int) ((i + 1 : Nat) : Int) (v5 + 1))).set H.length o := by
          apply Exists.intro
          (refine callOk_of_pFun2 (tt := ttK) (imm := imm51) follows ttK_ok depth6 func51 (by kernel_rfl) ?_; (conv => whnf))
          refine drawK_pure2 (by kernel_rfl) ?_
          (conv => whnf)
          iterate 3 (apply Exists.intro; apply And.intro; (focus ((conv => whnf); first | exact ⟨rfl, rfl, trivial⟩ | (refine ⟨by omega, ?_⟩; (conv => whnf); exact ⟨rfl, rfl, trivial⟩))); (conv => whnf))
          apply Exists.intro
          apply And.intro
          · (conv => whnf)
            ((conv in (_[_]?) => tactic => exact hv1); (conv => whnf))
            exact ⟨rfl, rfl, trivial⟩
          (conv => whnf)
          iterate 2 (apply Exists.intro; apply And.intro; (focus ((conv => whnf); first | exact ⟨rfl, rfl, trivial⟩ | (refine ⟨by omega, ?_⟩; (conv => whnf); exact ⟨rfl, rfl, trivial⟩))); (conv => whnf))
          refine ⟨_, callK_of hg (by rintro _ _ ⟨rfl, rfl⟩; exact ⟨rfl, rfl, trivial⟩), ?_⟩
          (conv => whnf)
          iterate 7 (apply Exists.intro; apply And.intro; (focus ((conv => whnf); first | exact ⟨rfl, rfl, trivial⟩ | (refine ⟨by omega, ?_⟩; (conv => whnf); exact ⟨rfl, rfl, trivial⟩))); (conv => whnf))
          refine ⟨fun _ => ?_, fun h => absurd rfl h⟩
          (conv => whnf)
          refine callK_pure hEp ?_
          (conv => whnf)
          refine callK_pure hEr ?_
          (conv => whnf)
          refine ⟨fun _ => ?_, fun h => absurd rfl h⟩
          (conv => whnf)
          refine ⟨fun _ => ?_, fun h => absurd rfl h⟩
          (conv => whnf)
          refine callK_of (c109x hv1 (by omega)) ?_
          rintro _ _ ⟨rfl, rfl⟩
          (conv => whnf)
          refine callK_of hc3 ?_
          rintro _ _ ⟨hx3, hH3⟩
          rw [hx3, hH3]; clear hx3 hH3
          (conv => whnf)
          refine drawK_of2 D51 [H3, H3.set kid (kdcO realm rs ls ps rid ((n + 2 : Nat) : Int) i (v3 + 1)), H5] (by kernel_rfl) rfl trivial ?_
          (conv => whnf)
          iterate 4 (apply Exists.intro; apply And.intro; (focus ((conv => whnf); apply And.intro; (focus ((conv => whnf); first | exact ⟨rfl, rfl, trivial⟩ | (refine ⟨by omega, ?_⟩; (conv => whnf); exact ⟨rfl, rfl, trivial⟩))); ((conv => whnf); first | exact ⟨rfl, rfl, trivial⟩ | (refine ⟨by omega, ?_⟩; (conv => whnf); exact ⟨rfl, rfl, trivial⟩)))); (conv => whnf))
          (apply Exists.intro; apply And.intro; (focus ((conv => whnf); first | exact ⟨rfl, rfl, trivial⟩ | (refine ⟨by omega, ?_⟩; (conv => whnf); exact ⟨rfl, rfl, trivial⟩))); (conv => whnf))
          refine ⟨.int .i64 ((n + 2 : Nat) : Int), ?_, ?_⟩
          · (conv => whnf)
            refine callK_of (c109x hv3 (by omega)) ?_
            rintro _ _ ⟨rfl, rfl⟩
            exact ⟨rfl, rfl, trivial⟩
          (conv => whnf)
          (apply Exists.intro; apply And.intro; (focus ((conv => whnf); apply And.intro; (focus ((conv => whnf); first | exact ⟨rfl, rfl, trivial⟩ | (refine ⟨by omega, ?_⟩; (conv => whnf); exact ⟨rfl, rfl, trivial⟩))); ((conv => whnf); first | exact ⟨rfl, rfl, trivial⟩ | (refine ⟨by omega, ?_⟩; (conv => whnf); exact ⟨rfl, rfl, trivial⟩)))); (conv => whnf))
          refine ⟨_, callK_of hc5 (by rintro _ _ ⟨rfl, rfl⟩; exact ⟨rfl, rfl, trivial⟩), ?_⟩
          (conv => whnf)
          iterate 5 (apply Exists.intro; apply And.intro; (focus ((conv => whnf); first | exact ⟨rfl, rfl, trivial⟩ | (refine ⟨by omega, ?_⟩; (conv => whnf); exact ⟨rfl, rfl, trivial⟩))); (conv => whnf))
          (conv => whnf)
          refine callK_of (c110 (off := 6) (n := i) 1 hv5 rfl) ?_
          rintro _ H6 ⟨rfl, hH6⟩
          have hwi : IntKind.i64.wrap ((i : Int) + 1) = ((i + 1 : Nat) : Int) := by rw [wrap64 (by omega) (by omega)]; rfl
          have hk6 : (⟨(kdcO realm rs ls ps rid ((n + 2 : Nat) : Int) i v5).T, setCells 6 [.int .i64 (IntKind.i64.wrap ((i : Int) + 1))] (kdcO realm rs ls ps rid ((n + 2 : Nat) : Int) i v5).cs, (kdcO realm rs ls ps rid ((n + 2 : Nat) : Int) i v5).ver + 1⟩ : PObj) = kdcO realm rs ls ps rid ((n + 2 : Nat) : Int) ((i + 1 : Nat) : Int) (v5 + 1) := by
            rw [hwi]; rfl
          replace hH6 : H6 = H5.set kid (kdcO realm rs ls ps rid ((n + 2 : Nat) : Int) ((i + 1 : Nat) : Int) (v5 + 1)) := hH6.trans (congrArg (fun o => H5.set kid o) hk6)
          rw [hH6]; clear hH6 H6
          (conv => whnf)
          ((conv in (_[_]?) => tactic => exact ha6); (conv => whnf))
          ((conv in (_[_]?) => tactic => exact (show ((H5.set kid (kdcO realm rs ls ps rid ((n + 2 : Nat) : Int) ((i + 1 : Nat) : Int) (v5 + 1))).set H.length _)[H.length]? = some _ from get_set ha6)); (conv => whnf))
          exact ⟨rfl, rfl⟩
        obtain ⟨o, ho⟩ := w
        have e7 : Evo (fun i => i = H.length) (H5.set kid (kdcO realm rs ls ps rid ((n + 2 : Nat) : Int) ((i + 1 : Nat) : Int) (v5 + 1))) ((H5.set kid (kdcO realm rs ls ps rid ((n + 2 : Nat) : Int) ((i + 1 : Nat) : Int) (v5 + 1))).set H.length o) := Evo.setOther ha6 rfl ansT.1 ansT.2
        exact ⟨_, ⟨hK6.evo e7 (Ne.symm hne) (by show ¬ rid = H.length; omega), Evo.drop (S := (· = kid)) (((e1.mono fun _ h => h.elim).trans (e16.mono fun _ h => .inl h)).trans (e7.mono fun _ h => .inr h)) (Nat.le_refl _), by simp [l3, l5]⟩, ho⟩
end Go.Proofs.Tryz

set_option maxRecDepth 100000
set_option maxHeartbeats 8000000
set_option linter.unusedVariables false
set_option linter.unusedSimpArgs false
namespace Go.Proofs.Tryz
open Go Ps
/-- As c16, where all is well; the heap behind it named ahead. -/
theorem c16g {H : PH} {kid rid : Nat} {realm : List UInt8} {rs ls ps : PV} {l : List Ent} {n i : Nat} (hK : Kd H kid rid realm rs ls ps l n i) (hn : n ≤ 100000) (hi : i ≤ 100000) (hrl : realm.length ≤ 1000000)
    (q : AsQ) (hf : q.fit) (now : Int) (draw : Nat → UInt8) (hl : lateB now = false) (hq : q.ok = true) (c s : Ent) (hC : lastE (isP q.cr q.cn) l = some c) (hS : lastE (isP q.sr q.sn) l = some s)
    (hcr : q.cr = realm) (hs : q.sr = realm ∧ q.sn = krb realm) (ht : ¬ q.till < now) :
    ∃ H1, (Kd H1 kid rid realm rs ls ps l (bump (makeV l n q.sr q.sn (asPart q now draw) q.nonce c.key 3) n 2) (bump (makeV l n q.sr q.sn (asPart q now draw) q.nonce c.key 3) i 1) ∧ Evo (· = kid) H H1 ∧ H1.length = H.length + 3) ∧ CallOk prog 16 [.ptr (some (kid, 0)), .agg q.cells, .int .i64 now, .agg (keyC draw)] H fun x H' =>
      x = .tup [.agg (makeV l n q.sr q.sn (asPart q now draw) q.nonce c.key 3).1.cells, .int .i64 (makeV l n q.sr q.sn (asPart q now draw) q.nonce c.key 3).2] ∧ H' = H1 := by
  have e1 : Evo (fun _ => False) H (H ++ [ansO]) := Evo.app H _
  have hK1 := hK.evo e1 id id
  have hlt : kid < H.length := by obtain ⟨v, hv⟩ := hK.k; exact (List.getElem?_eq_some_iff.1 hv).1
  have hrlt : rid < H.length := by have := hK.ring.ex.choose_spec; exact (List.getElem?_eq_some_iff.1 this).1
  have hne : H.length ≠ kid := by omega
  have ha : (H ++ [ansO])[H.length]? = some ansO := get_last H _
  obtain ⟨v1, hv1⟩ := hK1.k
  have hfit : (asMsg q).fits := by
    obtain ⟨f1, f2, f3, f4⟩ := hf
    unfold Msg.fits asMsg mZ
    exact ⟨by show q.cr.length ≤ _; omega, by show q.cn.length ≤ _; omega, by show q.sr.length ≤ _; omega, by show q.sn.length ≤ _; omega, Nat.zero_le _, Nat.zero_le _, Nat.zero_le _, Nat.zero_le _, Nat.zero_le _, Nat.zero_le _, Nat.zero_le _, Nat.zero_le _, Nat.zero_le _, Nat.zero_le _⟩
  have hgC := lastGet hK1.ring (by have := hK1.len; omega) q.cr q.cn
  have hgS := lastGet hK1.ring (by have := hK1.len; omega) q.sr q.sn
  rw [hC] at hgC
  rw [hS] at hgS
  have hnow : 0 ≤ now ∧ now ≤ 1073741824 := by
    unfold lateB at hl
    rw [Bool.or_eq_false_iff, decide_eq_false_iff_not, decide_eq_false_iff_not] at hl
    omega
  have hw : IntKind.i64.wrap (now + 1000) = now + 1000 := wrap64 (by omega) (by omega)
  have hp : asPart q now draw = ⟨q.cr, q.cn, draw, [], now, min q.till (IntKind.i64.wrap (now + 1000))⟩ := by unfold asPart; rw [hw]
  have e2 : Evo (fun _ => False) (H ++ [ansO]) ((H ++ [ansO]) ++ [⟨50, (asPart q now draw).cells, 1⟩]) := Evo.app _ _
  have hK2 := hK1.evo e2 id id
  obtain ⟨H6, ⟨hK6, e6, l6⟩, h51⟩ := c51d hK2 hn hi q.sr q.sn hf.sr hf.sn (asPart q now draw) hf.cr hf.cn (Nat.zero_le _) q.nonce c.box c.key (hK2.ring.box c (lastE_mem hC)) 3 rfl
  have hset5 : ∀ x : PObj, CallOk prog 51 [.ptr (some (kid, 0)), .agg ([.str q.sr, .str q.sn] ++ (asPart q now draw).cells ++ [.int .i64 q.nonce, .ptr (some (c.box, 0)), .int .i64 3])] (((H ++ [ansO]) ++ [x]).set (H ++ [ansO]).length (⟨50, (⟨q.cr, q.cn, draw, [], now, min q.till (IntKind.i64.wrap (now + 1000))⟩ : Prt).cells, 1⟩ : PObj)) fun x H' => x = .tup [.agg (makeV l n q.sr q.sn (asPart q now draw) q.nonce c.key 3).1.cells, .int .i64 (makeV l n q.sr q.sn (asPart q now draw) q.nonce c.key 3).2] ∧ H' = H6 := fun x => by
    rw [set_last, ← hp]; exact h51
  have ha2 : ((H ++ [ansO]) ++ [(⟨50, (asPart q now draw).cells, 1⟩ : PObj)])[H.length]? = some ansO := by rw [List.getElem?_append_left (by simp)]; exact ha
  have ha6 : H6[H.length]? = some ansO := e6.same _ _ ha2 hne ansT.1 ansT.2
  have w : ∃ o, CallOk prog 16 [.ptr (some (kid, 0)), .agg q.cells, .int .i64 now, .agg (keyC draw)] H fun x H' => x = .tup [.agg (makeV l n q.sr q.sn (asPart q now draw) q.nonce c.key 3).1.cells, .int .i64 (makeV l n q.sr q.sn (asPart q now draw) q.nonce c.key 3).2] ∧ H' = H6.set H.length o := by
    apply Exists.intro
    (refine callOk_of_pFun2 (tt := ttK) (imm := imm16) follows ttK_ok depth6 func16 (by kernel_rfl) ?_; (conv => whnf))
    refine callK_pure ((c47 (asMsg q) hfit).of_eq (encAs_yes q hq)) ?_
    (conv => whnf)
    refine callK_pure (c48 now) ?_
    rw [hl]
    (conv => whnf)
    refine ⟨fun _ => ?_, fun h => absurd rfl h⟩
    (conv => whnf)
    refine drawK_pure2 (by kernel_rfl) ?_
    (conv => whnf)
    iterate 3 (apply Exists.intro; apply And.intro; (focus ((conv => whnf); first | exact ⟨rfl, rfl, trivial⟩ | (refine ⟨by omega, ?_⟩; (conv => whnf); exact ⟨rfl, rfl, trivial⟩))); (conv => whnf))
    apply Exists.intro
    apply And.intro
    · (conv => whnf)
      ((conv in (_[_]?) => tactic => exact hv1); (conv => whnf))
      exact ⟨rfl, rfl, trivial⟩
    (conv => whnf)
    iterate 2 (apply Exists.intro; apply And.intro; (focus ((conv => whnf); first | exact ⟨rfl, rfl, trivial⟩ | (refine ⟨by omega, ?_⟩; (conv => whnf); exact ⟨rfl, rfl, trivial⟩))); (conv => whnf))
    refine ⟨_, callK_of hgC (by rintro _ _ ⟨rfl, rfl⟩; exact ⟨rfl, rfl, trivial⟩), ?_⟩
    (conv => whnf)
    iterate 7 (apply Exists.intro; apply And.intro; (focus ((conv => whnf); first | exact ⟨rfl, rfl, trivial⟩ | (refine ⟨by omega, ?_⟩; (conv => whnf); exact ⟨rfl, rfl, trivial⟩))); (conv => whnf))
    refine drawK_pure2 (by kernel_rfl) ?_
    (conv => whnf)
    iterate 3 (apply Exists.intro; apply And.intro; (focus ((conv => whnf); first | exact ⟨rfl, rfl, trivial⟩ | (refine ⟨by omega, ?_⟩; (conv => whnf); exact ⟨rfl, rfl, trivial⟩))); (conv => whnf))
    apply Exists.intro
    apply And.intro
    · (conv => whnf)
      ((conv in (_[_]?) => tactic => exact hv1); (conv => whnf))
      exact ⟨rfl, rfl, trivial⟩
    (conv => whnf)
    iterate 2 (apply Exists.intro; apply And.intro; (focus ((conv => whnf); first | exact ⟨rfl, rfl, trivial⟩ | (refine ⟨by omega, ?_⟩; (conv => whnf); exact ⟨rfl, rfl, trivial⟩))); (conv => whnf))
    refine ⟨_, callK_of hgS (by rintro _ _ ⟨rfl, rfl⟩; exact ⟨rfl, rfl, trivial⟩), ?_⟩
    (conv => whnf)
    iterate 7 (apply Exists.intro; apply And.intro; (focus ((conv => whnf); first | exact ⟨rfl, rfl, trivial⟩ | (refine ⟨by omega, ?_⟩; (conv => whnf); exact ⟨rfl, rfl, trivial⟩))); (conv => whnf))
    refine drawK_pure2 (by kernel_rfl) ?_
    (conv => whnf)
    iterate 6 (apply Exists.intro; apply And.intro; (focus ((conv => whnf); first | exact ⟨rfl, rfl, trivial⟩ | (refine ⟨by omega, ?_⟩; (conv => whnf); exact ⟨rfl, rfl, trivial⟩))); (conv => whnf))
    apply Exists.intro
    apply And.intro
    · (conv => whnf)
      ((conv in (_[_]?) => tactic => exact hv1); (conv => whnf))
      exact ⟨rfl, rfl, trivial⟩
    (conv => whnf)
    refine ⟨.bool false, ?_, ?_⟩
    · (conv => whnf)
      exact ⟨fun h => ⟨rfl, rfl, trivial⟩, fun h => absurd hcr h⟩
    (conv => whnf)
    iterate 2 (apply Exists.intro; apply And.intro; (focus ((conv => whnf); first | exact ⟨rfl, rfl, trivial⟩ | (refine ⟨by omega, ?_⟩; (conv => whnf); exact ⟨rfl, rfl, trivial⟩))); (conv => whnf))
    refine ⟨.bool false, ?_, ?_⟩
    · (conv => whnf)
      exact ⟨fun h => ⟨rfl, rfl, trivial⟩, fun h => absurd rfl h⟩
    (conv => whnf)
    iterate 2 (apply Exists.intro; apply And.intro; (focus ((conv => whnf); first | exact ⟨rfl, rfl, trivial⟩ | (refine ⟨by omega, ?_⟩; (conv => whnf); exact ⟨rfl, rfl, trivial⟩))); (conv => whnf))

    (conv => whnf)
    refine drawK_pure2 (by kernel_rfl) ?_
    (conv => whnf)
    iterate 6 (apply Exists.intro; apply And.intro; (focus ((conv => whnf); first | exact ⟨rfl, rfl, trivial⟩ | (refine ⟨by omega, ?_⟩; (conv => whnf); exact ⟨rfl, rfl, trivial⟩))); (conv => whnf))
    apply Exists.intro
    apply And.intro
    · (conv => whnf)
      ((conv in (_[_]?) => tactic => exact hv1); (conv => whnf))
      exact ⟨rfl, rfl, trivial⟩
    (conv => whnf)
    refine ⟨_, callK_of (c50 hv1 realm hrl) (by rintro _ _ ⟨rfl, rfl⟩; exact ⟨rfl, rfl, trivial⟩), ?_⟩
    (conv => whnf)

    refine ⟨.bool false, ?_, ?_⟩
    · (conv => whnf)
      exact ⟨⟨fitK _ _, fitK _ _⟩, fun h => ⟨rfl, rfl, trivial⟩, fun h => absurd (two_eq' hs) h⟩
    (conv => whnf)
    iterate 2 (apply Exists.intro; apply And.intro; (focus ((conv => whnf); first | exact ⟨rfl, rfl, trivial⟩ | (refine ⟨by omega, ?_⟩; (conv => whnf); exact ⟨rfl, rfl, trivial⟩))); (conv => whnf))
    refine ⟨.bool false, ?_, ?_⟩
    · (conv => whnf)
      exact ⟨fun h => ⟨rfl, rfl, trivial⟩, fun h => absurd rfl h⟩
    (conv => whnf)
    iterate 2 (apply Exists.intro; apply And.intro; (focus ((conv => whnf); first | exact ⟨rfl, rfl, trivial⟩ | (refine ⟨by omega, ?_⟩; (conv => whnf); exact ⟨rfl, rfl, trivial⟩))); (conv => whnf))

    (conv => whnf)
    refine ⟨fun h => absurd h ht, fun h => ?_⟩

    (conv => whnf)
    ((conv in (_[_]?) => tactic => exact (get_last (H ++ [ansO]) _)); (conv => whnf))
    ((conv in (_[_]?) => tactic => exact (show (((H ++ [ansO]) ++ [_]).set (H ++ [ansO]).length _)[(H ++ [ansO]).length]? = some _ from get_set (get_last (H ++ [ansO]) _))); (conv => whnf))
    refine callK_args (args' := [.ptr (some (kid, 0)), .agg ([.str q.sr, .str q.sn] ++ (asPart q now draw).cells ++ [.int .i64 q.nonce, .ptr (some (c.box, 0)), .int .i64 3])]) (by rw [hp]; rfl) ?_
    refine callK_of (H := (((H ++ [ansO]) ++ [_]).set (H ++ [ansO]).length _)) ((hset5 ⟨50, [.str [], .str []] ++ List.replicate 32 (.int .u8 0) ++ [.str [], .int .i64 0, .int .i64 0], 0⟩)) ?_
    rintro _ _ ⟨hx6, hH6⟩
    rw [hx6, hH6]; clear hx6 hH6
    (conv => whnf)
    ((conv in (_[_]?) => tactic => exact ha6); (conv => whnf))
    ((conv in (_[_]?) => tactic => exact (show (H6.set H.length _)[H.length]? = some _ from get_set ha6)); (conv => whnf))
    exact ⟨rfl, rfl⟩
  obtain ⟨o, ho⟩ := w
  have e7 : Evo (fun i => i = H.length) H6 (H6.set H.length o) := Evo.setOther ha6 rfl ansT.1 ansT.2
  exact ⟨_, ⟨hK6.evo e7 (Ne.symm hne) (by show ¬ rid = H.length; omega), Evo.drop (S := (· = kid)) ((((e1.mono fun _ h => h.elim).trans (e2.mono fun _ h => h.elim)).trans (e6.mono fun _ h => .inl h)).trans (e7.mono fun _ h => .inr h)) (Nat.le_refl _), by simp [l6]⟩, ho⟩
end Go.Proofs.Tryz

set_option maxRecDepth 100000
set_option maxHeartbeats 8000000
set_option linter.unusedVariables false
set_option linter.unusedSimpArgs false
namespace Go.Proofs.Tryz
open Go Ps
def E30 : PObj := ⟨30, [.str [], .str [], .str [], .str [], .int .i64 0, .slice 0 [] (some 5), .slice 0 [] (some 5)], 1⟩
/-- As c16, where it is refused; the heap behind it named ahead. -/
theorem c16b {H : PH} {kid rid : Nat} {realm : List UInt8} {rs ls ps : PV} {l : List Ent} {n i : Nat} (hK : Kd H kid rid realm rs ls ps l n i) (hn : n ≤ 100000) (hi : i ≤ 100000) (hrl : realm.length ≤ 1000000)
    (q : AsQ) (hf : q.fit) (now : Int) (draw : Nat → UInt8) (hng : ¬ (lateB now = false ∧ q.ok = true ∧ (∃ c, lastE (isP q.cr q.cn) l = some c) ∧ (∃ s, lastE (isP q.sr q.sn) l = some s) ∧ q.cr = realm ∧ (q.sr = realm ∧ q.sn = krb realm) ∧ ¬ q.till < now)) :
    CallOk prog 16 [.ptr (some (kid, 0)), .agg q.cells, .int .i64 now, .agg (keyC draw)] H fun x H' => x = .tup [.agg (asV realm l n q now draw).1.cells, .int .i64 (asV realm l n q now draw).2] ∧ H' = (H ++ [ansO]).set H.length E30 := by
  have e1 : Evo (fun _ => False) H (H ++ [ansO]) := Evo.app H _
  have hK1 := hK.evo e1 id id
  have hlt : kid < H.length := by obtain ⟨v, hv⟩ := hK.k; exact (List.getElem?_eq_some_iff.1 hv).1
  have hrlt : rid < H.length := by have := hK.ring.ex.choose_spec; exact (List.getElem?_eq_some_iff.1 this).1
  have hne : H.length ≠ kid := by omega
  have ha : (H ++ [ansO])[H.length]? = some ansO := get_last H _
  obtain ⟨v1, hv1⟩ := hK1.k
  obtain ⟨r, hr⟩ : ∃ r, r = asV realm l n q now draw := ⟨_, rfl⟩
  rw [← hr]
  have bad : ∀ (e : Int), r = (repZ, e) ∧ e ≠ 0 → (PV.tup [.agg [.str [], .str [], .str [], .str [], .int .i64 0, .slice 0 [] none, .slice 0 [] none], .int .i64 e] = PV.tup [.agg r.1.cells, .int .i64 r.2]) ∧
      (H ++ [ansO]).set H.length E30 = (H ++ [ansO]).set H.length E30 := fun e he => ⟨by rw [he.1]; rfl, rfl⟩
  have hfit : (asMsg q).fits := by
    obtain ⟨f1, f2, f3, f4⟩ := hf
    unfold Msg.fits asMsg mZ
    exact ⟨by show q.cr.length ≤ _; omega, by show q.cn.length ≤ _; omega, by show q.sr.length ≤ _; omega, by show q.sn.length ≤ _; omega, Nat.zero_le _, Nat.zero_le _, Nat.zero_le _, Nat.zero_le _, Nat.zero_le _, Nat.zero_le _, Nat.zero_le _, Nat.zero_le _, Nat.zero_le _, Nat.zero_le _⟩
  (refine callOk_of_pFun2 (tt := ttK) (imm := imm16) follows ttK_ok depth6 func16 (by kernel_rfl) ?_; (conv => whnf))
  cases hq : q.ok with
  | false =>
    have hr1 : r = (repZ, 1) := by rw [hr]; unfold asV; rw [hq, Bool.not_false, Bool.or_true]
    refine callK_pure ((c47 (asMsg q) hfit).of_eq (encAs_no q hq)) ?_
    (conv => whnf)
    refine callK_pure (c48 now) ?_
    cases hl : lateB now with
    | true =>
      (conv => whnf)
      ((conv in (_[_]?) => tactic => exact ha); (conv => whnf))
      ((conv in (_[_]?) => tactic => exact (show ((H ++ [ansO]).set H.length _)[H.length]? = some _ from get_set ha)); (conv => whnf))
      exact bad 1 (by exact ⟨hr1, by decide⟩)
    | false =>
      (conv => whnf)
      refine ⟨fun h => absurd h (by decide), fun _ => ?_⟩
      (conv => whnf)
      ((conv in (_[_]?) => tactic => exact ha); (conv => whnf))
      ((conv in (_[_]?) => tactic => exact (show ((H ++ [ansO]).set H.length _)[H.length]? = some _ from get_set ha)); (conv => whnf))
      exact bad 1 (by exact ⟨hr1, by decide⟩)
  | true =>
    refine callK_pure ((c47 (asMsg q) hfit).of_eq (encAs_yes q hq)) ?_
    (conv => whnf)
    refine callK_pure (c48 now) ?_
    cases hl : lateB now with
    | true =>
      have hr1 : r = (repZ, 1) := by rw [hr]; unfold asV; rw [hl, Bool.true_or]
      (conv => whnf)
      ((conv in (_[_]?) => tactic => exact ha); (conv => whnf))
      ((conv in (_[_]?) => tactic => exact (show ((H ++ [ansO]).set H.length _)[H.length]? = some _ from get_set ha)); (conv => whnf))
      exact bad 1 (by exact ⟨hr1, by decide⟩)
    | false =>
      have hr0 : r = match lastE (isP q.cr q.cn) l with
          | none => (repZ, 5)
          | some c => match decide (q.cr = realm) with
            | false => (repZ, 5)
            | true => match lastE (isP q.sr q.sn) l with
              | none => (repZ, 6)
              | some s => match decide (q.sr = realm ∧ q.sn = krb realm) with
                | false => (repZ, 6)
                | true => match decide (q.till < now) with
                  | true => (repZ, 7)
                  | false => makeV l n q.sr q.sn (asPart q now draw) q.nonce c.key 3 := by rw [hr]; unfold asV; rw [hl, hq]; rfl
      clear hr
      (conv => whnf)
      refine ⟨fun _ => ?_, fun h => absurd rfl h⟩
      (conv => whnf)
      have hgC := lastGet hK1.ring (by have := hK1.len; omega) q.cr q.cn
      have hgS := lastGet hK1.ring (by have := hK1.len; omega) q.sr q.sn
      cases hC : lastE (isP q.cr q.cn) l with
      | none =>
        rw [hC] at hgC hr0
        have hr5 : r = (repZ, 5) ∧ (5 : Int) ≠ 0 := ⟨hr0, by decide⟩
        refine drawK_pure2 (by kernel_rfl) ?_
        (conv => whnf)
        iterate 3 (apply Exists.intro; apply And.intro; (focus ((conv => whnf); first | exact ⟨rfl, rfl, trivial⟩ | (refine ⟨by omega, ?_⟩; (conv => whnf); exact ⟨rfl, rfl, trivial⟩))); (conv => whnf))
        apply Exists.intro
        apply And.intro
        · (conv => whnf)
          ((conv in (_[_]?) => tactic => exact hv1); (conv => whnf))
          exact ⟨rfl, rfl, trivial⟩
        (conv => whnf)
        iterate 2 (apply Exists.intro; apply And.intro; (focus ((conv => whnf); first | exact ⟨rfl, rfl, trivial⟩ | (refine ⟨by omega, ?_⟩; (conv => whnf); exact ⟨rfl, rfl, trivial⟩))); (conv => whnf))
        refine ⟨_, callK_of hgC (by rintro _ _ ⟨rfl, rfl⟩; exact ⟨rfl, rfl, trivial⟩), ?_⟩
        (conv => whnf)
        iterate 7 (apply Exists.intro; apply And.intro; (focus ((conv => whnf); first | exact ⟨rfl, rfl, trivial⟩ | (refine ⟨by omega, ?_⟩; (conv => whnf); exact ⟨rfl, rfl, trivial⟩))); (conv => whnf))
        cases hS : lastE (isP q.sr q.sn) l with
        | none =>
          rw [hS] at hgS
          refine drawK_pure2 (by kernel_rfl) ?_
          (conv => whnf)
          iterate 3 (apply Exists.intro; apply And.intro; (focus ((conv => whnf); first | exact ⟨rfl, rfl, trivial⟩ | (refine ⟨by omega, ?_⟩; (conv => whnf); exact ⟨rfl, rfl, trivial⟩))); (conv => whnf))
          apply Exists.intro
          apply And.intro
          · (conv => whnf)
            ((conv in (_[_]?) => tactic => exact hv1); (conv => whnf))
            exact ⟨rfl, rfl, trivial⟩
          (conv => whnf)
          iterate 2 (apply Exists.intro; apply And.intro; (focus ((conv => whnf); first | exact ⟨rfl, rfl, trivial⟩ | (refine ⟨by omega, ?_⟩; (conv => whnf); exact ⟨rfl, rfl, trivial⟩))); (conv => whnf))
          refine ⟨_, callK_of hgS (by rintro _ _ ⟨rfl, rfl⟩; exact ⟨rfl, rfl, trivial⟩), ?_⟩
          (conv => whnf)
          iterate 7 (apply Exists.intro; apply And.intro; (focus ((conv => whnf); first | exact ⟨rfl, rfl, trivial⟩ | (refine ⟨by omega, ?_⟩; (conv => whnf); exact ⟨rfl, rfl, trivial⟩))); (conv => whnf))
          by_cases hcr : q.cr = realm
          · refine drawK_pure2 (by kernel_rfl) ?_
            (conv => whnf)
            iterate 6 (apply Exists.intro; apply And.intro; (focus ((conv => whnf); first | exact ⟨rfl, rfl, trivial⟩ | (refine ⟨by omega, ?_⟩; (conv => whnf); exact ⟨rfl, rfl, trivial⟩))); (conv => whnf))
            apply Exists.intro
            apply And.intro
            · (conv => whnf)
              ((conv in (_[_]?) => tactic => exact hv1); (conv => whnf))
              exact ⟨rfl, rfl, trivial⟩
            (conv => whnf)
            refine ⟨.bool false, ?_, ?_⟩
            · (conv => whnf)
              exact ⟨fun h => ⟨rfl, rfl, trivial⟩, fun h => absurd hcr h⟩
            (conv => whnf)
            iterate 2 (apply Exists.intro; apply And.intro; (focus ((conv => whnf); first | exact ⟨rfl, rfl, trivial⟩ | (refine ⟨by omega, ?_⟩; (conv => whnf); exact ⟨rfl, rfl, trivial⟩))); (conv => whnf))
            refine ⟨.bool true, ?_, ?_⟩
            · (conv => whnf)
              exact ⟨fun h => absurd h (by decide), fun h => ⟨rfl, rfl, trivial⟩⟩
            (conv => whnf)
            iterate 2 (apply Exists.intro; apply And.intro; (focus ((conv => whnf); first | exact ⟨rfl, rfl, trivial⟩ | (refine ⟨by omega, ?_⟩; (conv => whnf); exact ⟨rfl, rfl, trivial⟩))); (conv => whnf))
            (conv => whnf)
            ((conv in (_[_]?) => tactic => exact ha); (conv => whnf))
            ((conv in (_[_]?) => tactic => exact (show ((H ++ [ansO]).set H.length _)[H.length]? = some _ from get_set ha)); (conv => whnf))
            exact bad 5 (by exact hr5)
          · refine drawK_pure2 (by kernel_rfl) ?_
            (conv => whnf)
            iterate 6 (apply Exists.intro; apply And.intro; (focus ((conv => whnf); first | exact ⟨rfl, rfl, trivial⟩ | (refine ⟨by omega, ?_⟩; (conv => whnf); exact ⟨rfl, rfl, trivial⟩))); (conv => whnf))
            apply Exists.intro
            apply And.intro
            · (conv => whnf)
              ((conv in (_[_]?) => tactic => exact hv1); (conv => whnf))
              exact ⟨rfl, rfl, trivial⟩
            (conv => whnf)
            refine ⟨.bool true, ?_, ?_⟩
            · (conv => whnf)
              exact ⟨fun h => absurd h hcr, fun h => ⟨rfl, rfl, trivial⟩⟩
            (conv => whnf)
            iterate 5 (apply Exists.intro; apply And.intro; (focus ((conv => whnf); first | exact ⟨rfl, rfl, trivial⟩ | (refine ⟨by omega, ?_⟩; (conv => whnf); exact ⟨rfl, rfl, trivial⟩))); (conv => whnf))
            (conv => whnf)
            ((conv in (_[_]?) => tactic => exact ha); (conv => whnf))
            ((conv in (_[_]?) => tactic => exact (show ((H ++ [ansO]).set H.length _)[H.length]? = some _ from get_set ha)); (conv => whnf))
            exact bad 5 (by exact hr5)
        | some s =>
          rw [hS] at hgS
          refine drawK_pure2 (by kernel_rfl) ?_
          (conv => whnf)
          iterate 3 (apply Exists.intro; apply And.intro; (focus ((conv => whnf); first | exact ⟨rfl, rfl, trivial⟩ | (refine ⟨by omega, ?_⟩; (conv => whnf); exact ⟨rfl, rfl, trivial⟩))); (conv => whnf))
          apply Exists.intro
          apply And.intro
          · (conv => whnf)
            ((conv in (_[_]?) => tactic => exact hv1); (conv => whnf))
            exact ⟨rfl, rfl, trivial⟩
          (conv => whnf)
          iterate 2 (apply Exists.intro; apply And.intro; (focus ((conv => whnf); first | exact ⟨rfl, rfl, trivial⟩ | (refine ⟨by omega, ?_⟩; (conv => whnf); exact ⟨rfl, rfl, trivial⟩))); (conv => whnf))
          refine ⟨_, callK_of hgS (by rintro _ _ ⟨rfl, rfl⟩; exact ⟨rfl, rfl, trivial⟩), ?_⟩
          (conv => whnf)
          iterate 7 (apply Exists.intro; apply And.intro; (focus ((conv => whnf); first | exact ⟨rfl, rfl, trivial⟩ | (refine ⟨by omega, ?_⟩; (conv => whnf); exact ⟨rfl, rfl, trivial⟩))); (conv => whnf))
          by_cases hcr : q.cr = realm
          · refine drawK_pure2 (by kernel_rfl) ?_
            (conv => whnf)
            iterate 6 (apply Exists.intro; apply And.intro; (focus ((conv => whnf); first | exact ⟨rfl, rfl, trivial⟩ | (refine ⟨by omega, ?_⟩; (conv => whnf); exact ⟨rfl, rfl, trivial⟩))); (conv => whnf))
            apply Exists.intro
            apply And.intro
            · (conv => whnf)
              ((conv in (_[_]?) => tactic => exact hv1); (conv => whnf))
              exact ⟨rfl, rfl, trivial⟩
            (conv => whnf)
            refine ⟨.bool false, ?_, ?_⟩
            · (conv => whnf)
              exact ⟨fun h => ⟨rfl, rfl, trivial⟩, fun h => absurd hcr h⟩
            (conv => whnf)
            iterate 2 (apply Exists.intro; apply And.intro; (focus ((conv => whnf); first | exact ⟨rfl, rfl, trivial⟩ | (refine ⟨by omega, ?_⟩; (conv => whnf); exact ⟨rfl, rfl, trivial⟩))); (conv => whnf))
            refine ⟨.bool true, ?_, ?_⟩
            · (conv => whnf)
              exact ⟨fun h => absurd h (by decide), fun h => ⟨rfl, rfl, trivial⟩⟩
            (conv => whnf)
            iterate 2 (apply Exists.intro; apply And.intro; (focus ((conv => whnf); first | exact ⟨rfl, rfl, trivial⟩ | (refine ⟨by omega, ?_⟩; (conv => whnf); exact ⟨rfl, rfl, trivial⟩))); (conv => whnf))
            (conv => whnf)
            ((conv in (_[_]?) => tactic => exact ha); (conv => whnf))
            ((conv in (_[_]?) => tactic => exact (show ((H ++ [ansO]).set H.length _)[H.length]? = some _ from get_set ha)); (conv => whnf))
            exact bad 5 (by exact hr5)
          · refine drawK_pure2 (by kernel_rfl) ?_
            (conv => whnf)
            iterate 6 (apply Exists.intro; apply And.intro; (focus ((conv => whnf); first | exact ⟨rfl, rfl, trivial⟩ | (refine ⟨by omega, ?_⟩; (conv => whnf); exact ⟨rfl, rfl, trivial⟩))); (conv => whnf))
            apply Exists.intro
            apply And.intro
            · (conv => whnf)
              ((conv in (_[_]?) => tactic => exact hv1); (conv => whnf))
              exact ⟨rfl, rfl, trivial⟩
            (conv => whnf)
            refine ⟨.bool true, ?_, ?_⟩
            · (conv => whnf)
              exact ⟨fun h => absurd h hcr, fun h => ⟨rfl, rfl, trivial⟩⟩
            (conv => whnf)
            iterate 5 (apply Exists.intro; apply And.intro; (focus ((conv => whnf); first | exact ⟨rfl, rfl, trivial⟩ | (refine ⟨by omega, ?_⟩; (conv => whnf); exact ⟨rfl, rfl, trivial⟩))); (conv => whnf))
            (conv => whnf)
            ((conv in (_[_]?) => tactic => exact ha); (conv => whnf))
            ((conv in (_[_]?) => tactic => exact (show ((H ++ [ansO]).set H.length _)[H.length]? = some _ from get_set ha)); (conv => whnf))
            exact bad 5 (by exact hr5)
      | some c =>
        rw [hC] at hgC hr0
        refine drawK_pure2 (by kernel_rfl) ?_
        (conv => whnf)
        iterate 3 (apply Exists.intro; apply And.intro; (focus ((conv => whnf); first | exact ⟨rfl, rfl, trivial⟩ | (refine ⟨by omega, ?_⟩; (conv => whnf); exact ⟨rfl, rfl, trivial⟩))); (conv => whnf))
        apply Exists.intro
        apply And.intro
        · (conv => whnf)
          ((conv in (_[_]?) => tactic => exact hv1); (conv => whnf))
          exact ⟨rfl, rfl, trivial⟩
        (conv => whnf)
        iterate 2 (apply Exists.intro; apply And.intro; (focus ((conv => whnf); first | exact ⟨rfl, rfl, trivial⟩ | (refine ⟨by omega, ?_⟩; (conv => whnf); exact ⟨rfl, rfl, trivial⟩))); (conv => whnf))
        refine ⟨_, callK_of hgC (by rintro _ _ ⟨rfl, rfl⟩; exact ⟨rfl, rfl, trivial⟩), ?_⟩
        (conv => whnf)
        iterate 7 (apply Exists.intro; apply And.intro; (focus ((conv => whnf); first | exact ⟨rfl, rfl, trivial⟩ | (refine ⟨by omega, ?_⟩; (conv => whnf); exact ⟨rfl, rfl, trivial⟩))); (conv => whnf))
        cases hS : lastE (isP q.sr q.sn) l with
        | none =>
          rw [hS] at hgS hr0
          refine drawK_pure2 (by kernel_rfl) ?_
          (conv => whnf)
          iterate 3 (apply Exists.intro; apply And.intro; (focus ((conv => whnf); first | exact ⟨rfl, rfl, trivial⟩ | (refine ⟨by omega, ?_⟩; (conv => whnf); exact ⟨rfl, rfl, trivial⟩))); (conv => whnf))
          apply Exists.intro
          apply And.intro
          · (conv => whnf)
            ((conv in (_[_]?) => tactic => exact hv1); (conv => whnf))
            exact ⟨rfl, rfl, trivial⟩
          (conv => whnf)
          iterate 2 (apply Exists.intro; apply And.intro; (focus ((conv => whnf); first | exact ⟨rfl, rfl, trivial⟩ | (refine ⟨by omega, ?_⟩; (conv => whnf); exact ⟨rfl, rfl, trivial⟩))); (conv => whnf))
          refine ⟨_, callK_of hgS (by rintro _ _ ⟨rfl, rfl⟩; exact ⟨rfl, rfl, trivial⟩), ?_⟩
          (conv => whnf)
          iterate 7 (apply Exists.intro; apply And.intro; (focus ((conv => whnf); first | exact ⟨rfl, rfl, trivial⟩ | (refine ⟨by omega, ?_⟩; (conv => whnf); exact ⟨rfl, rfl, trivial⟩))); (conv => whnf))
          by_cases hcr : q.cr = realm
          · rw [decide_eq_true hcr] at hr0
            have hr6 : r = (repZ, 6) ∧ (6 : Int) ≠ 0 := ⟨hr0, by decide⟩
            refine drawK_pure2 (by kernel_rfl) ?_
            (conv => whnf)
            iterate 6 (apply Exists.intro; apply And.intro; (focus ((conv => whnf); first | exact ⟨rfl, rfl, trivial⟩ | (refine ⟨by omega, ?_⟩; (conv => whnf); exact ⟨rfl, rfl, trivial⟩))); (conv => whnf))
            apply Exists.intro
            apply And.intro
            · (conv => whnf)
              ((conv in (_[_]?) => tactic => exact hv1); (conv => whnf))
              exact ⟨rfl, rfl, trivial⟩
            (conv => whnf)
            refine ⟨.bool false, ?_, ?_⟩
            · (conv => whnf)
              exact ⟨fun h => ⟨rfl, rfl, trivial⟩, fun h => absurd hcr h⟩
            (conv => whnf)
            iterate 2 (apply Exists.intro; apply And.intro; (focus ((conv => whnf); first | exact ⟨rfl, rfl, trivial⟩ | (refine ⟨by omega, ?_⟩; (conv => whnf); exact ⟨rfl, rfl, trivial⟩))); (conv => whnf))
            refine ⟨.bool false, ?_, ?_⟩
            · (conv => whnf)
              exact ⟨fun h => ⟨rfl, rfl, trivial⟩, fun h => absurd rfl h⟩
            (conv => whnf)
            iterate 2 (apply Exists.intro; apply And.intro; (focus ((conv => whnf); first | exact ⟨rfl, rfl, trivial⟩ | (refine ⟨by omega, ?_⟩; (conv => whnf); exact ⟨rfl, rfl, trivial⟩))); (conv => whnf))
            (conv => whnf)
            refine drawK_pure2 (by kernel_rfl) ?_
            (conv => whnf)
            iterate 6 (apply Exists.intro; apply And.intro; (focus ((conv => whnf); first | exact ⟨rfl, rfl, trivial⟩ | (refine ⟨by omega, ?_⟩; (conv => whnf); exact ⟨rfl, rfl, trivial⟩))); (conv => whnf))
            apply Exists.intro
            apply And.intro
            · (conv => whnf)
              ((conv in (_[_]?) => tactic => exact hv1); (conv => whnf))
              exact ⟨rfl, rfl, trivial⟩
            (conv => whnf)
            refine ⟨_, callK_of (c50 hv1 realm hrl) (by rintro _ _ ⟨rfl, rfl⟩; exact ⟨rfl, rfl, trivial⟩), ?_⟩
            (conv => whnf)
            by_cases hs : q.sr = realm ∧ q.sn = krb realm
            · refine ⟨.bool false, ?_, ?_⟩
              · (conv => whnf)
                exact ⟨⟨fitK _ _, fitK _ _⟩, fun h => ⟨rfl, rfl, trivial⟩, fun h => absurd (two_eq' hs) h⟩
              (conv => whnf)
              iterate 2 (apply Exists.intro; apply And.intro; (focus ((conv => whnf); first | exact ⟨rfl, rfl, trivial⟩ | (refine ⟨by omega, ?_⟩; (conv => whnf); exact ⟨rfl, rfl, trivial⟩))); (conv => whnf))
              refine ⟨.bool true, ?_, ?_⟩
              · (conv => whnf)
                exact ⟨fun h => absurd h (by decide), fun h => ⟨rfl, rfl, trivial⟩⟩
              (conv => whnf)
              iterate 2 (apply Exists.intro; apply And.intro; (focus ((conv => whnf); first | exact ⟨rfl, rfl, trivial⟩ | (refine ⟨by omega, ?_⟩; (conv => whnf); exact ⟨rfl, rfl, trivial⟩))); (conv => whnf))
              (conv => whnf)
              ((conv in (_[_]?) => tactic => exact ha); (conv => whnf))
              ((conv in (_[_]?) => tactic => exact (show ((H ++ [ansO]).set H.length _)[H.length]? = some _ from get_set ha)); (conv => whnf))
              exact bad 6 (by exact hr6)
            · refine ⟨.bool true, ?_, ?_⟩
              · (conv => whnf)
                exact ⟨⟨fitK _ _, fitK _ _⟩, fun h => absurd (two_eq h) hs, fun h => ⟨rfl, rfl, trivial⟩⟩
              (conv => whnf)
              iterate 5 (apply Exists.intro; apply And.intro; (focus ((conv => whnf); first | exact ⟨rfl, rfl, trivial⟩ | (refine ⟨by omega, ?_⟩; (conv => whnf); exact ⟨rfl, rfl, trivial⟩))); (conv => whnf))
              (conv => whnf)
              ((conv in (_[_]?) => tactic => exact ha); (conv => whnf))
              ((conv in (_[_]?) => tactic => exact (show ((H ++ [ansO]).set H.length _)[H.length]? = some _ from get_set ha)); (conv => whnf))
              exact bad 6 (by exact hr6)
          · rw [decide_eq_false hcr] at hr0
            have hr5 : r = (repZ, 5) ∧ (5 : Int) ≠ 0 := ⟨hr0, by decide⟩
            refine drawK_pure2 (by kernel_rfl) ?_
            (conv => whnf)
            iterate 6 (apply Exists.intro; apply And.intro; (focus ((conv => whnf); first | exact ⟨rfl, rfl, trivial⟩ | (refine ⟨by omega, ?_⟩; (conv => whnf); exact ⟨rfl, rfl, trivial⟩))); (conv => whnf))
            apply Exists.intro
            apply And.intro
            · (conv => whnf)
              ((conv in (_[_]?) => tactic => exact hv1); (conv => whnf))
              exact ⟨rfl, rfl, trivial⟩
            (conv => whnf)
            refine ⟨.bool true, ?_, ?_⟩
            · (conv => whnf)
              exact ⟨fun h => absurd h hcr, fun h => ⟨rfl, rfl, trivial⟩⟩
            (conv => whnf)
            iterate 5 (apply Exists.intro; apply And.intro; (focus ((conv => whnf); first | exact ⟨rfl, rfl, trivial⟩ | (refine ⟨by omega, ?_⟩; (conv => whnf); exact ⟨rfl, rfl, trivial⟩))); (conv => whnf))
            (conv => whnf)
            ((conv in (_[_]?) => tactic => exact ha); (conv => whnf))
            ((conv in (_[_]?) => tactic => exact (show ((H ++ [ansO]).set H.length _)[H.length]? = some _ from get_set ha)); (conv => whnf))
            exact bad 5 (by exact hr5)
        | some s =>
          rw [hS] at hgS hr0
          refine drawK_pure2 (by kernel_rfl) ?_
          (conv => whnf)
          iterate 3 (apply Exists.intro; apply And.intro; (focus ((conv => whnf); first | exact ⟨rfl, rfl, trivial⟩ | (refine ⟨by omega, ?_⟩; (conv => whnf); exact ⟨rfl, rfl, trivial⟩))); (conv => whnf))
          apply Exists.intro
          apply And.intro
          · (conv => whnf)
            ((conv in (_[_]?) => tactic => exact hv1); (conv => whnf))
            exact ⟨rfl, rfl, trivial⟩
          (conv => whnf)
          iterate 2 (apply Exists.intro; apply And.intro; (focus ((conv => whnf); first | exact ⟨rfl, rfl, trivial⟩ | (refine ⟨by omega, ?_⟩; (conv => whnf); exact ⟨rfl, rfl, trivial⟩))); (conv => whnf))
          refine ⟨_, callK_of hgS (by rintro _ _ ⟨rfl, rfl⟩; exact ⟨rfl, rfl, trivial⟩), ?_⟩
          (conv => whnf)
          iterate 7 (apply Exists.intro; apply And.intro; (focus ((conv => whnf); first | exact ⟨rfl, rfl, trivial⟩ | (refine ⟨by omega, ?_⟩; (conv => whnf); exact ⟨rfl, rfl, trivial⟩))); (conv => whnf))
          by_cases hcr : q.cr = realm
          · rw [decide_eq_true hcr] at hr0
            refine drawK_pure2 (by kernel_rfl) ?_
            (conv => whnf)
            iterate 6 (apply Exists.intro; apply And.intro; (focus ((conv => whnf); first | exact ⟨rfl, rfl, trivial⟩ | (refine ⟨by omega, ?_⟩; (conv => whnf); exact ⟨rfl, rfl, trivial⟩))); (conv => whnf))
            apply Exists.intro
            apply And.intro
            · (conv => whnf)
              ((conv in (_[_]?) => tactic => exact hv1); (conv => whnf))
              exact ⟨rfl, rfl, trivial⟩
            (conv => whnf)
            refine ⟨.bool false, ?_, ?_⟩
            · (conv => whnf)
              exact ⟨fun h => ⟨rfl, rfl, trivial⟩, fun h => absurd hcr h⟩
            (conv => whnf)
            iterate 2 (apply Exists.intro; apply And.intro; (focus ((conv => whnf); first | exact ⟨rfl, rfl, trivial⟩ | (refine ⟨by omega, ?_⟩; (conv => whnf); exact ⟨rfl, rfl, trivial⟩))); (conv => whnf))
            refine ⟨.bool false, ?_, ?_⟩
            · (conv => whnf)
              exact ⟨fun h => ⟨rfl, rfl, trivial⟩, fun h => absurd rfl h⟩
            (conv => whnf)
            iterate 2 (apply Exists.intro; apply And.intro; (focus ((conv => whnf); first | exact ⟨rfl, rfl, trivial⟩ | (refine ⟨by omega, ?_⟩; (conv => whnf); exact ⟨rfl, rfl, trivial⟩))); (conv => whnf))
            (conv => whnf)
            refine drawK_pure2 (by kernel_rfl) ?_
            (conv => whnf)
            iterate 6 (apply Exists.intro; apply And.intro; (focus ((conv => whnf); first | exact ⟨rfl, rfl, trivial⟩ | (refine ⟨by omega, ?_⟩; (conv => whnf); exact ⟨rfl, rfl, trivial⟩))); (conv => whnf))
            apply Exists.intro
            apply And.intro
            · (conv => whnf)
              ((conv in (_[_]?) => tactic => exact hv1); (conv => whnf))
              exact ⟨rfl, rfl, trivial⟩
            (conv => whnf)
            refine ⟨_, callK_of (c50 hv1 realm hrl) (by rintro _ _ ⟨rfl, rfl⟩; exact ⟨rfl, rfl, trivial⟩), ?_⟩
            (conv => whnf)
            by_cases hs : q.sr = realm ∧ q.sn = krb realm
            · rw [decide_eq_true hs] at hr0
              refine ⟨.bool false, ?_, ?_⟩
              · (conv => whnf)
                exact ⟨⟨fitK _ _, fitK _ _⟩, fun h => ⟨rfl, rfl, trivial⟩, fun h => absurd (two_eq' hs) h⟩
              (conv => whnf)
              iterate 2 (apply Exists.intro; apply And.intro; (focus ((conv => whnf); first | exact ⟨rfl, rfl, trivial⟩ | (refine ⟨by omega, ?_⟩; (conv => whnf); exact ⟨rfl, rfl, trivial⟩))); (conv => whnf))
              refine ⟨.bool false, ?_, ?_⟩
              · (conv => whnf)
                exact ⟨fun h => ⟨rfl, rfl, trivial⟩, fun h => absurd rfl h⟩
              (conv => whnf)
              iterate 2 (apply Exists.intro; apply And.intro; (focus ((conv => whnf); first | exact ⟨rfl, rfl, trivial⟩ | (refine ⟨by omega, ?_⟩; (conv => whnf); exact ⟨rfl, rfl, trivial⟩))); (conv => whnf))
              by_cases ht : q.till < now
              · rw [decide_eq_true ht] at hr0
                have hr7 : r = (repZ, 7) ∧ (7 : Int) ≠ 0 := ⟨hr0, by decide⟩
                (conv => whnf)
                refine ⟨fun h => ?_, fun h => absurd ht h⟩
                (conv => whnf)
                ((conv in (_[_]?) => tactic => exact ha); (conv => whnf))
                ((conv in (_[_]?) => tactic => exact (show ((H ++ [ansO]).set H.length _)[H.length]? = some _ from get_set ha)); (conv => whnf))
                exact bad 7 (by exact hr7)
              · exact absurd ⟨hl, hq, ⟨c, hC⟩, ⟨s, hS⟩, hcr, hs, ht⟩ hng
            · rw [decide_eq_false hs] at hr0
              have hr6 : r = (repZ, 6) ∧ (6 : Int) ≠ 0 := ⟨hr0, by decide⟩
              refine ⟨.bool true, ?_, ?_⟩
              · (conv => whnf)
                exact ⟨⟨fitK _ _, fitK _ _⟩, fun h => absurd (two_eq h) hs, fun h => ⟨rfl, rfl, trivial⟩⟩
              (conv => whnf)
              iterate 5 (apply Exists.intro; apply And.intro; (focus ((conv => whnf); first | exact ⟨rfl, rfl, trivial⟩ | (refine ⟨by omega, ?_⟩; (conv => whnf); exact ⟨rfl, rfl, trivial⟩))); (conv => whnf))
              (conv => whnf)
              ((conv in (_[_]?) => tactic => exact ha); (conv => whnf))
              ((conv in (_[_]?) => tactic => exact (show ((H ++ [ansO]).set H.length _)[H.length]? = some _ from get_set ha)); (conv => whnf))
              exact bad 6 (by exact hr6)
          · rw [decide_eq_false hcr] at hr0
            have hr5 : r = (repZ, 5) ∧ (5 : Int) ≠ 0 := ⟨hr0, by decide⟩
            refine drawK_pure2 (by kernel_rfl) ?_
            (conv => whnf)
            iterate 6 (apply Exists.intro; apply And.intro; (focus ((conv => whnf); first | exact ⟨rfl, rfl, trivial⟩ | (refine ⟨by omega, ?_⟩; (conv => whnf); exact ⟨rfl, rfl, trivial⟩))); (conv => whnf))
            apply Exists.intro
            apply And.intro
            · (conv => whnf)
              ((conv in (_[_]?) => tactic => exact hv1); (conv => whnf))
              exact ⟨rfl, rfl, trivial⟩
            (conv => whnf)
            refine ⟨.bool true, ?_, ?_⟩
            · (conv => whnf)
              exact ⟨fun h => absurd h hcr, fun h => ⟨rfl, rfl, trivial⟩⟩
            (conv => whnf)
            iterate 5 (apply Exists.intro; apply And.intro; (focus ((conv => whnf); first | exact ⟨rfl, rfl, trivial⟩ | (refine ⟨by omega, ?_⟩; (conv => whnf); exact ⟨rfl, rfl, trivial⟩))); (conv => whnf))
            (conv => whnf)
            ((conv in (_[_]?) => tactic => exact ha); (conv => whnf))
            ((conv in (_[_]?) => tactic => exact (show ((H ++ [ansO]).set H.length _)[H.length]? = some _ from get_set ha)); (conv => whnf))
            exact bad 5 (by exact hr5)
end Go.Proofs.Tryz

set_option maxRecDepth 100000
set_option maxHeartbeats 1000000
set_option linter.unusedVariables false
set_option linter.unusedSimpArgs false
namespace Go.Proofs.Tryz
open Go Ps
theorem asV_good {realm : List UInt8} {l : List Ent} {n : Int} {q : AsQ} {now : Int} {draw : Nat → UInt8} (hl : lateB now = false) (hq : q.ok = true) {c s : Ent} (hC : lastE (isP q.cr q.cn) l = some c) (hS : lastE (isP q.sr q.sn) l = some s)
    (hcr : q.cr = realm) (hs : q.sr = realm ∧ q.sn = krb realm) (ht : ¬ q.till < now) : asV realm l n q now draw = makeV l n q.sr q.sn (asPart q now draw) q.nonce c.key 3 := by
  unfold asV
  rw [hl, hq, hC, hS, decide_eq_true hcr, decide_eq_true hs, decide_eq_false ht]
  rfl
theorem asV_bad {realm : List UInt8} {l : List Ent} {n : Int} {q : AsQ} {now : Int} {draw : Nat → UInt8}
    (hng : ¬ (lateB now = false ∧ q.ok = true ∧ (∃ c, lastE (isP q.cr q.cn) l = some c) ∧ (∃ s, lastE (isP q.sr q.sn) l = some s) ∧ q.cr = realm ∧ (q.sr = realm ∧ q.sn = krb realm) ∧ ¬ q.till < now)) :
    (asV realm l n q now draw).2 ≠ 0 := by
  unfold asV
  cases hl : lateB now with
  | true => rw [Bool.true_or]; show (1 : Int) ≠ 0; decide
  | false =>
    cases hq : q.ok with
    | false => show (1 : Int) ≠ 0; decide
    | true =>
      cases hC : lastE (isP q.cr q.cn) l with
      | none => show (5 : Int) ≠ 0; decide
      | some c =>
        by_cases hcr : q.cr = realm
        · rw [decide_eq_true hcr]
          cases hS : lastE (isP q.sr q.sn) l with
          | none => show (6 : Int) ≠ 0; decide
          | some s =>
            by_cases hs : q.sr = realm ∧ q.sn = krb realm
            · rw [decide_eq_true hs]
              by_cases ht : q.till < now
              · rw [decide_eq_true ht]; show (7 : Int) ≠ 0; decide
              · exact absurd ⟨hl, hq, ⟨c, hC⟩, ⟨s, hS⟩, hcr, hs, ht⟩ hng
            · rw [decide_eq_false hs]; show (6 : Int) ≠ 0; decide
        · rw [decide_eq_false hcr]; show (5 : Int) ≠ 0; decide
/-- (*Kdc).As, the heap behind it named ahead. -/
theorem c16d {H : PH} {kid rid : Nat} {realm : List UInt8} {rs ls ps : PV} {l : List Ent} {n i : Nat} (hK : Kd H kid rid realm rs ls ps l n i) (hn : n ≤ 100000) (hi : i ≤ 100000) (hrl : realm.length ≤ 1000000)
    (q : AsQ) (hf : q.fit) (now : Int) (draw : Nat → UInt8) :
    ∃ H1, (Kd H1 kid rid realm rs ls ps l (bump (asV realm l n q now draw) n 2) (bump (asV realm l n q now draw) i 1) ∧ Evo (· = kid) H H1) ∧
      CallOk prog 16 [.ptr (some (kid, 0)), .agg q.cells, .int .i64 now, .agg (keyC draw)] H fun x H' => x = .tup [.agg (asV realm l n q now draw).1.cells, .int .i64 (asV realm l n q now draw).2] ∧ H' = H1 := by
  by_cases hg : lateB now = false ∧ q.ok = true ∧ (∃ c, lastE (isP q.cr q.cn) l = some c) ∧ (∃ s, lastE (isP q.sr q.sn) l = some s) ∧ q.cr = realm ∧ (q.sr = realm ∧ q.sn = krb realm) ∧ ¬ q.till < now
  · obtain ⟨hl, hq, ⟨c, hC⟩, ⟨s, hS⟩, hcr, hs, ht⟩ := hg
    rw [asV_good hl hq hC hS hcr hs ht]
    obtain ⟨H1, ⟨h1, h2, _⟩, h3⟩ := c16g hK hn hi hrl q hf now draw hl hq c s hC hS hcr hs ht
    exact ⟨H1, ⟨h1, h2⟩, h3⟩
  · have hb := c16b hK hn hi hrl q hf now draw hg
    have h0 := asV_bad (n := (n : Int)) (draw := draw) hg
    have hbump : ∀ m k, bump (asV realm l n q now draw) m k = m := fun m k => by unfold bump; exact if_neg h0
    rw [hbump, hbump]
    have e1 : Evo (fun _ => False) H (H ++ [ansO]) := Evo.app H _
    have ha : (H ++ [ansO])[H.length]? = some ansO := get_last H _
    have hlt : kid < H.length := by obtain ⟨v, hv⟩ := hK.k; exact (List.getElem?_eq_some_iff.1 hv).1
    have hrlt : rid < H.length := by have := hK.ring.ex.choose_spec; exact (List.getElem?_eq_some_iff.1 this).1
    have e2 : Evo (fun i => i = kid ∨ i = H.length) (H ++ [ansO]) ((H ++ [ansO]).set H.length E30) := Evo.setOther ha (.inr rfl) ansT.1 ansT.2
    have e3 : Evo (fun i => i = H.length) (H ++ [ansO]) ((H ++ [ansO]).set H.length E30) := Evo.setOther ha rfl ansT.1 ansT.2
    exact ⟨_, ⟨(hK.evo e1 id id).evo e3 (by show ¬ kid = H.length; omega) (by show ¬ rid = H.length; omega), ((e1.mono fun _ h => h.elim).trans e2).drop (Nat.le_refl _)⟩, hb⟩
end Go.Proofs.Tryz

set_option maxRecDepth 100000
set_option maxHeartbeats 4000000
set_option linter.unusedVariables false
set_option linter.unusedSimpArgs false
namespace Go.Proofs.Tryz
open Go Ps
theorem Small.some {l : List Ent} (h : Small l 5) {x : Pr × UInt8} (hx : x ∈ nm0) : ∃ e, lastE (isP x.1.1 x.1.2) l = some e ∧ e.kv = 1 ∧ e.key = keyN x.2 ∧ e.r = x.1.1 ∧ e.n = x.1.2 := by
  have hx5 : x ∈ nm0.take 5 := hx
  have hm : (x.1.1, x.1.2, 1, keyN x.2) ∈ l.map (fun e => (e.r, e.n, e.kv, e.key)) := by
    rw [show l.map (fun e => (e.r, e.n, e.kv, e.key)) = _ from h]
    exact List.mem_map.2 ⟨x, hx5, rfl⟩
  obtain ⟨e0, he0, hh⟩ := List.mem_map.1 hm
  injection hh with h1 h2
  injection h2 with h2 h3
  injection h3 with h3 h4
  cases he : lastE (isP x.1.1 x.1.2) l with
  | none =>
    have := List.find?_eq_none.1 he e0 (List.mem_reverse.2 he0)
    exact absurd (isP_iff.2 ⟨h1, h2⟩) this
  | some e =>
    have h5 : isP x.1.1 x.1.2 e = true := by
      have := List.find?_some he
      exact this
    obtain ⟨a, b⟩ := isP_iff.1 h5
    obtain ⟨y, hy, e1, e2, e3, e4⟩ := h.mem (lastE_mem he)
    refine ⟨e, rfl, e3, ?_, a, b⟩
    have hxy : (nm0.all fun y => nm0.all fun x => !(decide (y.1 = x.1)) || decide (y.2 = x.2)) = true := by decide
    have := List.all_eq_true.1 (List.all_eq_true.1 hxy y hy) x hx
    have hyx : y.1 = x.1 := Prod.ext (e1.symm.trans a) (e2.symm.trans b)
    rw [decide_eq_true hyx, Bool.not_true, Bool.false_or] at this
    rw [e4, of_decide_eq_true this]
def draw1 : Nat → UInt8 := fun i => match i with
  | 0 => 1
  | _ => 0
def qK1 : AsQ := ⟨aedu, ann, aedu, krb aedu, 50, 3⟩
def qK2 : AsQ := ⟨aedu, mail, aedu, ann, 50, 0⟩
theorem as1 {l : List Ent} (h : Small l 5) (n : Int) : (asV aedu l n qK1 5 draw1).2 = 0 ∧ (asV aedu l n qK1 5 draw1).1.kv = 1 := by
  obtain ⟨c, hC, _⟩ := h.some (x := ((aedu, ann), 13)) (by decide)
  obtain ⟨s, hS, hk, _⟩ := h.some (x := ((aedu, krb aedu), 10)) (by decide)
  rw [show asV aedu l n qK1 5 draw1 = _ from asV_good (realm := aedu) (q := qK1) (by decide) (by kernel_rfl) hC hS rfl ⟨rfl, rfl⟩ (by decide)]
  unfold makeV
  rw [show lastE (isP qK1.sr qK1.sn) l = Option.some s from hS]
  have hP : (isPartB (asPart qK1 5 draw1) && isRptB (rptOf (asPart qK1 5 draw1) qK1.sr qK1.sn qK1.nonce)) = true := by kernel_rfl
  simp only [hP]
  exact ⟨trivial, by show (s.kv : Int) = 1; rw [hk]; rfl⟩
theorem as2 {l : List Ent} (h : Small l 5) (n : Int) : (asV aedu l n qK2 5 draw1).2 = 6 := by
  obtain ⟨c, hC, _⟩ := h.some (x := ((aedu, mail), 14)) (by decide)
  obtain ⟨s, hS, hk, _⟩ := h.some (x := ((aedu, ann), 13)) (by decide)
  unfold asV
  rw [show lateB 5 = false by decide, show qK2.ok = true by kernel_rfl, show lastE (isP qK2.cr qK2.cn) l = Option.some c from hC, show lastE (isP qK2.sr qK2.sn) l = Option.some s from hS]
  rfl
def ttKw : TT := [(3, ⟨.int .i64, 1, 8, [.int .i64 0]⟩), (4, ⟨.bool, 1, 1, [.bool false]⟩), (5, ⟨.int .u8, 1, 1, [.int .u8 0]⟩), (9, ⟨.str, 1, 16, [.str []]⟩), (22, ⟨.ptr, 1, 8, [.ptr none]⟩), (25, ⟨.strct [(9, 0), (9, 1)], 2, 32, [.str [], .str []]⟩), (26, ⟨.slice 5, 1, 24, [.slice 0 [] (some 5)]⟩), (28, ⟨.strct [(25, 0), (3, 2), (26, 3)], 4, 64, [.str [], .str [], .int .i64 0, .slice 0 [] (some 5)]⟩), (30, ⟨.strct [(25, 0), (28, 2), (26, 6)], 7, 120, [.str [], .str [], .str [], .str [], .int .i64 0, .slice 0 [] (some 5), .slice 0 [] (some 5)]⟩), (31, ⟨.int .i64, 1, 8, [.int .i64 0]⟩), (33, ⟨.ptr, 1, 8, [.ptr none]⟩), (34, ⟨.ptr, 1, 8, [.ptr none]⟩), (36, ⟨.strct [(33, 0), (34, 1)], 2, 16, [.ptr none, .ptr none]⟩), (41, ⟨.strct [(25, 0), (25, 2), (3, 4), (3, 5)], 6, 80, [.str [], .str [], .str [], .str [], .int .i64 0, .int .i64 0]⟩), (43, ⟨.arr 32 5, 32, 32, List.replicate 32 (.int .u8 0)⟩), (50, ⟨.strct [(25, 0), (43, 2), (9, 34), (3, 35), (3, 36)], 37, 96, [.str [], .str []] ++ List.replicate 32 (.int .u8 0) ++ [.str [], .int .i64 0, .int .i64 0]⟩), (54, ⟨.strct [(43, 0), (25, 32), (3, 34), (3, 35), (3, 36)], 37, 88, List.replicate 32 (.int .u8 0) ++ [.str [], .str [], .int .i64 0, .int .i64 0, .int .i64 0]⟩), (58, ⟨.slice 4, 1, 24, [.slice 0 [] (some 4)]⟩), (88, ⟨.slice 9, 1, 24, [.slice 0 [] (some 9)]⟩), (89, ⟨.slice 200, 1, 24, [.slice 0 [] (some 200)]⟩), (90, ⟨.slice 261, 1, 24, [.slice 0 [] (some 261)]⟩), (92, ⟨.strct [(88, 0), (89, 1), (90, 2)], 3, 72, [.slice 0 [] (some 9), .slice 0 [] (some 200), .slice 0 [] (some 261)]⟩), (93, ⟨.ptr, 1, 8, [.ptr none]⟩), (110, ⟨.ptr, 1, 8, [.ptr none]⟩), (113, ⟨.slice 210, 1, 24, [.slice 0 [] (some 210)]⟩), (115, ⟨.strct [(113, 0)], 1, 24, [.slice 0 [] (some 210)]⟩), (116, ⟨.slice 25, 1, 24, [.slice 0 [] (some 25)]⟩), (200, ⟨.arr 2 9, 2, 32, [.str [], .str []]⟩), (210, ⟨.strct [(25, 0), (3, 2), (43, 3)], 35, 72, [.str [], .str [], .int .i64 0] ++ List.replicate 32 (.int .u8 0)⟩), (261, ⟨.strct [(9, 0), (9, 1), (88, 2)], 3, 56, [.str [], .str [], .slice 0 [] (some 9)]⟩)]
theorem ttKw_ok : ttOk prog ttKw = true := by kernel_rfl
def imm21t : List Nat := []
def z30 : PObj := ⟨30, [.str [], .str [], .str [], .str [], .int .i64 0, .slice 0 [] (some 5), .slice 0 [] (some 5)], 0⟩
def D21 (n : Nat) : Draw := { imp := [8, 13], robs := [z30], res := [(12, 0)], base := n, win := [(9, 1, 1), (10, 1, 1), (11, 1, 2), (12, 0, 1), (13, 1, 1), (14, 2, 2)] }
theorem z30T : z30.T ≠ keyT ∧ z30.T ≠ boxT := ⟨fun h => absurd (show 30 = keyT from h) (by decide), fun h => absurd (show 30 = boxT from h) (by decide)⟩
theorem o36T (a b : PV) : (⟨36, [a, b], 0⟩ : PObj).T ≠ keyT ∧ (⟨36, [a, b], 0⟩ : PObj).T ≠ boxT := ⟨fun h => absurd (show 36 = keyT from h) (by decide), fun h => absurd (show 36 = boxT from h) (by decide)⟩
theorem c21 (H : PH) : CallOk prog 21 [] H fun r _ => r = .bool true := by
  (refine callOk_of_pFun2 (tt := ttKw) (imm := imm21t) follows ttKw_ok depth6 func21 (by kernel_rfl) ?_; (conv => whnf))
  refine callK_of (c15x H) ?_
  rintro _ X ⟨kid, xid, pid, l, v, rfl, hsm, hinc, hK, hxk, hxr, hp, hev⟩
  (conv => whnf)
  have hlt : kid < X.length := by obtain ⟨v, hv⟩ := hK.k; exact (List.getElem?_eq_some_iff.1 hv).1
  have hlp := (List.getElem?_eq_some_iff.1 hp).1
  have hlr : H.length < X.length := by have := hK.ring.ex.choose_spec; exact (List.getElem?_eq_some_iff.1 this).1
  have hpk : pid ≠ kid := by
    rintro rfl
    obtain ⟨w, hw⟩ := hK.k
    rw [hp] at hw
    exact absurd (congrArg (fun o => o.map PObj.T) hw) (by intro h; exact absurd (Option.some.inj h) (show ¬ 36 = 134 by decide))
  have e1 : Evo (fun _ => False) X (X ++ [z30]) := Evo.app X _
  obtain ⟨X1, ⟨hK2, e2⟩, h16⟩ := c16d (hK.evo e1 id id) (by decide) (by decide) (by decide) qK1 ⟨by decide, by decide, by decide, by decide⟩ 5 draw1
  obtain ⟨hR1, hR1k⟩ := as1 hsm ((0 : Nat) : Int)
  generalize asV aedu l ((0 : Nat) : Int) qK1 5 draw1 = R1 at *
  have hb1 : ∀ m k, bump R1 m k = m + k := fun m k => if_pos hR1
  rw [hb1, hb1] at hK2
  have hp1 := e1.same _ _ hp id (o36T _ _).1 (o36T _ _).2
  have hz1 : X1[X.length]? = some z30 := e2.same _ _ (get_last X _) (by show ¬ X.length = kid; omega) z30T.1 z30T.2
  refine drawK_of2 (D21 (X).length) [X ++ [z30], X1, (X1).set (X).length (⟨30, R1.1.cells, 1⟩ : PObj)] (by kernel_rfl) ⟨rfl, rfl⟩ trivial ?_
  (conv => whnf)
  iterate 3 (apply Exists.intro; apply And.intro; (focus ((conv => whnf); first | exact ⟨rfl, rfl, trivial⟩ | (refine ⟨by omega, ?_⟩; (conv => whnf); exact ⟨rfl, rfl, trivial⟩))); (conv => whnf))
  apply Exists.intro
  apply And.intro
  · (conv => whnf)
    ((conv in (_[_]?) => tactic => exact hp1); (conv => whnf))
    exact ⟨rfl, rfl, trivial⟩
  (conv => whnf)
  refine ⟨_, callK_pure c17 ⟨rfl, rfl, trivial⟩, ?_⟩
  (conv => whnf)
  refine ⟨_, callK_pure (c18 aedu aedu (by decide)) ⟨rfl, rfl, trivial⟩, ?_⟩
  (conv => whnf)
  iterate 2 (apply Exists.intro; apply And.intro; (focus ((conv => whnf); first | exact ⟨rfl, rfl, trivial⟩ | (refine ⟨by omega, ?_⟩; (conv => whnf); exact ⟨rfl, rfl, trivial⟩))); (conv => whnf))
  refine ⟨_, callK_args (args' := [.ptr (some (kid, 0)), .agg qK1.cells, .int .i64 5, .agg (keyC draw1)]) rfl (callK_of h16 (by rintro _ _ ⟨rfl, rfl⟩; exact ⟨rfl, rfl, trivial⟩)), ?_⟩
  (conv => whnf)
  iterate 2 (apply Exists.intro; apply And.intro; (focus ((conv => whnf); first | exact ⟨rfl, rfl, trivial⟩ | (refine ⟨by omega, ?_⟩; (conv => whnf); exact ⟨rfl, rfl, trivial⟩))); (conv => whnf))
  (apply Exists.intro; apply And.intro; (focus ((conv => whnf); apply And.intro; (focus ((conv => whnf); first | exact ⟨rfl, rfl, trivial⟩ | (refine ⟨by omega, ?_⟩; (conv => whnf); exact ⟨rfl, rfl, trivial⟩))); ((conv => whnf); first | exact ⟨rfl, rfl, trivial⟩ | (refine ⟨by omega, ?_⟩; (conv => whnf); exact ⟨rfl, rfl, trivial⟩)))); (conv => whnf))
  refine ⟨.ptr (some ((X).length, 0)), ?_, ?_⟩
  · (conv => whnf)
    refine ⟨⟨⟨rfl, rfl, trivial⟩, get_last X _⟩, ?_⟩
    (conv => whnf)
    exact ⟨⟨rfl, rfl, trivial⟩, hz1⟩
  (conv => whnf)
  apply Exists.intro
  apply And.intro
  · (conv => whnf)
    ((conv in (_[_]?) => tactic => exact hz1); (conv => whnf))
    exact ⟨rfl, rfl, trivial⟩
  (conv => whnf)
  (apply Exists.intro; apply And.intro; (focus ((conv => whnf); first | exact ⟨rfl, rfl, trivial⟩ | (refine ⟨by omega, ?_⟩; (conv => whnf); exact ⟨rfl, rfl, trivial⟩))); (conv => whnf))
  (conv => whnf)
  have e3 : Evo (· = X.length) X1 (X1.set X.length ⟨30, R1.1.cells, 1⟩) := Evo.setOther hz1 rfl z30T.1 z30T.2
  have hK3 := hK2.evo e3 (by show ¬ kid = X.length; omega) (by show ¬ H.length = X.length; omega)
  have hp3 := e3.same _ _ (e2.same _ _ hp1 hpk (o36T _ _).1 (o36T _ _).2) (by show ¬ pid = X.length; omega) (o36T _ _).1 (o36T _ _).2
  have ho3 : (X1.set X.length (⟨30, R1.1.cells, 1⟩ : PObj))[X.length]? = some ⟨30, R1.1.cells, 1⟩ := get_set hz1
  have o30T : (⟨30, R1.1.cells, 1⟩ : PObj).T ≠ keyT ∧ (⟨30, R1.1.cells, 1⟩ : PObj).T ≠ boxT := z30T
  obtain ⟨Y, hY⟩ : ∃ Y, Y = X1.set X.length (⟨30, R1.1.cells, 1⟩ : PObj) := ⟨_, rfl⟩
  rw [← hY] at hK3 hp3 ho3 e3
  have hly : X.length < Y.length := (List.getElem?_eq_some_iff.1 ho3).1
  have e4 : Evo (fun _ => False) Y (Y ++ [z30]) := Evo.app Y _
  obtain ⟨Y1, ⟨hK5, e5⟩, h17⟩ := c16d (hK3.evo e4 id id) (by decide) (by decide) (by decide) qK2 ⟨by decide, by decide, by decide, by decide⟩ 5 draw1
  have hR2 := as2 hsm ((0 + 2 : Nat) : Int)
  generalize asV aedu l ((0 + 2 : Nat) : Int) qK2 5 draw1 = R2 at *
  have hb2 : ∀ m k, bump R2 m k = m := fun m k => if_neg (by rw [hR2]; decide)
  rw [hb2, hb2] at hK5
  have hp4 := e4.same _ _ hp3 id (o36T _ _).1 (o36T _ _).2
  have hz2 : Y1[Y.length]? = some z30 := e5.same _ _ (get_last Y _) (by show ¬ Y.length = kid; omega) z30T.1 z30T.2
  have e6 : Evo (· = Y.length) Y1 (Y1.set Y.length ⟨30, R2.1.cells, 1⟩) := Evo.setOther hz2 rfl z30T.1 z30T.2
  have hK6 := hK5.evo e6 (by show ¬ kid = Y.length; omega) (by show ¬ H.length = Y.length; omega)
  have hp6 := e6.same _ _ (e5.same _ _ hp4 hpk (o36T _ _).1 (o36T _ _).2) (by show ¬ pid = Y.length; omega) (o36T _ _).1 (o36T _ _).2
  have ho6 := e6.same _ _ (e5.same _ _ (e4.same _ _ ho3 id o30T.1 o30T.2) (by show ¬ X.length = kid; omega) o30T.1 o30T.2) (by show ¬ X.length = Y.length; omega) o30T.1 o30T.2
  refine drawK_of2 (D21 (Y).length) [Y ++ [z30], Y1, (Y1).set (Y).length (⟨30, R2.1.cells, 1⟩ : PObj)] (by kernel_rfl) ⟨by rw [hY]; rfl, by rw [hY]; rfl⟩ trivial ?_
  (conv => whnf)
  iterate 3 (apply Exists.intro; apply And.intro; (focus ((conv => whnf); first | exact ⟨rfl, rfl, trivial⟩ | (refine ⟨by omega, ?_⟩; (conv => whnf); exact ⟨rfl, rfl, trivial⟩))); (conv => whnf))
  apply Exists.intro
  apply And.intro
  · (conv => whnf)
    ((conv in (_[_]?) => tactic => exact hp4); (conv => whnf))
    exact ⟨rfl, rfl, trivial⟩
  (conv => whnf)
  refine ⟨_, callK_pure c27 ⟨rfl, rfl, trivial⟩, ?_⟩
  (conv => whnf)
  refine ⟨_, callK_pure c17 ⟨rfl, rfl, trivial⟩, ?_⟩
  (conv => whnf)
  iterate 2 (apply Exists.intro; apply And.intro; (focus ((conv => whnf); first | exact ⟨rfl, rfl, trivial⟩ | (refine ⟨by omega, ?_⟩; (conv => whnf); exact ⟨rfl, rfl, trivial⟩))); (conv => whnf))
  refine ⟨_, callK_args (args' := [.ptr (some (kid, 0)), .agg qK2.cells, .int .i64 5, .agg (keyC draw1)]) rfl (callK_of h17 (by rintro _ _ ⟨rfl, rfl⟩; exact ⟨rfl, rfl, trivial⟩)), ?_⟩
  (conv => whnf)
  iterate 2 (apply Exists.intro; apply And.intro; (focus ((conv => whnf); first | exact ⟨rfl, rfl, trivial⟩ | (refine ⟨by omega, ?_⟩; (conv => whnf); exact ⟨rfl, rfl, trivial⟩))); (conv => whnf))
  (apply Exists.intro; apply And.intro; (focus ((conv => whnf); apply And.intro; (focus ((conv => whnf); first | exact ⟨rfl, rfl, trivial⟩ | (refine ⟨by omega, ?_⟩; (conv => whnf); exact ⟨rfl, rfl, trivial⟩))); ((conv => whnf); first | exact ⟨rfl, rfl, trivial⟩ | (refine ⟨by omega, ?_⟩; (conv => whnf); exact ⟨rfl, rfl, trivial⟩)))); (conv => whnf))
  refine ⟨.ptr (some ((Y).length, 0)), ?_, ?_⟩
  · (conv => whnf)
    refine ⟨⟨⟨rfl, rfl, trivial⟩, get_last Y _⟩, ?_⟩
    (conv => whnf)
    exact ⟨⟨rfl, rfl, trivial⟩, hz2⟩
  (conv => whnf)
  apply Exists.intro
  apply And.intro
  · (conv => whnf)
    ((conv in (_[_]?) => tactic => exact hz2); (conv => whnf))
    exact ⟨rfl, rfl, trivial⟩
  (conv => whnf)
  (apply Exists.intro; apply And.intro; (focus ((conv => whnf); first | exact ⟨rfl, rfl, trivial⟩ | (refine ⟨by omega, ?_⟩; (conv => whnf); exact ⟨rfl, rfl, trivial⟩))); (conv => whnf))
  (conv => whnf)
  refine ⟨fun _ => ?_, fun h => absurd hR1 h⟩
  (conv => whnf)
  refine ⟨fun _ => ?_, fun h => absurd hR2 h⟩
  (conv => whnf)
  ((conv in (_[_]?) => tactic => exact ho6); (conv => whnf))
  refine ⟨fun _ => ?_, fun h => absurd hR1k h⟩
  (conv => whnf)
  ((conv in (_[_]?) => tactic => exact hp6); (conv => whnf))
  obtain ⟨w, hw⟩ := hK6.k
  refine callK_of (c20 hw) ?_
  rintro _ _ ⟨hx7, hH7⟩
  rw [hx7, hH7]; clear hx7 hH7
  (conv => whnf)
  refine ⟨fun _ => ?_, fun h => absurd rfl h⟩
  (conv => whnf)
  rfl
end Go.Proofs.Tryz

set_option maxRecDepth 100000
set_option maxHeartbeats 1000000
set_option linter.unusedVariables false
set_option linter.unusedSimpArgs false
namespace Go.Proofs.Tryz
open Go Ps
def KnownP (r n : List UInt8) : Prop := r = aedu ∧ (n = ann ∨ n = mail ∨ n = krb aedu ∨ n = krb edu)
/-- KdcUnknown's own truth about who is known. -/
instance (r n : List UInt8) : Decidable (KnownP r n) := by unfold KnownP; exact inferInstance
end Go.Proofs.Tryz

set_option maxRecDepth 100000
set_option maxHeartbeats 4000000
set_option linter.unusedVariables false
set_option linter.unusedSimpArgs false
namespace Go.Proofs.Tryz
open Go Ps
def drawN (n : UInt8) : Nat → UInt8 := fun i => match i with
  | 0 => n
  | 1 => 7
  | _ => 0
end Go.Proofs.Tryz

set_option maxRecDepth 100000
set_option maxHeartbeats 4000000
set_option linter.unusedVariables false
set_option linter.unusedSimpArgs false
namespace Go.Proofs.Tryz
open Go Ps
/-- KdcNonces: a sealed blob's number. -/
theorem or_step (m c : Nat) (hm : m ≤ 1099511627776) (hc : c < 256) : ibits .or .i64 ((m * 256 : Nat) : Int) (c : Int) = ((m * 256 + c : Nat) : Int) := by
  show IntKind.i64.wrap (((BitVec.ofInt 64 ((m * 256 : Nat) : Int) ||| BitVec.ofInt 64 (c : Int)).toNat : Nat) : Int) = _
  rw [BitVec.ofInt_natCast, BitVec.ofInt_natCast, BitVec.toNat_or, BitVec.toNat_ofNat, BitVec.toNat_ofNat, Nat.mod_eq_of_lt (by omega), Nat.mod_eq_of_lt (by omega)]
  have : m * 256 ||| c = m * 256 + c := by
    have h := Nat.shiftLeft_add_eq_or_of_lt (i := 8) (b := c) hc m
    rw [Nat.shiftLeft_eq] at h
    exact h.symm
  rw [this]
  exact wrap64 (by omega) (by omega)
theorem beN_le (l r : List UInt8) : beN l ≤ beN (l ++ r) := by
  have : ∀ (r : List UInt8) (n : Nat), n ≤ r.foldl (fun n c => n * 256 + c.toNat) n := by
    intro r
    induction r with
    | nil => intro n; exact Nat.le_refl _
    | cons c r ih => intro n; exact Nat.le_trans (by omega) (ih (n * 256 + c.toNat))
  unfold beN
  rw [List.foldl_append]
  exact this r _
def ttNo : TT := [(3, ⟨.int .i64, 1, 8, [.int .i64 0]⟩), (5, ⟨.int .u8, 1, 1, [.int .u8 0]⟩), (26, ⟨.slice 5, 1, 24, [.slice 0 [] (some 5)]⟩)]
theorem ttNo_ok : ttOk prog ttNo = true := by kernel_rfl
def imm25 : List Nat := []
theorem c25 (b : List UInt8) (n : Nat) (hn : n ≤ 1099511627776) (hb : b.take 8 = bigV (n : Int)) (h8 : 8 ≤ b.length) (hl : b.length ≤ 1000000) : Pure prog 25 [sl b] (.int .i64 n) := by
  intro H
  have hle : ∀ i, i ≤ 8 → beN (b.take i) ≤ n := fun i hi => by
    have h1 := beN_le (b.take i) ((b.take 8).drop i)
    have h2 : b.take i ++ (b.take 8).drop i = b.take 8 := by
      have := List.take_append_drop i (b.take 8)
      rwa [List.take_take, Nat.min_eq_left hi] at this
    rw [h2, hb, beN_bigV n hn] at h1
    exact h1
  (refine callOk_of_pFun2 (tt := ttNo) (imm := imm25) follows ttNo_ok depth6 func25 (by kernel_rfl) ?_; (conv => whnf))
  refine loopK_of Nat (fun i => [(0, sl b), (3, .int .i64 (beN (b.take i))), (4, .int .i64 i)]) (fun _ => H) (fun i => i ≤ 8) (fun i => 8 - i) ⟨0, Nat.zero_le _, ⟨rfl, rfl, rfl, trivial⟩, rfl⟩ ?_
  intro i hi
  (conv => whnf)
  refine ⟨fun h => ?_, fun h => ?_⟩
  · have h : (i : Int) < 8 := h
    have hi' : i < b.length := by omega
    (conv => whnf)
    refine ⟨fun _ => ?_, fun h2 => absurd (show (i : Int) < b.length by omega) h2⟩
    (conv => whnf)
    refine ⟨by decide, ?_⟩
    (conv => whnf)
    refine ⟨⟨by omega, by show (i : Int) < (b.length : Int); omega⟩, [byteC b[i]], at1' (k := (i : Int).toNat * 1) (by rw [Int.toNat_natCast, Nat.mul_one, List.getElem?_map, List.getElem?_eq_getElem hi']; rfl), ?_⟩
    (conv => whnf)
    refine ⟨i + 1, by omega, ⟨rfl, ?_, ?_, trivial⟩, rfl, by omega⟩
    · have hc := b[i].toNat_lt
      have h0 := hle i (by omega)
      have e : ishl .i64 (beN (b.take i) : Nat) 8 = ((beN (b.take i) * 256 : Nat) : Int) := by
        show IntKind.i64.wrap ((beN (b.take i) : Int) * 2 ^ (min (8 : Int).toNat 64)) = _
        have : ((beN (b.take i) : Int) * 2 ^ (min (8 : Int).toNat 64)) = ((beN (b.take i) * 256 : Nat) : Int) := by push_cast; rfl
        rw [this]
        exact wrap64 (by omega) (by omega)
      show PV.int _ (ibits .or .i64 (ishl .i64 (beN (b.take i) : Nat) 8) (IntKind.i64.wrap (b[i].toNat : Int))) = PV.int _ ((beN (b.take (i + 1)) : Nat) : Int)
      rw [List.take_succ_eq_append_getElem hi', beN_snoc, e, wrap64 (by omega) (by omega), or_step _ _ (by omega) (by omega)]
    · show PV.int _ (IntKind.i64.wrap ((i : Int) + 1)) = PV.int _ ((i + 1 : Nat) : Int)
      rw [wrap64 (by omega) (by omega)]; simp
  · have h : ¬ (i : Int) < 8 := h
    obtain rfl : i = 8 := by omega
    (conv => whnf)
    exact ⟨by show PV.int _ ((beN (b.take 8) : Nat) : Int) = _; rw [hb, beN_bigV n hn], rfl⟩
end Go.Proofs.Tryz

set_option maxRecDepth 100000
set_option maxHeartbeats 4000000
set_option linter.unusedVariables false
set_option linter.unusedSimpArgs false
namespace Go.Proofs.Tryz
open Go Ps
/-- Ann asks for her first ticket. -/
def qA (till nonce : Int) : AsQ := ⟨aedu, ann, aedu, krb aedu, till, nonce⟩
theorem inZ_of {n lo hi : Int} (h1 : lo ≤ n) (h2 : n ≤ hi) : inZ n lo hi = true := by unfold inZ; rw [decide_eq_true h1, decide_eq_true h2]; rfl
theorem prAnn : isPrincB aedu ann = true := by kernel_rfl
theorem prTgt : isPrincB aedu (krb aedu) = true := by kernel_rfl
theorem qA_ok {till nonce : Int} (h1 : 0 ≤ till) (h2 : till ≤ 1073741824) (h3 : 0 ≤ nonce) (h4 : nonce ≤ 1073741824) : (qA till nonce).ok = true := by
  show (isPrincB aedu ann && isPrincB aedu (krb aedu) && inZ till 0 1073741824 && inZ nonce 0 1073741824) = true
  rw [prAnn, prTgt, inZ_of h1 h2, inZ_of h3 h4]; rfl
theorem late_no {now : Int} (h1 : 0 ≤ now) (h2 : now ≤ 1073741824) : lateB now = false := by
  unfold lateB; rw [decide_eq_false (by omega), decide_eq_false (by omega)]; rfl
theorem asA_ok {l : List Ent} (h : Small l 5) (n : Int) {till nonce now : Int} (d : Nat → UInt8) (h1 : 0 ≤ till) (h2 : till ≤ 1073741824) (h3 : 0 ≤ nonce) (h4 : nonce ≤ 1073741824) (h5 : 0 ≤ now) (h6 : now ≤ 1073741824) (ht : ¬ till < now) :
    asV aedu l n (qA till nonce) now d = (⟨aedu, ann, aedu, krb aedu, 1, sealK (keyN 10) 2 (n + 1) (partL (asPart (qA till nonce) now d)), sealK (keyN 13) 3 (n + 2) (rptL (rptOf (asPart (qA till nonce) now d) aedu (krb aedu) nonce))⟩, 0) ∧
      isPartB (asPart (qA till nonce) now d) = true ∧ isRptB (rptOf (asPart (qA till nonce) now d) aedu (krb aedu) nonce) = true := by
  obtain ⟨c, hC, _, hck, _⟩ := h.some (x := ((aedu, ann), 13)) (by decide)
  obtain ⟨s, hS, hkv, hsk, _⟩ := h.some (x := ((aedu, krb aedu), 10)) (by decide)
  have hst : inZ now 0 1073741824 = true := inZ_of h5 h6
  have hen : inZ (min till (now + 1000)) 0 1073741824 = true := inZ_of (by omega) (by omega)
  have hP : isPartB (asPart (qA till nonce) now d) = true := by
    show (isPrincB aedu ann && isTextB [] && (inZ now 0 1073741824 && inZ (min till (now + 1000)) 0 1073741824)) = true
    rw [prAnn, hst, hen]; rfl
  have hR : isRptB (rptOf (asPart (qA till nonce) now d) aedu (krb aedu) nonce) = true := by
    show (isPrincB aedu (krb aedu) && (inZ now 0 1073741824 && inZ (min till (now + 1000)) 0 1073741824) && inZ nonce 0 1073741824) = true
    rw [prTgt, hst, hen, inZ_of h3 h4]; rfl
  refine ⟨?_, hP, hR⟩
  rw [asV_good (realm := aedu) (q := qA till nonce) (late_no h5 h6) (qA_ok h1 h2 h3 h4) hC hS rfl ⟨rfl, rfl⟩ ht]
  unfold makeV
  rw [show lastE (isP (qA till nonce).sr (qA till nonce).sn) l = Option.some s from hS]
  have hPR : (isPartB (asPart (qA till nonce) now d) && isRptB (rptOf (asPart (qA till nonce) now d) (qA till nonce).sr (qA till nonce).sn (qA till nonce).nonce)) = true := by
    rw [hP]; exact hR
  simp only [hPR]
  rw [hck, hsk, hkv]
  rfl
theorem asA_late {l : List Ent} (h : Small l 5) (n : Int) {till nonce now : Int} (d : Nat → UInt8) (h1 : 0 ≤ till) (h2 : till ≤ 1073741824) (h3 : 0 ≤ nonce) (h4 : nonce ≤ 1073741824) (h5 : 0 ≤ now) (h6 : now ≤ 1073741824) (ht : till < now) :
    asV aedu l n (qA till nonce) now d = (repZ, 7) := by
  obtain ⟨c, hC, _⟩ := h.some (x := ((aedu, ann), 13)) (by decide)
  obtain ⟨s, hS, _⟩ := h.some (x := ((aedu, krb aedu), 10)) (by decide)
  unfold asV
  rw [late_no h5 h6, qA_ok h1 h2 h3 h4, show lastE (isP (qA till nonce).cr (qA till nonce).cn) l = Option.some c from hC, show lastE (isP (qA till nonce).sr (qA till nonce).sn) l = Option.some s from hS, decide_eq_true (show (qA till nonce).cr = aedu from rfl), decide_eq_true (show (qA till nonce).sr = aedu ∧ (qA till nonce).sn = krb aedu from ⟨rfl, rfl⟩), decide_eq_true (show (qA till nonce).till < now from ht)]
  rfl
def AsRun (X : PH) (kid rid : Nat) (realm : List UInt8) (rs ls ps : PV) (l : List Ent) (n i : Nat) (q : AsQ) (now : Int) (draw : Nat → UInt8) (X1 : PH) (R : RepO × Int) : Prop :=
  (CallOk prog 16 [.ptr (some (kid, 0)), .agg q.cells, .int .i64 now, .agg (keyC draw)] (X ++ [z30]) fun x H' => x = .tup [.agg R.1.cells, .int .i64 R.2] ∧ H' = X1) ∧ X1[X.length]? = some z30 ∧
    Kd (X1.set X.length ⟨30, R.1.cells, 1⟩) kid rid realm rs ls ps l (bump R n 2) (bump R i 1) ∧ Evo (· = kid) X (X1.set X.length ⟨30, R.1.cells, 1⟩) ∧ (X1.set X.length (⟨30, R.1.cells, 1⟩ : PObj))[X.length]? = some ⟨30, R.1.cells, 1⟩
/-- A first ticket that is asked for, its answer laid into a cell of the caller's. -/
theorem asRun {X : PH} {kid rid : Nat} {realm : List UInt8} {rs ls ps : PV} {l : List Ent} {n i : Nat} (hK : Kd X kid rid realm rs ls ps l n i) (hn : n ≤ 100000) (hi : i ≤ 100000) (hrl : realm.length ≤ 1000000) (q : AsQ) (hf : q.fit) (now : Int) (draw : Nat → UInt8) :
    ∃ X1, AsRun X kid rid realm rs ls ps l n i q now draw X1 (asV realm l n q now draw) := by
  have hlt : kid < X.length := by obtain ⟨v, hv⟩ := hK.k; exact (List.getElem?_eq_some_iff.1 hv).1
  have hlr : rid < X.length := by have := hK.ring.ex.choose_spec; exact (List.getElem?_eq_some_iff.1 this).1
  have e1 : Evo (fun _ => False) X (X ++ [z30]) := Evo.app X _
  obtain ⟨X1, ⟨hK2, e2⟩, h16⟩ := c16d (hK.evo e1 id id) hn hi hrl q hf now draw
  refine ⟨X1, h16, ?_⟩
  have hz1 : X1[X.length]? = some z30 := e2.same _ _ (get_last X _) (by show ¬ X.length = kid; omega) z30T.1 z30T.2
  have e3 : Evo (· = X.length) X1 (X1.set X.length ⟨30, (asV realm l n q now draw).1.cells, 1⟩) := Evo.setOther hz1 rfl z30T.1 z30T.2
  refine ⟨hz1, hK2.evo e3 (by show ¬ kid = X.length; omega) (by show ¬ rid = X.length; omega), ?_, get_set hz1⟩
  exact Evo.drop (S := (· = kid)) (((e1.mono fun _ h => h.elim).trans (e2.mono fun _ h => .inl h)).trans (e3.mono fun _ h => .inr h)) (Nat.le_refl _)
end Go.Proofs.Tryz

set_option maxRecDepth 100000
set_option maxHeartbeats 4000000
set_option linter.unusedVariables false
set_option linter.unusedSimpArgs false
namespace Go.Proofs.Tryz
open Go Ps
def ttNc : TT := [(3, ⟨.int .i64, 1, 8, [.int .i64 0]⟩), (4, ⟨.bool, 1, 1, [.bool false]⟩), (5, ⟨.int .u8, 1, 1, [.int .u8 0]⟩), (9, ⟨.str, 1, 16, [.str []]⟩), (22, ⟨.ptr, 1, 8, [.ptr none]⟩), (25, ⟨.strct [(9, 0), (9, 1)], 2, 32, [.str [], .str []]⟩), (26, ⟨.slice 5, 1, 24, [.slice 0 [] (some 5)]⟩), (28, ⟨.strct [(25, 0), (3, 2), (26, 3)], 4, 64, [.str [], .str [], .int .i64 0, .slice 0 [] (some 5)]⟩), (30, ⟨.strct [(25, 0), (28, 2), (26, 6)], 7, 120, [.str [], .str [], .str [], .str [], .int .i64 0, .slice 0 [] (some 5), .slice 0 [] (some 5)]⟩), (31, ⟨.int .i64, 1, 8, [.int .i64 0]⟩), (33, ⟨.ptr, 1, 8, [.ptr none]⟩), (34, ⟨.ptr, 1, 8, [.ptr none]⟩), (36, ⟨.strct [(33, 0), (34, 1)], 2, 16, [.ptr none, .ptr none]⟩), (41, ⟨.strct [(25, 0), (25, 2), (3, 4), (3, 5)], 6, 80, [.str [], .str [], .str [], .str [], .int .i64 0, .int .i64 0]⟩), (43, ⟨.arr 32 5, 32, 32, List.replicate 32 (.int .u8 0)⟩), (58, ⟨.slice 4, 1, 24, [.slice 0 [] (some 4)]⟩)]
theorem ttNc_ok : ttOk prog ttNc = true := by kernel_rfl
def imm4t : List Nat := []
def D4n (n : Nat) : Draw := { imp := [12, 17], robs := [z30], res := [(16, 0)], base := n, win := [(13, 1, 1), (14, 1, 1), (15, 1, 2), (16, 0, 1), (17, 1, 1), (18, 2, 2)] }
theorem qA_fit (t n : Int) : (qA t n).fit := ⟨by show aedu.length ≤ _; decide, by show ann.length ≤ _; decide, by show aedu.length ≤ _; decide, by show (krb aedu).length ≤ _; decide⟩
structure NoS where
  i : Nat
  m : Nat
  X : PH
theorem c4n (bs : List Bool) (H : PH) (hb : bs.length ≤ 140737488351232) : CallOk prog 4 [.slice bs.length (bs.map .bool) none] H fun r _ => r = .bool true := by
  (refine callOk_of_pFun2 (tt := ttNc) (imm := imm4t) follows ttNc_ok depth6 func4 (by kernel_rfl) ?_; (conv => whnf))
  refine ⟨fun _ => ?_, fun h => ?_⟩
  · (conv => whnf)
    rfl
  have h : ¬ (30 : Int) < (bs.length : Int) := h
  have hl30 : bs.length ≤ 30 := by omega
  (conv => whnf)
  refine callK_of (c15x H) ?_
  rintro _ X0 ⟨kid, xid, pid, l, v, rfl, hsm, hinc, hK0, hxk, hxr, hp0, hev⟩
  (conv => whnf)
  have k1 : Pure prog 18 [.str aedu, .str aedu] (.agg [.str aedu, .str (krb aedu)]) := c18 _ _ (by decide)
  have k3 := c17
  have hpk : pid ≠ kid := by
    rintro rfl
    obtain ⟨w, hw⟩ := hK0.k
    rw [hp0] at hw
    exact absurd (congrArg (fun o => o.map PObj.T) hw) (by intro h; exact absurd (Option.some.inj h) (show ¬ 36 = 134 by decide))
  have last : ∀ (H : PH) (K : PV → PH → Prop), (∀ H', K (.bool true) H') → callK prog 21 [] H K := fun H K h => callK_of (c21 H) fun r H' hr => by rw [hr]; exact h H'
  refine loopK_of NoS (fun s => [(0, .slice bs.length (bs.map .bool) none), (3, .ptr (some (pid, 0))), (4, .int .i64 ((2 * s.m : Nat) : Int)), (5, .int .i64 s.i)]) (fun s => s.X)
    (fun s => s.i ≤ bs.length ∧ s.m ≤ s.i ∧ Kd s.X kid H.length aedu (.slice 3 (rs0.map .str) none) (.slice 4 (ls0.flatMap prC) none) (.slice 0 [] none) l (2 * s.m) s.m ∧ s.X[pid]? = some ⟨36, [.ptr (some (kid, 0)), .ptr (some (xid, 0))], 0⟩) (fun s => bs.length - s.i)
    ⟨⟨0, 0, X0⟩, ⟨Nat.zero_le _, Nat.le_refl _, hK0, hp0⟩, ⟨rfl, rfl, rfl, rfl, trivial⟩, rfl⟩ ?_
  rintro ⟨i, m, X⟩ ⟨hi, hm, hK, hp⟩
  replace hi : i ≤ bs.length := hi
  replace hm : m ≤ i := hm
  replace hK : Kd X kid H.length aedu (.slice 3 (rs0.map .str) none) (.slice 4 (ls0.flatMap prC) none) (.slice 0 [] none) l (2 * m) m := hK
  replace hp : X[pid]? = some ⟨36, [.ptr (some (kid, 0)), .ptr (some (xid, 0))], 0⟩ := hp
  have hwi : IntKind.i64.wrap ((i : Int) + 1) = ((i + 1 : Nat) : Int) := by rw [wrap64 (by omega) (by omega)]; rfl
  (conv => whnf)
  refine ⟨fun h => ?_, fun h => ?_⟩
  · have h : (i : Int) < bs.length := h
    have hi' : i < bs.length := by omega
    have hat : ∀ b, bs[i] = b → (bs.map PV.bool)[(i : Int).toNat * 1]? = some (.bool b) := fun b hb => by rw [Int.toNat_natCast, Nat.mul_one, List.getElem?_map, List.getElem?_eq_getElem hi', hb]; rfl
    have hlp : pid < X.length := (List.getElem?_eq_some_iff.1 hp).1
    have hnb : IntKind.u8.wrap (i : Int) = (((byteI i).toNat : Nat) : Int) := by
      have := byteC_I (i : Int)
      injection this
    (conv => whnf)
    have k19 : Pure prog 19 [.int .u8 (IntKind.u8.wrap (i : Int))] (.agg (keyC (drawN (byteI i)))) := (byteC_I (i : Int)).symm ▸ c19 (byteI i)
    have hp1 : (X ++ [z30])[pid]? = some ⟨36, [.ptr (some (kid, 0)), .ptr (some (xid, 0))], 0⟩ := by rw [List.getElem?_append_left hlp]; exact hp
    cases hbi : bs[i] with
    | true =>
      have e24 := hat _ hbi
      refine ⟨⟨by omega, h⟩, [.bool true], at1' e24, ?_⟩
      (conv => whnf)
      obtain ⟨X1, h16, hz1, hK2, e2, ho2⟩ := asRun hK (by omega) (by omega) (by decide) (qA 1 i) (qA_fit _ _) 5 (drawN (byteI i))
      rw [asA_late hsm _ _ (by decide) (by decide) (by omega) (by omega) (by decide) (by decide) (by decide)] at h16 hK2 e2 ho2
      refine drawK_of2 (D4n X.length) [X ++ [z30], X1, X1.set X.length (⟨30, repZ.cells, 1⟩ : PObj)] (by kernel_rfl) ⟨rfl, rfl⟩ trivial ?_
      (conv => whnf)
      (repeat (first | (apply Exists.intro; apply And.intro; (focus ((conv => whnf); first | exact ⟨rfl, rfl, trivial⟩ | (refine ⟨by omega, ?_⟩; (conv => whnf); exact ⟨rfl, rfl, trivial⟩))); (conv => whnf)) | (apply Exists.intro; apply And.intro; (focus ((conv => whnf); ((conv in (_[_]?) => tactic => first | with_reducible assumption | assumption); (conv => whnf)); (exact ⟨rfl, rfl, trivial⟩))); ((conv => whnf))) | (apply Exists.intro; apply And.intro; (focus ((conv => whnf); (try refine And.intro ⟨by (first | exact ⟨rfl, ⟨Nat.le_of_ble_eq_true rfl, _, rfl⟩, rfl, ⟨Nat.le_of_ble_eq_true rfl, _, rfl⟩, rfl⟩ | assumption | solve_by_elim), by (first | exact ⟨rfl, ⟨Nat.le_of_ble_eq_true rfl, _, rfl⟩, rfl, ⟨Nat.le_of_ble_eq_true rfl, _, rfl⟩, rfl⟩ | assumption | solve_by_elim)⟩ ?_); first | exact ⟨fun _ => ⟨rfl, rfl, trivial⟩, fun h => absurd (by (first | assumption | rfl | decide | omega)) h⟩ | exact ⟨fun h => absurd h (by (first | assumption | rfl | decide | omega)), fun _ => ⟨rfl, rfl, trivial⟩⟩)); ((conv => whnf))) | (apply Exists.intro; apply And.intro; (focus ((conv => whnf); refine callK_pure (by assumption) ?_; (exact ⟨rfl, rfl, trivial⟩))); ((conv => whnf))) | (apply Exists.intro; apply And.intro; (focus ((conv => whnf); refine callK_of (by assumption) ?_; intro _ _ hk; cases hk with | intro h1 h2 => (subst h1; subst h2; (exact ⟨rfl, rfl, trivial⟩)))); ((conv => whnf))) | (apply Exists.intro; apply And.intro; (focus ((conv => whnf); apply And.intro; (focus ((conv => whnf); first | exact ⟨rfl, rfl, trivial⟩ | (refine ⟨by omega, ?_⟩; (conv => whnf); exact ⟨rfl, rfl, trivial⟩))); ((conv => whnf); first | exact ⟨rfl, rfl, trivial⟩ | (refine ⟨by omega, ?_⟩; (conv => whnf); exact ⟨rfl, rfl, trivial⟩)))); (conv => whnf)) | (apply Exists.intro; apply And.intro; (focus ((conv => whnf); refine ⟨⟨⟨rfl, rfl, trivial⟩, get_last _ _⟩, ?_⟩; (conv => whnf); exact ⟨⟨rfl, rfl, trivial⟩, by assumption⟩)); ((conv => whnf))) | ((conv in (_[_]?) => tactic => first | with_reducible assumption | assumption); (conv => whnf)) | ((try refine And.intro ⟨by (first | exact ⟨rfl, ⟨Nat.le_of_ble_eq_true rfl, _, rfl⟩, rfl, ⟨Nat.le_of_ble_eq_true rfl, _, rfl⟩, rfl⟩ | assumption | solve_by_elim), by (first | exact ⟨rfl, ⟨Nat.le_of_ble_eq_true rfl, _, rfl⟩, rfl, ⟨Nat.le_of_ble_eq_true rfl, _, rfl⟩, rfl⟩ | assumption | solve_by_elim)⟩ ?_); (first | refine ⟨fun _ => ?_, fun h => absurd (by (first | assumption | rfl | decide | omega)) h⟩ | refine ⟨fun h => absurd h (by (first | assumption | rfl | decide | omega)), fun _ => ?_⟩); ((conv => whnf))) | (refine callK_pure (by assumption) ?_; ((conv => whnf))) | (refine callK_of (by assumption) ?_; intro _ _ hk; cases hk with | intro h1 h2 => (subst h1; subst h2; ((conv => whnf)))) | (refine ⟨by first | decide | omega, ?_⟩; ((conv => whnf)))))
      refine ⟨[.bool true], at1' e24, ?_⟩
      (conv => whnf)
      (repeat (first | (apply Exists.intro; apply And.intro; (focus ((conv => whnf); first | exact ⟨rfl, rfl, trivial⟩ | (refine ⟨by omega, ?_⟩; (conv => whnf); exact ⟨rfl, rfl, trivial⟩))); (conv => whnf)) | (apply Exists.intro; apply And.intro; (focus ((conv => whnf); ((conv in (_[_]?) => tactic => first | with_reducible assumption | assumption); (conv => whnf)); (exact ⟨rfl, rfl, trivial⟩))); ((conv => whnf))) | (apply Exists.intro; apply And.intro; (focus ((conv => whnf); (try refine And.intro ⟨by (first | exact ⟨rfl, ⟨Nat.le_of_ble_eq_true rfl, _, rfl⟩, rfl, ⟨Nat.le_of_ble_eq_true rfl, _, rfl⟩, rfl⟩ | assumption | solve_by_elim), by (first | exact ⟨rfl, ⟨Nat.le_of_ble_eq_true rfl, _, rfl⟩, rfl, ⟨Nat.le_of_ble_eq_true rfl, _, rfl⟩, rfl⟩ | assumption | solve_by_elim)⟩ ?_); first | exact ⟨fun _ => ⟨rfl, rfl, trivial⟩, fun h => absurd (by (first | assumption | rfl | decide | omega)) h⟩ | exact ⟨fun h => absurd h (by (first | assumption | rfl | decide | omega)), fun _ => ⟨rfl, rfl, trivial⟩⟩)); ((conv => whnf))) | (apply Exists.intro; apply And.intro; (focus ((conv => whnf); refine callK_pure (by assumption) ?_; (exact ⟨rfl, rfl, trivial⟩))); ((conv => whnf))) | (apply Exists.intro; apply And.intro; (focus ((conv => whnf); refine callK_of (by assumption) ?_; intro _ _ hk; cases hk with | intro h1 h2 => (subst h1; subst h2; (exact ⟨rfl, rfl, trivial⟩)))); ((conv => whnf))) | (apply Exists.intro; apply And.intro; (focus ((conv => whnf); apply And.intro; (focus ((conv => whnf); first | exact ⟨rfl, rfl, trivial⟩ | (refine ⟨by omega, ?_⟩; (conv => whnf); exact ⟨rfl, rfl, trivial⟩))); ((conv => whnf); first | exact ⟨rfl, rfl, trivial⟩ | (refine ⟨by omega, ?_⟩; (conv => whnf); exact ⟨rfl, rfl, trivial⟩)))); (conv => whnf)) | (apply Exists.intro; apply And.intro; (focus ((conv => whnf); refine ⟨⟨⟨rfl, rfl, trivial⟩, get_last _ _⟩, ?_⟩; (conv => whnf); exact ⟨⟨rfl, rfl, trivial⟩, by assumption⟩)); ((conv => whnf))) | ((conv in (_[_]?) => tactic => first | with_reducible assumption | assumption); (conv => whnf)) | ((try refine And.intro ⟨by (first | exact ⟨rfl, ⟨Nat.le_of_ble_eq_true rfl, _, rfl⟩, rfl, ⟨Nat.le_of_ble_eq_true rfl, _, rfl⟩, rfl⟩ | assumption | solve_by_elim), by (first | exact ⟨rfl, ⟨Nat.le_of_ble_eq_true rfl, _, rfl⟩, rfl, ⟨Nat.le_of_ble_eq_true rfl, _, rfl⟩, rfl⟩ | assumption | solve_by_elim)⟩ ?_); (first | refine ⟨fun _ => ?_, fun h => absurd (by (first | assumption | rfl | decide | omega)) h⟩ | refine ⟨fun h => absurd h (by (first | assumption | rfl | decide | omega)), fun _ => ?_⟩); ((conv => whnf))) | (refine callK_pure (by assumption) ?_; ((conv => whnf))) | (refine callK_of (by assumption) ?_; intro _ _ hk; cases hk with | intro h1 h2 => (subst h1; subst h2; ((conv => whnf)))) | (refine ⟨by first | decide | omega, ?_⟩; ((conv => whnf)))))
      refine ⟨⟨i + 1, m, X1.set X.length (⟨30, repZ.cells, 1⟩ : PObj)⟩, ⟨by show i + 1 ≤ bs.length; omega, by show m ≤ i + 1; omega, hK2, e2.same _ _ hp hpk (o36T _ _).1 (o36T _ _).2⟩, ⟨rfl, rfl, rfl, congrArg (PV.int _) hwi, trivial⟩, rfl, by show bs.length - (i + 1) < bs.length - i; omega⟩
    | false =>
      have e24 := hat _ hbi
      refine ⟨⟨by omega, h⟩, [.bool false], at1' e24, ?_⟩
      (conv => whnf)
      obtain ⟨X1, h16, hz1, hK2, e2, ho2⟩ := asRun hK (by omega) (by omega) (by decide) (qA 100 i) (qA_fit _ _) 5 (drawN (byteI i))
      obtain ⟨hR, hP, hQ⟩ := asA_ok hsm ((2 * m : Nat) : Int) (till := 100) (nonce := i) (now := 5) (drawN (byteI i)) (by decide) (by decide) (by omega) (by omega) (by decide) (by decide) (by decide)
      rw [hR] at h16 hK2 e2 ho2
      have hP7 := partL_784 hP
      have hQ7 := rptL_784 hQ
      generalize partL (asPart (qA 100 i) 5 (drawN (byteI i))) = pb at *
      generalize rptL (rptOf (asPart (qA 100 i) 5 (drawN (byteI i))) aedu (krb aedu) i) = qb at *
      have g1 : Pure prog 25 [sl (sealK (keyN 10) 2 (((2 * m : Nat) : Int) + 1) pb)] (.int .i64 ((2 * m + 1 : Nat) : Int)) :=
        c25 _ (2 * m + 1) (by omega) (by rw [sealK_head]; exact congrArg bigV (wrapU64 (n := 2 * m + 1) (by omega))) (by rw [sealK_len]; omega) (by rw [sealK_len]; omega)
      have g2 : Pure prog 25 [sl (sealK (keyN 13) 3 (((2 * m : Nat) : Int) + 2) qb)] (.int .i64 ((2 * m + 2 : Nat) : Int)) :=
        c25 _ (2 * m + 2) (by omega) (by rw [sealK_head]; exact congrArg bigV (wrapU64 (n := 2 * m + 2) (by omega))) (by rw [sealK_len]; omega) (by rw [sealK_len]; omega)
      generalize sealK (keyN 10) 2 (((2 * m : Nat) : Int) + 1) pb = b1 at *
      generalize sealK (keyN 13) 3 (((2 * m : Nat) : Int) + 2) qb = b2 at *
      have w1 : ((2 * m + 1 : Nat) : Int) = IntKind.i64.wrap (((2 * m : Nat) : Int) + 1) := by rw [wrap64 (by omega) (by omega)]; omega
      have w2 : ((2 * m + 2 : Nat) : Int) = IntKind.i64.wrap (((2 * m : Nat) : Int) + 2) := by rw [wrap64 (by omega) (by omega)]; omega
      refine drawK_of2 (D4n X.length) [X ++ [z30], X1, X1.set X.length (⟨30, (⟨aedu, ann, aedu, krb aedu, 1, b1, b2⟩ : RepO).cells, 1⟩ : PObj)] (by kernel_rfl) ⟨rfl, rfl⟩ trivial ?_
      (conv => whnf)
      (repeat (first | (apply Exists.intro; apply And.intro; (focus ((conv => whnf); first | exact ⟨rfl, rfl, trivial⟩ | (refine ⟨by omega, ?_⟩; (conv => whnf); exact ⟨rfl, rfl, trivial⟩))); (conv => whnf)) | (apply Exists.intro; apply And.intro; (focus ((conv => whnf); ((conv in (_[_]?) => tactic => first | with_reducible assumption | assumption); (conv => whnf)); (exact ⟨rfl, rfl, trivial⟩))); ((conv => whnf))) | (apply Exists.intro; apply And.intro; (focus ((conv => whnf); (try refine And.intro ⟨by (first | exact ⟨rfl, ⟨Nat.le_of_ble_eq_true rfl, _, rfl⟩, rfl, ⟨Nat.le_of_ble_eq_true rfl, _, rfl⟩, rfl⟩ | assumption | solve_by_elim), by (first | exact ⟨rfl, ⟨Nat.le_of_ble_eq_true rfl, _, rfl⟩, rfl, ⟨Nat.le_of_ble_eq_true rfl, _, rfl⟩, rfl⟩ | assumption | solve_by_elim)⟩ ?_); first | exact ⟨fun _ => ⟨rfl, rfl, trivial⟩, fun h => absurd (by (first | assumption | rfl | decide | omega)) h⟩ | exact ⟨fun h => absurd h (by (first | assumption | rfl | decide | omega)), fun _ => ⟨rfl, rfl, trivial⟩⟩)); ((conv => whnf))) | (apply Exists.intro; apply And.intro; (focus ((conv => whnf); refine callK_pure (by assumption) ?_; (exact ⟨rfl, rfl, trivial⟩))); ((conv => whnf))) | (apply Exists.intro; apply And.intro; (focus ((conv => whnf); refine callK_of (by assumption) ?_; intro _ _ hk; cases hk with | intro h1 h2 => (subst h1; subst h2; (exact ⟨rfl, rfl, trivial⟩)))); ((conv => whnf))) | (apply Exists.intro; apply And.intro; (focus ((conv => whnf); apply And.intro; (focus ((conv => whnf); first | exact ⟨rfl, rfl, trivial⟩ | (refine ⟨by omega, ?_⟩; (conv => whnf); exact ⟨rfl, rfl, trivial⟩))); ((conv => whnf); first | exact ⟨rfl, rfl, trivial⟩ | (refine ⟨by omega, ?_⟩; (conv => whnf); exact ⟨rfl, rfl, trivial⟩)))); (conv => whnf)) | (apply Exists.intro; apply And.intro; (focus ((conv => whnf); refine ⟨⟨⟨rfl, rfl, trivial⟩, get_last _ _⟩, ?_⟩; (conv => whnf); exact ⟨⟨rfl, rfl, trivial⟩, by assumption⟩)); ((conv => whnf))) | ((conv in (_[_]?) => tactic => first | with_reducible assumption | assumption); (conv => whnf)) | ((try refine And.intro ⟨by (first | exact ⟨rfl, ⟨Nat.le_of_ble_eq_true rfl, _, rfl⟩, rfl, ⟨Nat.le_of_ble_eq_true rfl, _, rfl⟩, rfl⟩ | assumption | solve_by_elim), by (first | exact ⟨rfl, ⟨Nat.le_of_ble_eq_true rfl, _, rfl⟩, rfl, ⟨Nat.le_of_ble_eq_true rfl, _, rfl⟩, rfl⟩ | assumption | solve_by_elim)⟩ ?_); (first | refine ⟨fun _ => ?_, fun h => absurd (by (first | assumption | rfl | decide | omega)) h⟩ | refine ⟨fun h => absurd h (by (first | assumption | rfl | decide | omega)), fun _ => ?_⟩); ((conv => whnf))) | (refine callK_pure (by assumption) ?_; ((conv => whnf))) | (refine callK_of (by assumption) ?_; intro _ _ hk; cases hk with | intro h1 h2 => (subst h1; subst h2; ((conv => whnf)))) | (refine ⟨by first | decide | omega, ?_⟩; ((conv => whnf)))))
      refine ⟨[.bool false], at1' e24, ?_⟩
      (conv => whnf)
      (repeat (first | (apply Exists.intro; apply And.intro; (focus ((conv => whnf); first | exact ⟨rfl, rfl, trivial⟩ | (refine ⟨by omega, ?_⟩; (conv => whnf); exact ⟨rfl, rfl, trivial⟩))); (conv => whnf)) | (apply Exists.intro; apply And.intro; (focus ((conv => whnf); ((conv in (_[_]?) => tactic => first | with_reducible assumption | assumption); (conv => whnf)); (exact ⟨rfl, rfl, trivial⟩))); ((conv => whnf))) | (apply Exists.intro; apply And.intro; (focus ((conv => whnf); (try refine And.intro ⟨by (first | exact ⟨rfl, ⟨Nat.le_of_ble_eq_true rfl, _, rfl⟩, rfl, ⟨Nat.le_of_ble_eq_true rfl, _, rfl⟩, rfl⟩ | assumption | solve_by_elim), by (first | exact ⟨rfl, ⟨Nat.le_of_ble_eq_true rfl, _, rfl⟩, rfl, ⟨Nat.le_of_ble_eq_true rfl, _, rfl⟩, rfl⟩ | assumption | solve_by_elim)⟩ ?_); first | exact ⟨fun _ => ⟨rfl, rfl, trivial⟩, fun h => absurd (by (first | assumption | rfl | decide | omega)) h⟩ | exact ⟨fun h => absurd h (by (first | assumption | rfl | decide | omega)), fun _ => ⟨rfl, rfl, trivial⟩⟩)); ((conv => whnf))) | (apply Exists.intro; apply And.intro; (focus ((conv => whnf); refine callK_pure (by assumption) ?_; (exact ⟨rfl, rfl, trivial⟩))); ((conv => whnf))) | (apply Exists.intro; apply And.intro; (focus ((conv => whnf); refine callK_of (by assumption) ?_; intro _ _ hk; cases hk with | intro h1 h2 => (subst h1; subst h2; (exact ⟨rfl, rfl, trivial⟩)))); ((conv => whnf))) | (apply Exists.intro; apply And.intro; (focus ((conv => whnf); apply And.intro; (focus ((conv => whnf); first | exact ⟨rfl, rfl, trivial⟩ | (refine ⟨by omega, ?_⟩; (conv => whnf); exact ⟨rfl, rfl, trivial⟩))); ((conv => whnf); first | exact ⟨rfl, rfl, trivial⟩ | (refine ⟨by omega, ?_⟩; (conv => whnf); exact ⟨rfl, rfl, trivial⟩)))); (conv => whnf)) | (apply Exists.intro; apply And.intro; (focus ((conv => whnf); refine ⟨⟨⟨rfl, rfl, trivial⟩, get_last _ _⟩, ?_⟩; (conv => whnf); exact ⟨⟨rfl, rfl, trivial⟩, by assumption⟩)); ((conv => whnf))) | ((conv in (_[_]?) => tactic => first | with_reducible assumption | assumption); (conv => whnf)) | ((try refine And.intro ⟨by (first | exact ⟨rfl, ⟨Nat.le_of_ble_eq_true rfl, _, rfl⟩, rfl, ⟨Nat.le_of_ble_eq_true rfl, _, rfl⟩, rfl⟩ | assumption | solve_by_elim), by (first | exact ⟨rfl, ⟨Nat.le_of_ble_eq_true rfl, _, rfl⟩, rfl, ⟨Nat.le_of_ble_eq_true rfl, _, rfl⟩, rfl⟩ | assumption | solve_by_elim)⟩ ?_); (first | refine ⟨fun _ => ?_, fun h => absurd (by (first | assumption | rfl | decide | omega)) h⟩ | refine ⟨fun h => absurd h (by (first | assumption | rfl | decide | omega)), fun _ => ?_⟩); ((conv => whnf))) | (refine callK_pure (by assumption) ?_; ((conv => whnf))) | (refine callK_of (by assumption) ?_; intro _ _ hk; cases hk with | intro h1 h2 => (subst h1; subst h2; ((conv => whnf)))) | (refine ⟨by first | decide | omega, ?_⟩; ((conv => whnf)))))
      refine ⟨⟨i + 1, m + 1, X1.set X.length (⟨30, (⟨aedu, ann, aedu, krb aedu, 1, b1, b2⟩ : RepO).cells, 1⟩ : PObj)⟩, ⟨by show i + 1 ≤ bs.length; omega, by show m + 1 ≤ i + 1; omega, hK2, e2.same _ _ hp hpk (o36T _ _).1 (o36T _ _).2⟩, ⟨rfl, rfl, ?_, congrArg (PV.int _) hwi, trivial⟩, rfl, by show bs.length - (i + 1) < bs.length - i; omega⟩
      show PV.int _ (IntKind.i64.wrap (((2 * m : Nat) : Int) + 2)) = _
      rw [← w2]
      rfl
  · have h : ¬ (i : Int) < bs.length := h
    obtain rfl : i = bs.length := by omega
    obtain ⟨w, hw⟩ := hK.k
    have hq : IntKind.i64.wrap (((2 * m : Nat) : Int).tdiv 2) = (m : Int) := by
      have : ((2 * m : Nat) : Int).tdiv 2 = (m : Int) := by
        rw [Int.tdiv_eq_ediv_of_nonneg (by omega)]; omega
      rw [this]; exact wrap64 (by omega) (by omega)
    (conv => whnf)
    (repeat (first | (apply Exists.intro; apply And.intro; (focus ((conv => whnf); first | exact ⟨rfl, rfl, trivial⟩ | (refine ⟨by omega, ?_⟩; (conv => whnf); exact ⟨rfl, rfl, trivial⟩))); (conv => whnf)) | (apply Exists.intro; apply And.intro; (focus ((conv => whnf); ((conv in (_[_]?) => tactic => first | with_reducible assumption | assumption); (conv => whnf)); (exact ⟨rfl, rfl, trivial⟩))); ((conv => whnf))) | (apply Exists.intro; apply And.intro; (focus ((conv => whnf); (try refine And.intro ⟨by (first | exact ⟨rfl, ⟨Nat.le_of_ble_eq_true rfl, _, rfl⟩, rfl, ⟨Nat.le_of_ble_eq_true rfl, _, rfl⟩, rfl⟩ | assumption | solve_by_elim), by (first | exact ⟨rfl, ⟨Nat.le_of_ble_eq_true rfl, _, rfl⟩, rfl, ⟨Nat.le_of_ble_eq_true rfl, _, rfl⟩, rfl⟩ | assumption | solve_by_elim)⟩ ?_); first | exact ⟨fun _ => ⟨rfl, rfl, trivial⟩, fun h => absurd (by (first | assumption | rfl | decide | omega)) h⟩ | exact ⟨fun h => absurd h (by (first | assumption | rfl | decide | omega)), fun _ => ⟨rfl, rfl, trivial⟩⟩)); ((conv => whnf))) | (apply Exists.intro; apply And.intro; (focus ((conv => whnf); refine callK_pure (by assumption) ?_; (exact ⟨rfl, rfl, trivial⟩))); ((conv => whnf))) | (apply Exists.intro; apply And.intro; (focus ((conv => whnf); refine callK_of (by assumption) ?_; intro _ _ hk; cases hk with | intro h1 h2 => (subst h1; subst h2; (exact ⟨rfl, rfl, trivial⟩)))); ((conv => whnf))) | (apply Exists.intro; apply And.intro; (focus ((conv => whnf); apply And.intro; (focus ((conv => whnf); first | exact ⟨rfl, rfl, trivial⟩ | (refine ⟨by omega, ?_⟩; (conv => whnf); exact ⟨rfl, rfl, trivial⟩))); ((conv => whnf); first | exact ⟨rfl, rfl, trivial⟩ | (refine ⟨by omega, ?_⟩; (conv => whnf); exact ⟨rfl, rfl, trivial⟩)))); (conv => whnf)) | (apply Exists.intro; apply And.intro; (focus ((conv => whnf); refine ⟨⟨⟨rfl, rfl, trivial⟩, get_last _ _⟩, ?_⟩; (conv => whnf); exact ⟨⟨rfl, rfl, trivial⟩, by assumption⟩)); ((conv => whnf))) | ((conv in (_[_]?) => tactic => first | with_reducible assumption | assumption); (conv => whnf)) | ((try refine And.intro ⟨by (first | exact ⟨rfl, ⟨Nat.le_of_ble_eq_true rfl, _, rfl⟩, rfl, ⟨Nat.le_of_ble_eq_true rfl, _, rfl⟩, rfl⟩ | assumption | solve_by_elim), by (first | exact ⟨rfl, ⟨Nat.le_of_ble_eq_true rfl, _, rfl⟩, rfl, ⟨Nat.le_of_ble_eq_true rfl, _, rfl⟩, rfl⟩ | assumption | solve_by_elim)⟩ ?_); (first | refine ⟨fun _ => ?_, fun h => absurd (by (first | assumption | rfl | decide | omega)) h⟩ | refine ⟨fun h => absurd h (by (first | assumption | rfl | decide | omega)), fun _ => ?_⟩); ((conv => whnf))) | (refine callK_pure (by assumption) ?_; ((conv => whnf))) | (refine callK_of (by assumption) ?_; intro _ _ hk; cases hk with | intro h1 h2 => (subst h1; subst h2; ((conv => whnf)))) | (refine ⟨by first | decide | omega, ?_⟩; ((conv => whnf)))))
    refine callK_of (c20 hw) ?_
    rintro _ _ ⟨hx7, hH7⟩
    rw [hx7, hH7]; clear hx7 hH7
    (conv => whnf)
    (repeat (first | (apply Exists.intro; apply And.intro; (focus ((conv => whnf); first | exact ⟨rfl, rfl, trivial⟩ | (refine ⟨by omega, ?_⟩; (conv => whnf); exact ⟨rfl, rfl, trivial⟩))); (conv => whnf)) | (apply Exists.intro; apply And.intro; (focus ((conv => whnf); ((conv in (_[_]?) => tactic => first | with_reducible assumption | assumption); (conv => whnf)); (exact ⟨rfl, rfl, trivial⟩))); ((conv => whnf))) | (apply Exists.intro; apply And.intro; (focus ((conv => whnf); (try refine And.intro ⟨by (first | exact ⟨rfl, ⟨Nat.le_of_ble_eq_true rfl, _, rfl⟩, rfl, ⟨Nat.le_of_ble_eq_true rfl, _, rfl⟩, rfl⟩ | assumption | solve_by_elim), by (first | exact ⟨rfl, ⟨Nat.le_of_ble_eq_true rfl, _, rfl⟩, rfl, ⟨Nat.le_of_ble_eq_true rfl, _, rfl⟩, rfl⟩ | assumption | solve_by_elim)⟩ ?_); first | exact ⟨fun _ => ⟨rfl, rfl, trivial⟩, fun h => absurd (by (first | assumption | rfl | decide | omega)) h⟩ | exact ⟨fun h => absurd h (by (first | assumption | rfl | decide | omega)), fun _ => ⟨rfl, rfl, trivial⟩⟩)); ((conv => whnf))) | (apply Exists.intro; apply And.intro; (focus ((conv => whnf); refine callK_pure (by assumption) ?_; (exact ⟨rfl, rfl, trivial⟩))); ((conv => whnf))) | (apply Exists.intro; apply And.intro; (focus ((conv => whnf); refine callK_of (by assumption) ?_; intro _ _ hk; cases hk with | intro h1 h2 => (subst h1; subst h2; (exact ⟨rfl, rfl, trivial⟩)))); ((conv => whnf))) | (apply Exists.intro; apply And.intro; (focus ((conv => whnf); apply And.intro; (focus ((conv => whnf); first | exact ⟨rfl, rfl, trivial⟩ | (refine ⟨by omega, ?_⟩; (conv => whnf); exact ⟨rfl, rfl, trivial⟩))); ((conv => whnf); first | exact ⟨rfl, rfl, trivial⟩ | (refine ⟨by omega, ?_⟩; (conv => whnf); exact ⟨rfl, rfl, trivial⟩)))); (conv => whnf)) | (apply Exists.intro; apply And.intro; (focus ((conv => whnf); refine ⟨⟨⟨rfl, rfl, trivial⟩, get_last _ _⟩, ?_⟩; (conv => whnf); exact ⟨⟨rfl, rfl, trivial⟩, by assumption⟩)); ((conv => whnf))) | ((conv in (_[_]?) => tactic => first | with_reducible assumption | assumption); (conv => whnf)) | ((try refine And.intro ⟨by (first | exact ⟨rfl, ⟨Nat.le_of_ble_eq_true rfl, _, rfl⟩, rfl, ⟨Nat.le_of_ble_eq_true rfl, _, rfl⟩, rfl⟩ | assumption | solve_by_elim), by (first | exact ⟨rfl, ⟨Nat.le_of_ble_eq_true rfl, _, rfl⟩, rfl, ⟨Nat.le_of_ble_eq_true rfl, _, rfl⟩, rfl⟩ | assumption | solve_by_elim)⟩ ?_); (first | refine ⟨fun _ => ?_, fun h => absurd (by (first | assumption | rfl | decide | omega)) h⟩ | refine ⟨fun h => absurd h (by (first | assumption | rfl | decide | omega)), fun _ => ?_⟩); ((conv => whnf))) | (refine callK_pure (by assumption) ?_; ((conv => whnf))) | (refine callK_of (by assumption) ?_; intro _ _ hk; cases hk with | intro h1 h2 => (subst h1; subst h2; ((conv => whnf)))) | (refine ⟨by first | decide | omega, ?_⟩; ((conv => whnf)))))
    have hq' : (m : Int) = IntKind.i64.wrap (((2 * m : Nat) : Int).tdiv 2) := hq.symm
    (repeat (first | (apply Exists.intro; apply And.intro; (focus ((conv => whnf); first | exact ⟨rfl, rfl, trivial⟩ | (refine ⟨by omega, ?_⟩; (conv => whnf); exact ⟨rfl, rfl, trivial⟩))); (conv => whnf)) | (apply Exists.intro; apply And.intro; (focus ((conv => whnf); ((conv in (_[_]?) => tactic => first | with_reducible assumption | assumption); (conv => whnf)); (exact ⟨rfl, rfl, trivial⟩))); ((conv => whnf))) | (apply Exists.intro; apply And.intro; (focus ((conv => whnf); (try refine And.intro ⟨by (first | exact ⟨rfl, ⟨Nat.le_of_ble_eq_true rfl, _, rfl⟩, rfl, ⟨Nat.le_of_ble_eq_true rfl, _, rfl⟩, rfl⟩ | assumption | solve_by_elim), by (first | exact ⟨rfl, ⟨Nat.le_of_ble_eq_true rfl, _, rfl⟩, rfl, ⟨Nat.le_of_ble_eq_true rfl, _, rfl⟩, rfl⟩ | assumption | solve_by_elim)⟩ ?_); first | exact ⟨fun _ => ⟨rfl, rfl, trivial⟩, fun h => absurd (by (first | assumption | rfl | decide | omega)) h⟩ | exact ⟨fun h => absurd h (by (first | assumption | rfl | decide | omega)), fun _ => ⟨rfl, rfl, trivial⟩⟩)); ((conv => whnf))) | (apply Exists.intro; apply And.intro; (focus ((conv => whnf); refine callK_pure (by assumption) ?_; (exact ⟨rfl, rfl, trivial⟩))); ((conv => whnf))) | (apply Exists.intro; apply And.intro; (focus ((conv => whnf); refine callK_of (by assumption) ?_; intro _ _ hk; cases hk with | intro h1 h2 => (subst h1; subst h2; (exact ⟨rfl, rfl, trivial⟩)))); ((conv => whnf))) | (apply Exists.intro; apply And.intro; (focus ((conv => whnf); apply And.intro; (focus ((conv => whnf); first | exact ⟨rfl, rfl, trivial⟩ | (refine ⟨by omega, ?_⟩; (conv => whnf); exact ⟨rfl, rfl, trivial⟩))); ((conv => whnf); first | exact ⟨rfl, rfl, trivial⟩ | (refine ⟨by omega, ?_⟩; (conv => whnf); exact ⟨rfl, rfl, trivial⟩)))); (conv => whnf)) | (apply Exists.intro; apply And.intro; (focus ((conv => whnf); refine ⟨⟨⟨rfl, rfl, trivial⟩, get_last _ _⟩, ?_⟩; (conv => whnf); exact ⟨⟨rfl, rfl, trivial⟩, by assumption⟩)); ((conv => whnf))) | ((conv in (_[_]?) => tactic => first | with_reducible assumption | assumption); (conv => whnf)) | ((try refine And.intro ⟨by (first | exact ⟨rfl, ⟨Nat.le_of_ble_eq_true rfl, _, rfl⟩, rfl, ⟨Nat.le_of_ble_eq_true rfl, _, rfl⟩, rfl⟩ | assumption | solve_by_elim), by (first | exact ⟨rfl, ⟨Nat.le_of_ble_eq_true rfl, _, rfl⟩, rfl, ⟨Nat.le_of_ble_eq_true rfl, _, rfl⟩, rfl⟩ | assumption | solve_by_elim)⟩ ?_); (first | refine ⟨fun _ => ?_, fun h => absurd (by (first | assumption | rfl | decide | omega)) h⟩ | refine ⟨fun h => absurd h (by (first | assumption | rfl | decide | omega)), fun _ => ?_⟩); ((conv => whnf))) | (refine callK_pure (by assumption) ?_; ((conv => whnf))) | (refine callK_of (by assumption) ?_; intro _ _ hk; cases hk with | intro h1 h2 => (subst h1; subst h2; ((conv => whnf)))) | (refine ⟨by first | decide | omega, ?_⟩; ((conv => whnf)))))
    refine last _ _ fun H' => ?_
    (conv => whnf)
    rfl
end Go.Proofs.Tryz

set_option maxRecDepth 100000
namespace Go.Proofs.YtdnggpdgijobfaaGreatDoor
open Go Go.RowKit Ps
theorem rows_ints {k : IntKind} : ∀ {rs : List (List PV)}, (∀ r ∈ rs, ∃ x, r = [.int k x] ∧ (Lit.int k x).wf = true) → ∃ xs : List Int, rs.length = xs.length ∧ rs.flatten = xs.map (.int k) ∧ ∀ x ∈ xs, (Lit.int k x).wf = true
  | [], _ => ⟨[], rfl, rfl, fun x h => by cases h⟩
  | r :: rs, h => by
    obtain ⟨x, rfl, hx⟩ := h r List.mem_cons_self
    obtain ⟨xs, h1, h2, h3⟩ := rows_ints fun r hr => h r (List.mem_cons_of_mem _ hr)
    exact ⟨x :: xs, by simp [h1], by simp [h2], fun y hy => by
      rcases List.mem_cons.1 hy with rfl | hy
      · exact hx
      · exact h3 y hy⟩
/-- Integers that are bytes. -/
theorem bytes_of : ∀ {xs : List Int}, (∀ x ∈ xs, (Lit.int .u8 x).wf = true) → ∃ bs : List UInt8, xs.length = bs.length ∧ xs.map (PV.int .u8) = bs.map byteC
  | [], _ => ⟨[], rfl, rfl⟩
  | x :: xs, h => by
    obtain ⟨bs, h1, h2⟩ := bytes_of fun y hy => h y (List.mem_cons_of_mem _ hy)
    have hx := bounds_u8 (h x List.mem_cons_self)
    refine ⟨UInt8.ofNat x.toNat :: bs, by simp [h1], ?_⟩
    rw [List.map_cons, List.map_cons, h2]
    congr 1
    show PV.int .u8 x = .int .u8 _
    rw [UInt8.toNat_ofNat']
    congr 1; omega
theorem own : ownKnob Tryz.prog.godebug = none := by kernel_rfl
theorem laidOut : laidOutB Tryz.prog = true := by kernel_rfl
/-- The cells of a table. -/
def litV : DataW Unit → Value
  | .lit (.int k n) => .int k n
  | _ => Go.undef
def litVs : DataW Unit → List Value
  | .agg l => l.map litV
  | d => [litV d]
def tabVs : DataW Unit → List Value
  | .agg l => l.flatMap litVs
  | _ => []
def fillTab (l : List Value) : Obj → Obj
  | .cells _ t frozen => .cells l.toArray t frozen
  | o => o
/-- A world for the witness: the settled one, the listed tables laid. -/
noncomputable def laidWorld (os : Os) : World :=
  { World.holding Tryz.prog os ⟨#[], #[], []⟩ with heap := ((World.holding Tryz.prog os ⟨#[], #[], []⟩).heap.modify 0 (fillTab (tabVs Rows.laid_unicode_utf8_first))).modify 1 (fillTab (tabVs Rows.laid_unicode_utf8_acceptRanges)) }
theorem laid_met (os : Os) (args : Array Value) : laidMet Tryz.prog [("unicode/utf8.acceptRanges", Rows.laid_unicode_utf8_acceptRanges), ("unicode/utf8.first", Rows.laid_unicode_utf8_first)] ((laidWorld os).forCall (fun _ _ => 0) ⟨#[], args, []⟩).memory :=
  laidMet_of_run' 8 (by kernel_rfl) (by kernel_rfl)
theorem varsB (os : Os) (args : Array Value) : ((laidWorld os).forCall (fun _ _ => 0) ⟨#[], args, []⟩).variablesB Tryz.checked.prog = true := by kernel_rfl
theorem heapB (os : Os) (args : Array Value) : (((laidWorld os).forCall (fun _ _ => 0) ⟨#[], args, []⟩).heap.toList.drop Tryz.checked.prog.globals.size).take ((begin Tryz.checked.prog (fun _ _ => 0) default).world.heap.size - Tryz.checked.prog.globals.size) =
      (begin Tryz.checked.prog (fun _ _ => 0) default).world.heap.toList.drop Tryz.checked.prog.globals.size := by kernel_rfl
theorem noLooks : false = Tryz.prog.looks [] := by kernel_rfl
theorem plainOf {name : String} {k : Nat} {g : Func} (hn : Tryz.prog.funcNamed name = some k) (hg : Tryz.prog.funcs[k]? = some g) (hall : (g.params.toList.all fun t => Tryz.prog.wantsStandIn t == false) = true)
    (f : FuncId) (fn : Func) (hf : Tryz.pinned.checked.prog.funcNamed name = some f) (hfn : Tryz.pinned.checked.prog.funcs[f]? = some fn) :
    false = Tryz.pinned.checked.prog.looks [] ∧ ∀ (j : Nat) t, fn.params[j]? = some t → Tryz.pinned.checked.prog.wantsStandIn t = false := by
  obtain rfl : f = k := Option.some.inj (hn.symm.trans hf) |>.symm
  obtain rfl : fn = g := (Option.some.inj (hg.symm.trans hfn)).symm
  refine ⟨noLooks, fun j t ht => ?_⟩
  have h : Tryz.prog.wantsStandIn t = false := by simpa using List.all_eq_true.1 hall t (Array.mem_toList_iff.2 (Array.mem_of_getElem? ht))
  exact h
end Go.Proofs.YtdnggpdgijobfaaGreatDoor

set_option maxRecDepth 100000
set_option linter.unusedVariables false
namespace Go.Proofs.Tryz
open Go Ps
open Go.Proofs.YtdnggpdgijobfaaGreatDoor (rows_ints bytes_of)
end Go.Proofs.Tryz

set_option maxRecDepth 100000
namespace Go.Proofs.Tryz
open Go Ps
theorem rows_bools : ∀ {rs : List (List PV)}, (∀ r ∈ rs, ∃ b, r = [.bool b]) → ∃ xs : List Bool, rs.length = xs.length ∧ rs.flatten = xs.map .bool
  | [], _ => ⟨[], rfl, rfl⟩
  | r :: rs, h => by
    obtain ⟨x, rfl⟩ := h r List.mem_cons_self
    obtain ⟨xs, h1, h2⟩ := rows_bools fun r hr => h r (List.mem_cons_of_mem _ hr)
    exact ⟨x :: xs, by simp [h1], by simp [h2]⟩
theorem rdBools {B n : Nat} {ps : List PV} (h : RdP prog B (n + 2) 58 ps) : ∃ b : List Bool, ps = [.slice b.length (b.map .bool) none] ∧ b.length ≤ B := by
  obtain ⟨rs, rfl, hb, _, hr⟩ : ∃ rs : List (List PV), ps = [.slice rs.length rs.flatten none] ∧ rs.length * prog.bytesOf 4 ≤ B ∧ rs.length ≤ 9223372036854775807 ∧ ∀ r ∈ rs, r.length = prog.cellsOf 4 ∧ RdP prog B (n + 1) 4 r := h
  obtain ⟨xs, e1, e2⟩ := rows_bools fun r hr' => (hr r hr').2
  refine ⟨xs, by rw [e1, e2], ?_⟩
  have hb : rs.length * 1 ≤ B := hb
  omega
end Go.Proofs.Tryz
