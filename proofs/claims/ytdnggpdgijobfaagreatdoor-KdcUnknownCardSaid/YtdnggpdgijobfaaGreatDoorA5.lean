import Derived.Test.YtdnggpdgijobfaaGreatDoorA4
import Derived.Test.YtdnggpdgijobfaaGreatDoorA2
import Derived.Test.YtdnggpdgijobfaaGreatDoorCards
import Derived.Test.YtdnggpdgijobfaaGreatDoorTie
import Derived.WalkKit
import Derived.ProofKit
import Derived.OpenShut
import Derived.Deep.DeepHandedRow
import Derived.Lib.LaidTab
import Derived.Test.YtdnggpdgijobfaaGreatDoorA3
set_option linter.all false
set_option maxRecDepth 100000
set_option maxHeartbeats 4000000
set_option linter.unusedVariables false
set_option linter.unusedSimpArgs false
namespace Go.Proofs.Tryz
open Go Ps
/-- As c51, the heap behind it named ahead. -/
theorem c51d {H : PH} {kid rid : Nat} {realm : List UInt8} {rs ls ps : PV} {l : List Ent} {n i : Nat} (hK : Kd H kid rid realm rs ls ps l n i) (hn : n ≤ 100000) (hi : i ≤ 100000)
    (sr sn : List UInt8) (hsr : sr.length ≤ 1000000) (hsn : sn.length ≤ 1000000) (p : Prt) (hr : p.r.length ≤ 1000000) (hpn : p.n.length ≤ 1000000) (ht : p.tr.length ≤ 1000000) (nonce : Int) (bid : Nat) (bkey : List UInt8) (hb : BoxAt H bid bkey) (u : Int) (hu : isUseB u = true) :
    ∃ H1, (Kd H1 kid rid realm rs ls ps l (bump (makeV l n sr sn p nonce bkey u) n 2) (bump (makeV l n sr sn p nonce bkey u) i 1) ∧ Evo (· = kid) H H1 ∧ H1.length = H.length + 1) ∧ CallOk prog 51 [.ptr (some (kid, 0)), .agg ([.str sr, .str sn] ++ p.cells ++ [.int .i64 nonce, .ptr (some (bid, 0)), .int .i64 u])] H fun x H' =>
      x = .tup [.agg (makeV l n sr sn p nonce bkey u).1.cells, .int .i64 (makeV l n sr sn p nonce bkey u).2] ∧ H' = H1 := by
  have e1 : Evo (fun _ => False) H (H ++ [ansO]) := Evo.app H _
  have hK1 := hK.evo e1 id id
  have hb1 := e1.box _ _ hb
  have hlt : kid < H.length := by obtain ⟨v, hv⟩ := hK.k; exact (List.getElem?_eq_some_iff.1 hv).1
  have hne : H.length ≠ kid := by omega
  have ha : (H ++ [ansO])[H.length]? = some ansO := get_last H _
  obtain ⟨v1, hv1⟩ := hK1.k
  have hrl : rid < H.length := by have := hK.ring.ex.choose_spec; exact (List.getElem?_eq_some_iff.1 this).1
  have hg := lastGet hK1.ring (by have := hK1.len; omega) sr sn
  have hEp := c106s p hr hpn ht
  have hEr := c107s (rptOf p sr sn nonce) hsr hsn
  unfold makeV
  cases hL : lastE (isP sr sn) l with
  | none =>
    rw [hL] at hg
    have w : ∃ o, CallOk prog 51 [.ptr (some (kid, 0)), .agg ([.str sr, .str sn] ++ p.cells ++ [.int .i64 nonce, .ptr (some (bid, 0)), .int .i64 u])] H fun x H' => x = .tup [.agg (repZ).cells, .int .i64 4] ∧ H' = (H ++ [ansO]).set H.length o := by
      apply Exists.intro
      (refine callOk_of_pFun2 (tt := ttK) (imm := imm51) follows ttK_ok depth6 func51 (by kernel_rfl) ?_; (conv => whnf))
      refine drawK_pure2 (by kernel_rfl) ?_
      (conv => whnf)
      iterate 3 (apply Exists.intro; apply And.intro; (focus ((conv => whnf); first | exact ⟨rfl, rfl, trivial⟩ | (refine ⟨by omega, ?_⟩; (conv => whnf); exact ⟨rfl, rfl, trivial⟩))); (conv => whnf))
      apply Exists.intro
      apply And.intro
      · (conv => whnf)
        ((conv in (_[_]?) => tactic => exact hv1); (conv => whnf))
        exact ⟨rfl, rfl, trivial⟩
      (conv => whnf)
      iterate 2 (apply Exists.intro; apply And.intro; (focus ((conv => whnf); first | exact ⟨rfl, rfl, trivial⟩ | (refine ⟨by omega, ?_⟩; (conv => whnf); exact ⟨rfl, rfl, trivial⟩))); (conv => whnf))
      refine ⟨_, callK_of hg (by rintro _ _ ⟨rfl, rfl⟩; exact ⟨rfl, rfl, trivial⟩), ?_⟩
      (conv => whnf)
      iterate 7 (apply Exists.intro; apply And.intro; (focus ((conv => whnf); first | exact ⟨rfl, rfl, trivial⟩ | (refine ⟨by omega, ?_⟩; (conv => whnf); exact ⟨rfl, rfl, trivial⟩))); (conv => whnf))
      refine ⟨fun h => absurd h (by decide), fun _ => ?_⟩
      (conv => whnf)
      ((conv in (_[_]?) => tactic => exact ha); (conv => whnf))
      ((conv in (_[_]?) => tactic => exact (show ((H ++ [ansO]).set H.length _)[H.length]? = some _ from get_set ha)); (conv => whnf))
      exact ⟨rfl, rfl⟩
    obtain ⟨o, ho⟩ := w
    have e2 : Evo (fun i => i = kid ∨ i = H.length) (H ++ [ansO]) ((H ++ [ansO]).set H.length o) := Evo.setOther ha (.inr rfl) ansT.1 ansT.2
    have e3 : Evo (fun i => i = H.length) (H ++ [ansO]) ((H ++ [ansO]).set H.length o) := Evo.setOther ha rfl ansT.1 ansT.2
    exact ⟨_, ⟨hK1.evo e3 (Ne.symm hne) (by show ¬ rid = H.length; omega), ((e1.mono fun _ h => h.elim).trans e2).drop (Nat.le_refl _), by simp⟩, ho⟩
  | some e =>
    rw [hL] at hg
    cases hP : isPartB p with
    | false =>
      rw [(ePrt p).2 hP] at hEp
      have w : ∃ o, CallOk prog 51 [.ptr (some (kid, 0)), .agg ([.str sr, .str sn] ++ p.cells ++ [.int .i64 nonce, .ptr (some (bid, 0)), .int .i64 u])] H fun x H' => x = .tup [.agg (repZ).cells, .int .i64 2] ∧ H' = (H ++ [ansO]).set H.length o := by
        apply Exists.intro
        (refine callOk_of_pFun2 (tt := ttK) (imm := imm51) follows ttK_ok depth6 func51 (by kernel_rfl) ?_; (conv => whnf))
        refine drawK_pure2 (by kernel_rfl) ?_
        (conv => whnf)
        iterate 3 (apply Exists.intro; apply And.intro; (focus ((conv => whnf); first | exact ⟨rfl, rfl, trivial⟩ | (refine ⟨by omega, ?_⟩; (conv => whnf); exact ⟨rfl, rfl, trivial⟩))); (conv => whnf))
        apply Exists.intro
        apply And.intro
        · (conv => whnf)
          ((conv in (_[_]?) => tactic => exact hv1); (conv => whnf))
          exact ⟨rfl, rfl, trivial⟩
        (conv => whnf)
        iterate 2 (apply Exists.intro; apply And.intro; (focus ((conv => whnf); first | exact ⟨rfl, rfl, trivial⟩ | (refine ⟨by omega, ?_⟩; (conv => whnf); exact ⟨rfl, rfl, trivial⟩))); (conv => whnf))
        refine ⟨_, callK_of hg (by rintro _ _ ⟨rfl, rfl⟩; exact ⟨rfl, rfl, trivial⟩), ?_⟩
        (conv => whnf)
        iterate 7 (apply Exists.intro; apply And.intro; (focus ((conv => whnf); first | exact ⟨rfl, rfl, trivial⟩ | (refine ⟨by omega, ?_⟩; (conv => whnf); exact ⟨rfl, rfl, trivial⟩))); (conv => whnf))
        refine ⟨fun _ => ?_, fun h => absurd rfl h⟩
        (conv => whnf)
        refine callK_pure hEp ?_
        (conv => whnf)
        refine callK_pure hEr ?_
        (conv => whnf)
        refine ⟨fun h => absurd h (by decide), fun _ => ?_⟩
        (conv => whnf)
        ((conv in (_[_]?) => tactic => exact ha); (conv => whnf))
        ((conv in (_[_]?) => tactic => exact (show ((H ++ [ansO]).set H.length _)[H.length]? = some _ from get_set ha)); (conv => whnf))
        exact ⟨rfl, rfl⟩
      obtain ⟨o, ho⟩ := w
      have e2 : Evo (fun i => i = kid ∨ i = H.length) (H ++ [ansO]) ((H ++ [ansO]).set H.length o) := Evo.setOther ha (.inr rfl) ansT.1 ansT.2
      have e3 : Evo (fun i => i = H.length) (H ++ [ansO]) ((H ++ [ansO]).set H.length o) := Evo.setOther ha rfl ansT.1 ansT.2
      exact ⟨_, ⟨hK1.evo e3 (Ne.symm hne) (by show ¬ rid = H.length; omega), ((e1.mono fun _ h => h.elim).trans e2).drop (Nat.le_refl _), by simp⟩, ho⟩
    | true =>
      cases hR : isRptB (rptOf p sr sn nonce) with
      | false =>
        rw [((ePrt p).1 hP).1, ((ePrt p).1 hP).2] at hEp
        rw [(eRpt _).2 hR] at hEr
        have w : ∃ o, CallOk prog 51 [.ptr (some (kid, 0)), .agg ([.str sr, .str sn] ++ p.cells ++ [.int .i64 nonce, .ptr (some (bid, 0)), .int .i64 u])] H fun x H' => x = .tup [.agg (repZ).cells, .int .i64 2] ∧ H' = (H ++ [ansO]).set H.length o := by
          apply Exists.intro
          (refine callOk_of_pFun2 (tt := ttK) (imm := imm51) follows ttK_ok depth6 func51 (by kernel_rfl) ?_; (conv => whnf))
          refine drawK_pure2 (by kernel_rfl) ?_
          (conv => whnf)
          iterate 3 (apply Exists.intro; apply And.intro; (focus ((conv => whnf); first | exact ⟨rfl, rfl, trivial⟩ | (refine ⟨by omega, ?_⟩; (conv => whnf); exact ⟨rfl, rfl, trivial⟩))); (conv => whnf))
          apply Exists.intro
          apply And.intro
          · (conv => whnf)
            ((conv in (_[_]?) => tactic => exact hv1); (conv => whnf))
            exact ⟨rfl, rfl, trivial⟩
          (conv => whnf)
          iterate 2 (apply Exists.intro; apply And.intro; (focus ((conv => whnf); first | exact ⟨rfl, rfl, trivial⟩ | (refine ⟨by omega, ?_⟩; (conv => whnf); exact ⟨rfl, rfl, trivial⟩))); (conv => whnf))
          refine ⟨_, callK_of hg (by rintro _ _ ⟨rfl, rfl⟩; exact ⟨rfl, rfl, trivial⟩), ?_⟩
          (conv => whnf)
          iterate 7 (apply Exists.intro; apply And.intro; (focus ((conv => whnf); first | exact ⟨rfl, rfl, trivial⟩ | (refine ⟨by omega, ?_⟩; (conv => whnf); exact ⟨rfl, rfl, trivial⟩))); (conv => whnf))
          refine ⟨fun _ => ?_, fun h => absurd rfl h⟩
          (conv => whnf)
          refine callK_pure hEp ?_
          (conv => whnf)
          refine callK_pure hEr ?_
          (conv => whnf)
          refine ⟨fun _ => ?_, fun h => absurd rfl h⟩
          (conv => whnf)
          refine ⟨fun h => absurd h (by decide), fun _ => ?_⟩
          (conv => whnf)
          ((conv in (_[_]?) => tactic => exact ha); (conv => whnf))
          ((conv in (_[_]?) => tactic => exact (show ((H ++ [ansO]).set H.length _)[H.length]? = some _ from get_set ha)); (conv => whnf))
          exact ⟨rfl, rfl⟩
        obtain ⟨o, ho⟩ := w
        have e2 : Evo (fun i => i = kid ∨ i = H.length) (H ++ [ansO]) ((H ++ [ansO]).set H.length o) := Evo.setOther ha (.inr rfl) ansT.1 ansT.2
        have e3 : Evo (fun i => i = H.length) (H ++ [ansO]) ((H ++ [ansO]).set H.length o) := Evo.setOther ha rfl ansT.1 ansT.2
        exact ⟨_, ⟨hK1.evo e3 (Ne.symm hne) (by show ¬ rid = H.length; omega), ((e1.mono fun _ h => h.elim).trans e2).drop (Nat.le_refl _), by simp⟩, ho⟩
      | true =>
        rw [((ePrt p).1 hP).1, ((ePrt p).1 hP).2] at hEp
        rw [((eRpt _).1 hR).1, ((eRpt _).1 hR).2] at hEr
        have hP7 := partL_784 hP
        have hR7 := rptL_784 hR
        have hP0 := Nat.zero_lt_of_ne_zero (show (partL p).length ≠ 0 from Nat.succ_ne_zero _)
        have hR0 := Nat.zero_lt_of_ne_zero (show (rptL (rptOf p sr sn nonce)).length ≠ 0 from Nat.succ_ne_zero _)
        show ∃ H1, (Kd H1 kid rid realm rs ls ps l (n + 2) (i + 1) ∧ Evo (· = kid) H H1 ∧ H1.length = H.length + 1) ∧ CallOk prog 51 [.ptr (some (kid, 0)), .agg ([.str sr, .str sn] ++ p.cells ++ [.int .i64 nonce, .ptr (some (bid, 0)), .int .i64 u])] H fun x H' =>
          x = .tup [.agg (RepO.cells ⟨p.r, p.n, sr, sn, e.kv, sealK e.key 2 (n + 1 : Int) (partL p), sealK bkey u (n + 2 : Int) (rptL (rptOf p sr sn nonce))⟩), .int .i64 0] ∧ H' = H1
        generalize partL p = pb at *
        generalize rptL (rptOf p sr sn nonce) = rb at *
        have hbx := hK1.ring.box e (lastE_mem hL)
        have hw1 : ((n : Int) + 1) = ((n + 1 : Nat) : Int) := by push_cast; rfl
        have hw2 : ((n : Int) + 2) = ((n + 2 : Nat) : Int) := by push_cast; rfl
        obtain ⟨hK2, e2⟩ := hK1.put (n + 1) i (v1 + 1)
        obtain ⟨H3, e3, l3, hc3⟩ := sealX (e2.box _ _ hbx) 2 ((n + 1 : Nat) : Int) rfl (by omega) (by omega) pb hP7 hP0
        have hK3 := hK2.evo e3 id id
        have hb3 := e3.box _ _ (e2.box _ _ hb1)
        obtain ⟨v3, hv3⟩ := hK3.k
        obtain ⟨hK4, e4⟩ := hK3.put (n + 2) i (v3 + 1)
        obtain ⟨H5, e5, l5, hc5⟩ := sealX (e4.box _ _ hb3) u ((n + 2 : Nat) : Int) hu (by omega) (by omega) rb hR7 hR0
        have hK5 := hK4.evo e5 id id
        obtain ⟨v5, hv5⟩ := hK5.k
        obtain ⟨hK6, e6⟩ := hK5.put (n + 2) (i + 1) (v5 + 1)
        have e16 : Evo (· = kid) (H ++ [ansO]) (H5.set kid (kdcO realm rs ls ps rid ((n + 2 : Nat) : Int) ((i + 1 : Nat) : Int) (v5 + 1))) := (((e2.trans (e3.mono fun _ h => h.elim)).trans e4).trans (e5.mono fun _ h => h.elim)).trans e6
        have ha6 := e16.same _ _ ha hne ansT.1 ansT.2
        have w : ∃ o, CallOk prog 51 [.ptr (some (kid, 0)), .agg ([.str sr, .str sn] ++ p.cells ++ [.int .i64 nonce, .ptr (some (bid, 0)), .int .i64 u])] H fun x H' => x = .tup [.agg (RepO.cells ⟨p.r, p.n, sr, sn, e.kv, sealK e.key 2 (n + 1 : Int) pb, sealK bkey u (n + 2 : Int) rb⟩), .int .i64 0] ∧ H' = (H5.set kid (kdcO realm rs ls ps rid ((n + 2 : Nat) : Int) ((i + 1 : Nat) : Int) (v5 + 1))).set H.length o := by
          apply Exists.intro
          (refine callOk_of_pFun2 (tt := ttK) (imm := imm51) follows ttK_ok depth6 func51 (by kernel_rfl) ?_; (conv => whnf))
          refine drawK_pure2 (by kernel_rfl) ?_
          (conv => whnf)
          iterate 3 (apply Exists.intro; apply And.intro; (focus ((conv => whnf); first | exact ⟨rfl, rfl, trivial⟩ | (refine ⟨by omega, ?_⟩; (conv => whnf); exact ⟨rfl, rfl, trivial⟩))); (conv => whnf))
          apply Exists.intro
          apply And.intro
          · (conv => whnf)
            ((conv in (_[_]?) => tactic => exact hv1); (conv => whnf))
            exact ⟨rfl, rfl, trivial⟩
          (conv => whnf)
          iterate 2 (apply Exists.intro; apply And.intro; (focus ((conv => whnf); first | exact ⟨rfl, rfl, trivial⟩ | (refine ⟨by omega, ?_⟩; (conv => whnf); exact ⟨rfl, rfl, trivial⟩))); (conv => whnf))
          refine ⟨_, callK_of hg (by rintro _ _ ⟨rfl, rfl⟩; exact ⟨rfl, rfl, trivial⟩), ?_⟩
          (conv => whnf)
          iterate 7 (apply Exists.intro; apply And.intro; (focus ((conv => whnf); first | exact ⟨rfl, rfl, trivial⟩ | (refine ⟨by omega, ?_⟩; (conv => whnf); exact ⟨rfl, rfl, trivial⟩))); (conv => whnf))
          refine ⟨fun _ => ?_, fun h => absurd rfl h⟩
          (conv => whnf)
          refine callK_pure hEp ?_
          (conv => whnf)
          refine callK_pure hEr ?_
          (conv => whnf)
          refine ⟨fun _ => ?_, fun h => absurd rfl h⟩
          (conv => whnf)
          refine ⟨fun _ => ?_, fun h => absurd rfl h⟩
          (conv => whnf)
          refine callK_of (c109x hv1 (by omega)) ?_
          rintro _ _ ⟨rfl, rfl⟩
          (conv => whnf)
          refine callK_of hc3 ?_
          rintro _ _ ⟨hx3, hH3⟩
          rw [hx3, hH3]; clear hx3 hH3
          (conv => whnf)
          refine drawK_of2 D51 [H3, H3.set kid (kdcO realm rs ls ps rid ((n + 2 : Nat) : Int) i (v3 + 1)), H5] (by kernel_rfl) rfl trivial ?_
          (conv => whnf)
          iterate 4 (apply Exists.intro; apply And.intro; (focus ((conv => whnf); apply And.intro; (focus ((conv => whnf); first | exact ⟨rfl, rfl, trivial⟩ | (refine ⟨by omega, ?_⟩; (conv => whnf); exact ⟨rfl, rfl, trivial⟩))); ((conv => whnf); first | exact ⟨rfl, rfl, trivial⟩ | (refine ⟨by omega, ?_⟩; (conv => whnf); exact ⟨rfl, rfl, trivial⟩)))); (conv => whnf))
          (apply Exists.intro; apply And.intro; (focus ((conv => whnf); first | exact ⟨rfl, rfl, trivial⟩ | (refine ⟨by omega, ?_⟩; (conv => whnf); exact ⟨rfl, rfl, trivial⟩))); (conv => whnf))
          refine ⟨.int .i64 ((n + 2 : Nat) : Int), ?_, ?_⟩
          · (conv => whnf)
            refine callK_of (c109x hv3 (by omega)) ?_
            rintro _ _ ⟨rfl, rfl⟩
            exact ⟨rfl, rfl, trivial⟩
          (conv => whnf)
          (apply Exists.intro; apply And.intro; (focus ((conv => whnf); apply And.intro; (focus ((conv => whnf); first | exact ⟨rfl, rfl, trivial⟩ | (refine ⟨by omega, ?_⟩; (conv => whnf); exact ⟨rfl, rfl, trivial⟩))); ((conv => whnf); first | exact ⟨rfl, rfl, trivial⟩ | (refine ⟨by omega, ?_⟩; (conv => whnf); exact ⟨rfl, rfl, trivial⟩)))); (conv => whnf))
          refine ⟨_, callK_of hc5 (by rintro _ _ ⟨rfl, rfl⟩; exact ⟨rfl, rfl, trivial⟩), ?_⟩
          (conv => whnf)
          iterate 5 (apply Exists.intro; apply And.intro; (focus ((conv => whnf); first | exact ⟨rfl, rfl, trivial⟩ | (refine ⟨by omega, ?_⟩; (conv => whnf); exact ⟨rfl, rfl, trivial⟩))); (conv => whnf))
          (conv => whnf)
          refine callK_of (c110 (off := 6) (n := i) 1 hv5 rfl) ?_
          rintro _ H6 ⟨rfl, hH6⟩
          have hwi : IntKind.i64.wrap ((i : Int) + 1) = ((i + 1 : Nat) : Int) := by rw [wrap64 (by omega) (by omega)]; rfl
          have hk6 : (⟨(kdcO realm rs ls ps rid ((n + 2 : Nat) : Int) i v5).T, setCells 6 [.int .i64 (IntKind.i64.wrap ((i : Int) + 1))] (kdcO realm rs ls ps rid ((n + 2 : Nat) : Int) i v5).cs, (kdcO realm rs ls ps rid ((n + 2 : Nat) : Int) i v5).ver + 1⟩ : PObj) = kdcO realm rs ls ps rid ((n + 2 : Nat) : Int) ((i + 1 : Nat) : Int) (v5 + 1) := by
            rw [hwi]; rfl
          replace hH6 : H6 = H5.set kid (kdcO realm rs ls ps rid ((n + 2 : Nat) : Int) ((i + 1 : Nat) : Int) (v5 + 1)) := hH6.trans (congrArg (fun o => H5.set kid o) hk6)
          rw [hH6]; clear hH6 H6
          (conv => whnf)
          ((conv in (_[_]?) => tactic => exact ha6); (conv => whnf))
          ((conv in (_[_]?) => tactic => exact (show ((H5.set kid (kdcO realm rs ls ps rid ((n + 2 : Nat) : Int) ((i + 1 : Nat) : Int) (v5 + 1))).set H.length _)[H.length]? = some _ from get_set ha6)); (conv => whnf))
          exact ⟨rfl, rfl⟩
        obtain ⟨o, ho⟩ := w
        have e7 : Evo (fun i => i = H.length) (H5.set kid (kdcO realm rs ls ps rid ((n + 2 : Nat) : Int) ((i + 1 : Nat) : Int) (v5 + 1))) ((H5.set kid (kdcO realm rs ls ps rid ((n + 2 : Nat) : Int) ((i + 1 : Nat) : Int) (v5 + 1))).set H.length o) := Evo.setOther ha6 rfl ansT.1 ansT.2
        exact ⟨_, ⟨hK6.evo e7 (Ne.symm hne) (by show ¬ rid = H.length; omega), Evo.drop (S := (· = kid)) (((e1.mono fun _ h => h.elim).trans (e16.mono fun _ h => .inl h)).trans (e7.mono fun _ h => .inr h)) (Nat.le_refl _), by simp [l3, l5]⟩, ho⟩
end Go.Proofs.Tryz

set_option maxRecDepth 100000
set_option maxHeartbeats 8000000
set_option linter.unusedVariables false
set_option linter.unusedSimpArgs false
namespace Go.Proofs.Tryz
open Go Ps
/-- As c16, where all is well; the heap behind it named ahead. -/
theorem c16g {H : PH} {kid rid : Nat} {realm : List UInt8} {rs ls ps : PV} {l : List Ent} {n i : Nat} (hK : Kd H kid rid realm rs ls ps l n i) (hn : n ≤ 100000) (hi : i ≤ 100000) (hrl : realm.length ≤ 1000000)
    (q : AsQ) (hf : q.fit) (now : Int) (draw : Nat → UInt8) (hl : lateB now = false) (hq : q.ok = true) (c s : Ent) (hC : lastE (isP q.cr q.cn) l = some c) (hS : lastE (isP q.sr q.sn) l = some s)
    (hcr : q.cr = realm) (hs : q.sr = realm ∧ q.sn = krb realm) (ht : ¬ q.till < now) :
    ∃ H1, (Kd H1 kid rid realm rs ls ps l (bump (makeV l n q.sr q.sn (asPart q now draw) q.nonce c.key 3) n 2) (bump (makeV l n q.sr q.sn (asPart q now draw) q.nonce c.key 3) i 1) ∧ Evo (· = kid) H H1 ∧ H1.length = H.length + 3) ∧ CallOk prog 16 [.ptr (some (kid, 0)), .agg q.cells, .int .i64 now, .agg (keyC draw)] H fun x H' =>
      x = .tup [.agg (makeV l n q.sr q.sn (asPart q now draw) q.nonce c.key 3).1.cells, .int .i64 (makeV l n q.sr q.sn (asPart q now draw) q.nonce c.key 3).2] ∧ H' = H1 := by
  have e1 : Evo (fun _ => False) H (H ++ [ansO]) := Evo.app H _
  have hK1 := hK.evo e1 id id
  have hlt : kid < H.length := by obtain ⟨v, hv⟩ := hK.k; exact (List.getElem?_eq_some_iff.1 hv).1
  have hrlt : rid < H.length := by have := hK.ring.ex.choose_spec; exact (List.getElem?_eq_some_iff.1 this).1
  have hne : H.length ≠ kid := by omega
  have ha : (H ++ [ansO])[H.length]? = some ansO := get_last H _
  obtain ⟨v1, hv1⟩ := hK1.k
  have hfit : (asMsg q).fits := by
    obtain ⟨f1, f2, f3, f4⟩ := hf
    unfold Msg.fits asMsg mZ
    exact ⟨by show q.cr.length ≤ _; omega, by show q.cn.length ≤ _; omega, by show q.sr.length ≤ _; omega, by show q.sn.length ≤ _; omega, Nat.zero_le _, Nat.zero_le _, Nat.zero_le _, Nat.zero_le _, Nat.zero_le _, Nat.zero_le _, Nat.zero_le _, Nat.zero_le _, Nat.zero_le _, Nat.zero_le _⟩
  have hgC := lastGet hK1.ring (by have := hK1.len; omega) q.cr q.cn
  have hgS := lastGet hK1.ring (by have := hK1.len; omega) q.sr q.sn
  rw [hC] at hgC
  rw [hS] at hgS
  have hnow : 0 ≤ now ∧ now ≤ 1073741824 := by
    unfold lateB at hl
    rw [Bool.or_eq_false_iff, decide_eq_false_iff_not, decide_eq_false_iff_not] at hl
    omega
  have hw : IntKind.i64.wrap (now + 1000) = now + 1000 := wrap64 (by omega) (by omega)
  have hp : asPart q now draw = ⟨q.cr, q.cn, draw, [], now, min q.till (IntKind.i64.wrap (now + 1000))⟩ := by unfold asPart; rw [hw]
  have e2 : Evo (fun _ => False) (H ++ [ansO]) ((H ++ [ansO]) ++ [⟨50, (asPart q now draw).cells, 1⟩]) := Evo.app _ _
  have hK2 := hK1.evo e2 id id
  obtain ⟨H6, ⟨hK6, e6, l6⟩, h51⟩ := c51d hK2 hn hi q.sr q.sn hf.sr hf.sn (asPart q now draw) hf.cr hf.cn (Nat.zero_le _) q.nonce c.box c.key (hK2.ring.box c (lastE_mem hC)) 3 rfl
  have hset5 : ∀ x : PObj, CallOk prog 51 [.ptr (some (kid, 0)), .agg ([.str q.sr, .str q.sn] ++ (asPart q now draw).cells ++ [.int .i64 q.nonce, .ptr (some (c.box, 0)), .int .i64 3])] (((H ++ [ansO]) ++ [x]).set (H ++ [ansO]).length (⟨50, (⟨q.cr, q.cn, draw, [], now, min q.till (IntKind.i64.wrap (now + 1000))⟩ : Prt).cells, 1⟩ : PObj)) fun x H' => x = .tup [.agg (makeV l n q.sr q.sn (asPart q now draw) q.nonce c.key 3).1.cells, .int .i64 (makeV l n q.sr q.sn (asPart q now draw) q.nonce c.key 3).2] ∧ H' = H6 := fun x => by
    rw [set_last, ← hp]; exact h51
  have ha2 : ((H ++ [ansO]) ++ [(⟨50, (asPart q now draw).cells, 1⟩ : PObj)])[H.length]? = some ansO := by rw [List.getElem?_append_left (by simp)]; exact ha
  have ha6 : H6[H.length]? = some ansO := e6.same _ _ ha2 hne ansT.1 ansT.2
  have w : ∃ o, CallOk prog 16 [.ptr (some (kid, 0)), .agg q.cells, .int .i64 now, .agg (keyC draw)] H fun x H' => x = .tup [.agg (makeV l n q.sr q.sn (asPart q now draw) q.nonce c.key 3).1.cells, .int .i64 (makeV l n q.sr q.sn (asPart q now draw) q.nonce c.key 3).2] ∧ H' = H6.set H.length o := by
    apply Exists.intro
    (refine callOk_of_pFun2 (tt := ttK) (imm := imm16) follows ttK_ok depth6 func16 (by kernel_rfl) ?_; (conv => whnf))
    refine callK_pure ((c47 (asMsg q) hfit).of_eq (encAs_yes q hq)) ?_
    (conv => whnf)
    refine callK_pure (c48 now) ?_
    rw [hl]
    (conv => whnf)
    refine ⟨fun _ => ?_, fun h => absurd rfl h⟩
    (conv => whnf)
    refine drawK_pure2 (by kernel_rfl) ?_
    (conv => whnf)
    iterate 3 (apply Exists.intro; apply And.intro; (focus ((conv => whnf); first | exact ⟨rfl, rfl, trivial⟩ | (refine ⟨by omega, ?_⟩; (conv => whnf); exact ⟨rfl, rfl, trivial⟩))); (conv => whnf))
    apply Exists.intro
    apply And.intro
    · (conv => whnf)
      ((conv in (_[_]?) => tactic => exact hv1); (conv => whnf))
      exact ⟨rfl, rfl, trivial⟩
    (conv => whnf)
    iterate 2 (apply Exists.intro; apply And.intro; (focus ((conv => whnf); first | exact ⟨rfl, rfl, trivial⟩ | (refine ⟨by omega, ?_⟩; (conv => whnf); exact ⟨rfl, rfl, trivial⟩))); (conv => whnf))
    refine ⟨_, callK_of hgC (by rintro _ _ ⟨rfl, rfl⟩; exact ⟨rfl, rfl, trivial⟩), ?_⟩
    (conv => whnf)
    iterate 7 (apply Exists.intro; apply And.intro; (focus ((conv => whnf); first | exact ⟨rfl, rfl, trivial⟩ | (refine ⟨by omega, ?_⟩; (conv => whnf); exact ⟨rfl, rfl, trivial⟩))); (conv => whnf))
    refine drawK_pure2 (by kernel_rfl) ?_
    (conv => whnf)
    iterate 3 (apply Exists.intro; apply And.intro; (focus ((conv => whnf); first | exact ⟨rfl, rfl, trivial⟩ | (refine ⟨by omega, ?_⟩; (conv => whnf); exact ⟨rfl, rfl, trivial⟩))); (conv => whnf))
    apply Exists.intro
    apply And.intro
    · (conv => whnf)
      ((conv in (_[_]?) => tactic => exact hv1); (conv => whnf))
      exact ⟨rfl, rfl, trivial⟩
    (conv => whnf)
    iterate 2 (apply Exists.intro; apply And.intro; (focus ((conv => whnf); first | exact ⟨rfl, rfl, trivial⟩ | (refine ⟨by omega, ?_⟩; (conv => whnf); exact ⟨rfl, rfl, trivial⟩))); (conv => whnf))
    refine ⟨_, callK_of hgS (by rintro _ _ ⟨rfl, rfl⟩; exact ⟨rfl, rfl, trivial⟩), ?_⟩
    (conv => whnf)
    iterate 7 (apply Exists.intro; apply And.intro; (focus ((conv => whnf); first | exact ⟨rfl, rfl, trivial⟩ | (refine ⟨by omega, ?_⟩; (conv => whnf); exact ⟨rfl, rfl, trivial⟩))); (conv => whnf))
    refine drawK_pure2 (by kernel_rfl) ?_
    (conv => whnf)
    iterate 6 (apply Exists.intro; apply And.intro; (focus ((conv => whnf); first | exact ⟨rfl, rfl, trivial⟩ | (refine ⟨by omega, ?_⟩; (conv => whnf); exact ⟨rfl, rfl, trivial⟩))); (conv => whnf))
    apply Exists.intro
    apply And.intro
    · (conv => whnf)
      ((conv in (_[_]?) => tactic => exact hv1); (conv => whnf))
      exact ⟨rfl, rfl, trivial⟩
    (conv => whnf)
    refine ⟨.bool false, ?_, ?_⟩
    · (conv => whnf)
      exact ⟨fun h => ⟨rfl, rfl, trivial⟩, fun h => absurd hcr h⟩
    (conv => whnf)
    iterate 2 (apply Exists.intro; apply And.intro; (focus ((conv => whnf); first | exact ⟨rfl, rfl, trivial⟩ | (refine ⟨by omega, ?_⟩; (conv => whnf); exact ⟨rfl, rfl, trivial⟩))); (conv => whnf))
    refine ⟨.bool false, ?_, ?_⟩
    · (conv => whnf)
      exact ⟨fun h => ⟨rfl, rfl, trivial⟩, fun h => absurd rfl h⟩
    (conv => whnf)
    iterate 2 (apply Exists.intro; apply And.intro; (focus ((conv => whnf); first | exact ⟨rfl, rfl, trivial⟩ | (refine ⟨by omega, ?_⟩; (conv => whnf); exact ⟨rfl, rfl, trivial⟩))); (conv => whnf))

    (conv => whnf)
    refine drawK_pure2 (by kernel_rfl) ?_
    (conv => whnf)
    iterate 6 (apply Exists.intro; apply And.intro; (focus ((conv => whnf); first | exact ⟨rfl, rfl, trivial⟩ | (refine ⟨by omega, ?_⟩; (conv => whnf); exact ⟨rfl, rfl, trivial⟩))); (conv => whnf))
    apply Exists.intro
    apply And.intro
    · (conv => whnf)
      ((conv in (_[_]?) => tactic => exact hv1); (conv => whnf))
      exact ⟨rfl, rfl, trivial⟩
    (conv => whnf)
    refine ⟨_, callK_of (c50 hv1 realm hrl) (by rintro _ _ ⟨rfl, rfl⟩; exact ⟨rfl, rfl, trivial⟩), ?_⟩
    (conv => whnf)

    refine ⟨.bool false, ?_, ?_⟩
    · (conv => whnf)
      exact ⟨⟨fitK _ _, fitK _ _⟩, fun h => ⟨rfl, rfl, trivial⟩, fun h => absurd (two_eq' hs) h⟩
    (conv => whnf)
    iterate 2 (apply Exists.intro; apply And.intro; (focus ((conv => whnf); first | exact ⟨rfl, rfl, trivial⟩ | (refine ⟨by omega, ?_⟩; (conv => whnf); exact ⟨rfl, rfl, trivial⟩))); (conv => whnf))
    refine ⟨.bool false, ?_, ?_⟩
    · (conv => whnf)
      exact ⟨fun h => ⟨rfl, rfl, trivial⟩, fun h => absurd rfl h⟩
    (conv => whnf)
    iterate 2 (apply Exists.intro; apply And.intro; (focus ((conv => whnf); first | exact ⟨rfl, rfl, trivial⟩ | (refine ⟨by omega, ?_⟩; (conv => whnf); exact ⟨rfl, rfl, trivial⟩))); (conv => whnf))

    (conv => whnf)
    refine ⟨fun h => absurd h ht, fun h => ?_⟩

    (conv => whnf)
    ((conv in (_[_]?) => tactic => exact (get_last (H ++ [ansO]) _)); (conv => whnf))
    ((conv in (_[_]?) => tactic => exact (show (((H ++ [ansO]) ++ [_]).set (H ++ [ansO]).length _)[(H ++ [ansO]).length]? = some _ from get_set (get_last (H ++ [ansO]) _))); (conv => whnf))
    refine callK_args (args' := [.ptr (some (kid, 0)), .agg ([.str q.sr, .str q.sn] ++ (asPart q now draw).cells ++ [.int .i64 q.nonce, .ptr (some (c.box, 0)), .int .i64 3])]) (by rw [hp]; rfl) ?_
    refine callK_of (H := (((H ++ [ansO]) ++ [_]).set (H ++ [ansO]).length _)) ((hset5 ⟨50, [.str [], .str []] ++ List.replicate 32 (.int .u8 0) ++ [.str [], .int .i64 0, .int .i64 0], 0⟩)) ?_
    rintro _ _ ⟨hx6, hH6⟩
    rw [hx6, hH6]; clear hx6 hH6
    (conv => whnf)
    ((conv in (_[_]?) => tactic => exact ha6); (conv => whnf))
    ((conv in (_[_]?) => tactic => exact (show (H6.set H.length _)[H.length]? = some _ from get_set ha6)); (conv => whnf))
    exact ⟨rfl, rfl⟩
  obtain ⟨o, ho⟩ := w
  have e7 : Evo (fun i => i = H.length) H6 (H6.set H.length o) := Evo.setOther ha6 rfl ansT.1 ansT.2
  exact ⟨_, ⟨hK6.evo e7 (Ne.symm hne) (by show ¬ rid = H.length; omega), Evo.drop (S := (· = kid)) ((((e1.mono fun _ h => h.elim).trans (e2.mono fun _ h => h.elim)).trans (e6.mono fun _ h => .inl h)).trans (e7.mono fun _ h => .inr h)) (Nat.le_refl _), by simp [l6]⟩, ho⟩
end Go.Proofs.Tryz

set_option maxRecDepth 100000
set_option maxHeartbeats 8000000
set_option linter.unusedVariables false
set_option linter.unusedSimpArgs false
namespace Go.Proofs.Tryz
open Go Ps
def E30 : PObj := ⟨30, [.str [], .str [], .str [], .str [], .int .i64 0, .slice 0 [] (some 5), .slice 0 [] (some 5)], 1⟩
/-- As c16, where it is refused; the heap behind it named ahead. -/
theorem c16b {H : PH} {kid rid : Nat} {realm : List UInt8} {rs ls ps : PV} {l : List Ent} {n i : Nat} (hK : Kd H kid rid realm rs ls ps l n i) (hn : n ≤ 100000) (hi : i ≤ 100000) (hrl : realm.length ≤ 1000000)
    (q : AsQ) (hf : q.fit) (now : Int) (draw : Nat → UInt8) (hng : ¬ (lateB now = false ∧ q.ok = true ∧ (∃ c, lastE (isP q.cr q.cn) l = some c) ∧ (∃ s, lastE (isP q.sr q.sn) l = some s) ∧ q.cr = realm ∧ (q.sr = realm ∧ q.sn = krb realm) ∧ ¬ q.till < now)) :
    CallOk prog 16 [.ptr (some (kid, 0)), .agg q.cells, .int .i64 now, .agg (keyC draw)] H fun x H' => x = .tup [.agg (asV realm l n q now draw).1.cells, .int .i64 (asV realm l n q now draw).2] ∧ H' = (H ++ [ansO]).set H.length E30 := by
  have e1 : Evo (fun _ => False) H (H ++ [ansO]) := Evo.app H _
  have hK1 := hK.evo e1 id id
  have hlt : kid < H.length := by obtain ⟨v, hv⟩ := hK.k; exact (List.getElem?_eq_some_iff.1 hv).1
  have hrlt : rid < H.length := by have := hK.ring.ex.choose_spec; exact (List.getElem?_eq_some_iff.1 this).1
  have hne : H.length ≠ kid := by omega
  have ha : (H ++ [ansO])[H.length]? = some ansO := get_last H _
  obtain ⟨v1, hv1⟩ := hK1.k
  obtain ⟨r, hr⟩ : ∃ r, r = asV realm l n q now draw := ⟨_, rfl⟩
  rw [← hr]
  have bad : ∀ (e : Int), r = (repZ, e) ∧ e ≠ 0 → (PV.tup [.agg [.str [], .str [], .str [], .str [], .int .i64 0, .slice 0 [] none, .slice 0 [] none], .int .i64 e] = PV.tup [.agg r.1.cells, .int .i64 r.2]) ∧
      (H ++ [ansO]).set H.length E30 = (H ++ [ansO]).set H.length E30 := fun e he => ⟨by rw [he.1]; rfl, rfl⟩
  have hfit : (asMsg q).fits := by
    obtain ⟨f1, f2, f3, f4⟩ := hf
    unfold Msg.fits asMsg mZ
    exact ⟨by show q.cr.length ≤ _; omega, by show q.cn.length ≤ _; omega, by show q.sr.length ≤ _; omega, by show q.sn.length ≤ _; omega, Nat.zero_le _, Nat.zero_le _, Nat.zero_le _, Nat.zero_le _, Nat.zero_le _, Nat.zero_le _, Nat.zero_le _, Nat.zero_le _, Nat.zero_le _, Nat.zero_le _⟩
  (refine callOk_of_pFun2 (tt := ttK) (imm := imm16) follows ttK_ok depth6 func16 (by kernel_rfl) ?_; (conv => whnf))
  cases hq : q.ok with
  | false =>
    have hr1 : r = (repZ, 1) := by rw [hr]; unfold asV; rw [hq, Bool.not_false, Bool.or_true]
    refine callK_pure ((c47 (asMsg q) hfit).of_eq (encAs_no q hq)) ?_
    (conv => whnf)
    refine callK_pure (c48 now) ?_
    cases hl : lateB now with
    | true =>
      (conv => whnf)
      ((conv in (_[_]?) => tactic => exact ha); (conv => whnf))
      ((conv in (_[_]?) => tactic => exact (show ((H ++ [ansO]).set H.length _)[H.length]? = some _ from get_set ha)); (conv => whnf))
      exact bad 1 (by exact ⟨hr1, by decide⟩)
    | false =>
      (conv => whnf)
      refine ⟨fun h => absurd h (by decide), fun _ => ?_⟩
      (conv => whnf)
      ((conv in (_[_]?) => tactic => exact ha); (conv => whnf))
      ((conv in (_[_]?) => tactic => exact (show ((H ++ [ansO]).set H.length _)[H.length]? = some _ from get_set ha)); (conv => whnf))
      exact bad 1 (by exact ⟨hr1, by decide⟩)
  | true =>
    refine callK_pure ((c47 (asMsg q) hfit).of_eq (encAs_yes q hq)) ?_
    (conv => whnf)
    refine callK_pure (c48 now) ?_
    cases hl : lateB now with
    | true =>
      have hr1 : r = (repZ, 1) := by rw [hr]; unfold asV; rw [hl, Bool.true_or]
      (conv => whnf)
      ((conv in (_[_]?) => tactic => exact ha); (conv => whnf))
      ((conv in (_[_]?) => tactic => exact (show ((H ++ [ansO]).set H.length _)[H.length]? = some _ from get_set ha)); (conv => whnf))
      exact bad 1 (by exact ⟨hr1, by decide⟩)
    | false =>
      have hr0 : r = match lastE (isP q.cr q.cn) l with
          | none => (repZ, 5)
          | some c => match decide (q.cr = realm) with
            | false => (repZ, 5)
            | true => match lastE (isP q.sr q.sn) l with
              | none => (repZ, 6)
              | some s => match decide (q.sr = realm ∧ q.sn = krb realm) with
                | false => (repZ, 6)
                | true => match decide (q.till < now) with
                  | true => (repZ, 7)
                  | false => makeV l n q.sr q.sn (asPart q now draw) q.nonce c.key 3 := by rw [hr]; unfold asV; rw [hl, hq]; rfl
      clear hr
      (conv => whnf)
      refine ⟨fun _ => ?_, fun h => absurd rfl h⟩
      (conv => whnf)
      have hgC := lastGet hK1.ring (by have := hK1.len; omega) q.cr q.cn
      have hgS := lastGet hK1.ring (by have := hK1.len; omega) q.sr q.sn
      cases hC : lastE (isP q.cr q.cn) l with
      | none =>
        rw [hC] at hgC hr0
        have hr5 : r = (repZ, 5) ∧ (5 : Int) ≠ 0 := ⟨hr0, by decide⟩
        refine drawK_pure2 (by kernel_rfl) ?_
        (conv => whnf)
        iterate 3 (apply Exists.intro; apply And.intro; (focus ((conv => whnf); first | exact ⟨rfl, rfl, trivial⟩ | (refine ⟨by omega, ?_⟩; (conv => whnf); exact ⟨rfl, rfl, trivial⟩))); (conv => whnf))
        apply Exists.intro
        apply And.intro
        · (conv => whnf)
          ((conv in (_[_]?) => tactic => exact hv1); (conv => whnf))
          exact ⟨rfl, rfl, trivial⟩
        (conv => whnf)
        iterate 2 (apply Exists.intro; apply And.intro; (focus ((conv => whnf); first | exact ⟨rfl, rfl, trivial⟩ | (refine ⟨by omega, ?_⟩; (conv => whnf); exact ⟨rfl, rfl, trivial⟩))); (conv => whnf))
        refine ⟨_, callK_of hgC (by rintro _ _ ⟨rfl, rfl⟩; exact ⟨rfl, rfl, trivial⟩), ?_⟩
        (conv => whnf)
        iterate 7 (apply Exists.intro; apply And.intro; (focus ((conv => whnf); first | exact ⟨rfl, rfl, trivial⟩ | (refine ⟨by omega, ?_⟩; (conv => whnf); exact ⟨rfl, rfl, trivial⟩))); (conv => whnf))
        cases hS : lastE (isP q.sr q.sn) l with
        | none =>
          rw [hS] at hgS
          refine drawK_pure2 (by kernel_rfl) ?_
          (conv => whnf)
          iterate 3 (apply Exists.intro; apply And.intro; (focus ((conv => whnf); first | exact ⟨rfl, rfl, trivial⟩ | (refine ⟨by omega, ?_⟩; (conv => whnf); exact ⟨rfl, rfl, trivial⟩))); (conv => whnf))
          apply Exists.intro
          apply And.intro
          · (conv => whnf)
            ((conv in (_[_]?) => tactic => exact hv1); (conv => whnf))
            exact ⟨rfl, rfl, trivial⟩
          (conv => whnf)
          iterate 2 (apply Exists.intro; apply And.intro; (focus ((conv => whnf); first | exact ⟨rfl, rfl, trivial⟩ | (refine ⟨by omega, ?_⟩; (conv => whnf); exact ⟨rfl, rfl, trivial⟩))); (conv => whnf))
          refine ⟨_, callK_of hgS (by rintro _ _ ⟨rfl, rfl⟩; exact ⟨rfl, rfl, trivial⟩), ?_⟩
          (conv => whnf)
          iterate 7 (apply Exists.intro; apply And.intro; (focus ((conv => whnf); first | exact ⟨rfl, rfl, trivial⟩ | (refine ⟨by omega, ?_⟩; (conv => whnf); exact ⟨rfl, rfl, trivial⟩))); (conv => whnf))
          by_cases hcr : q.cr = realm
          · refine drawK_pure2 (by kernel_rfl) ?_
            (conv => whnf)
            iterate 6 (apply Exists.intro; apply And.intro; (focus ((conv => whnf); first | exact ⟨rfl, rfl, trivial⟩ | (refine ⟨by omega, ?_⟩; (conv => whnf); exact ⟨rfl, rfl, trivial⟩))); (conv => whnf))
            apply Exists.intro
            apply And.intro
            · (conv => whnf)
              ((conv in (_[_]?) => tactic => exact hv1); (conv => whnf))
              exact ⟨rfl, rfl, trivial⟩
            (conv => whnf)
            refine ⟨.bool false, ?_, ?_⟩
            · (conv => whnf)
              exact ⟨fun h => ⟨rfl, rfl, trivial⟩, fun h => absurd hcr h⟩
            (conv => whnf)
            iterate 2 (apply Exists.intro; apply And.intro; (focus ((conv => whnf); first | exact ⟨rfl, rfl, trivial⟩ | (refine ⟨by omega, ?_⟩; (conv => whnf); exact ⟨rfl, rfl, trivial⟩))); (conv => whnf))
            refine ⟨.bool true, ?_, ?_⟩
            · (conv => whnf)
              exact ⟨fun h => absurd h (by decide), fun h => ⟨rfl, rfl, trivial⟩⟩
            (conv => whnf)
            iterate 2 (apply Exists.intro; apply And.intro; (focus ((conv => whnf); first | exact ⟨rfl, rfl, trivial⟩ | (refine ⟨by omega, ?_⟩; (conv => whnf); exact ⟨rfl, rfl, trivial⟩))); (conv => whnf))
            (conv => whnf)
            ((conv in (_[_]?) => tactic => exact ha); (conv => whnf))
            ((conv in (_[_]?) => tactic => exact (show ((H ++ [ansO]).set H.length _)[H.length]? = some _ from get_set ha)); (conv => whnf))
            exact bad 5 (by exact hr5)
          · refine drawK_pure2 (by kernel_rfl) ?_
            (conv => whnf)
            iterate 6 (apply Exists.intro; apply And.intro; (focus ((conv => whnf); first | exact ⟨rfl, rfl, trivial⟩ | (refine ⟨by omega, ?_⟩; (conv => whnf); exact ⟨rfl, rfl, trivial⟩))); (conv => whnf))
            apply Exists.intro
            apply And.intro
            · (conv => whnf)
              ((conv in (_[_]?) => tactic => exact hv1); (conv => whnf))
              exact ⟨rfl, rfl, trivial⟩
            (conv => whnf)
            refine ⟨.bool true, ?_, ?_⟩
            · (conv => whnf)
              exact ⟨fun h => absurd h hcr, fun h => ⟨rfl, rfl, trivial⟩⟩
            (conv => whnf)
            iterate 5 (apply Exists.intro; apply And.intro; (focus ((conv => whnf); first | exact ⟨rfl, rfl, trivial⟩ | (refine ⟨by omega, ?_⟩; (conv => whnf); exact ⟨rfl, rfl, trivial⟩))); (conv => whnf))
            (conv => whnf)
            ((conv in (_[_]?) => tactic => exact ha); (conv => whnf))
            ((conv in (_[_]?) => tactic => exact (show ((H ++ [ansO]).set H.length _)[H.length]? = some _ from get_set ha)); (conv => whnf))
            exact bad 5 (by exact hr5)
        | some s =>
          rw [hS] at hgS
          refine drawK_pure2 (by kernel_rfl) ?_
          (conv => whnf)
          iterate 3 (apply Exists.intro; apply And.intro; (focus ((conv => whnf); first | exact ⟨rfl, rfl, trivial⟩ | (refine ⟨by omega, ?_⟩; (conv => whnf); exact ⟨rfl, rfl, trivial⟩))); (conv => whnf))
          apply Exists.intro
          apply And.intro
          · (conv => whnf)
            ((conv in (_[_]?) => tactic => exact hv1); (conv => whnf))
            exact ⟨rfl, rfl, trivial⟩
          (conv => whnf)
          iterate 2 (apply Exists.intro; apply And.intro; (focus ((conv => whnf); first | exact ⟨rfl, rfl, trivial⟩ | (refine ⟨by omega, ?_⟩; (conv => whnf); exact ⟨rfl, rfl, trivial⟩))); (conv => whnf))
          refine ⟨_, callK_of hgS (by rintro _ _ ⟨rfl, rfl⟩; exact ⟨rfl, rfl, trivial⟩), ?_⟩
          (conv => whnf)
          iterate 7 (apply Exists.intro; apply And.intro; (focus ((conv => whnf); first | exact ⟨rfl, rfl, trivial⟩ | (refine ⟨by omega, ?_⟩; (conv => whnf); exact ⟨rfl, rfl, trivial⟩))); (conv => whnf))
          by_cases hcr : q.cr = realm
          · refine drawK_pure2 (by kernel_rfl) ?_
            (conv => whnf)
            iterate 6 (apply Exists.intro; apply And.intro; (focus ((conv => whnf); first | exact ⟨rfl, rfl, trivial⟩ | (refine ⟨by omega, ?_⟩; (conv => whnf); exact ⟨rfl, rfl, trivial⟩))); (conv => whnf))
            apply Exists.intro
            apply And.intro
            · (conv => whnf)
              ((conv in (_[_]?) => tactic => exact hv1); (conv => whnf))
              exact ⟨rfl, rfl, trivial⟩
            (conv => whnf)
            refine ⟨.bool false, ?_, ?_⟩
            · (conv => whnf)
              exact ⟨fun h => ⟨rfl, rfl, trivial⟩, fun h => absurd hcr h⟩
            (conv => whnf)
            iterate 2 (apply Exists.intro; apply And.intro; (focus ((conv => whnf); first | exact ⟨rfl, rfl, trivial⟩ | (refine ⟨by omega, ?_⟩; (conv => whnf); exact ⟨rfl, rfl, trivial⟩))); (conv => whnf))
            refine ⟨.bool true, ?_, ?_⟩
            · (conv => whnf)
              exact ⟨fun h => absurd h (by decide), fun h => ⟨rfl, rfl, trivial⟩⟩
            (conv => whnf)
            iterate 2 (apply Exists.intro; apply And.intro; (focus ((conv => whnf); first | exact ⟨rfl, rfl, trivial⟩ | (refine ⟨by omega, ?_⟩; (conv => whnf); exact ⟨rfl, rfl, trivial⟩))); (conv => whnf))
            (conv => whnf)
            ((conv in (_[_]?) => tactic => exact ha); (conv => whnf))
            ((conv in (_[_]?) => tactic => exact (show ((H ++ [ansO]).set H.length _)[H.length]? = some _ from get_set ha)); (conv => whnf))
            exact bad 5 (by exact hr5)
          · refine drawK_pure2 (by kernel_rfl) ?_
            (conv => whnf)
            iterate 6 (apply Exists.intro; apply And.intro; (focus ((conv => whnf); first | exact ⟨rfl, rfl, trivial⟩ | (refine ⟨by omega, ?_⟩; (conv => whnf); exact ⟨rfl, rfl, trivial⟩))); (conv => whnf))
            apply Exists.intro
            apply And.intro
            · (conv => whnf)
              ((conv in (_[_]?) => tactic => exact hv1); (conv => whnf))
              exact ⟨rfl, rfl, trivial⟩
            (conv => whnf)
            refine ⟨.bool true, ?_, ?_⟩
            · (conv => whnf)
              exact ⟨fun h => absurd h hcr, fun h => ⟨rfl, rfl, trivial⟩⟩
            (conv => whnf)
            iterate 5 (apply Exists.intro; apply And.intro; (focus ((conv => whnf); first | exact ⟨rfl, rfl, trivial⟩ | (refine ⟨by omega, ?_⟩; (conv => whnf); exact ⟨rfl, rfl, trivial⟩))); (conv => whnf))
            (conv => whnf)
            ((conv in (_[_]?) => tactic => exact ha); (conv => whnf))
            ((conv in (_[_]?) => tactic => exact (show ((H ++ [ansO]).set H.length _)[H.length]? = some _ from get_set ha)); (conv => whnf))
            exact bad 5 (by exact hr5)
      | some c =>
        rw [hC] at hgC hr0
        refine drawK_pure2 (by kernel_rfl) ?_
        (conv => whnf)
        iterate 3 (apply Exists.intro; apply And.intro; (focus ((conv => whnf); first | exact ⟨rfl, rfl, trivial⟩ | (refine ⟨by omega, ?_⟩; (conv => whnf); exact ⟨rfl, rfl, trivial⟩))); (conv => whnf))
        apply Exists.intro
        apply And.intro
        · (conv => whnf)
          ((conv in (_[_]?) => tactic => exact hv1); (conv => whnf))
          exact ⟨rfl, rfl, trivial⟩
        (conv => whnf)
        iterate 2 (apply Exists.intro; apply And.intro; (focus ((conv => whnf); first | exact ⟨rfl, rfl, trivial⟩ | (refine ⟨by omega, ?_⟩; (conv => whnf); exact ⟨rfl, rfl, trivial⟩))); (conv => whnf))
        refine ⟨_, callK_of hgC (by rintro _ _ ⟨rfl, rfl⟩; exact ⟨rfl, rfl, trivial⟩), ?_⟩
        (conv => whnf)
        iterate 7 (apply Exists.intro; apply And.intro; (focus ((conv => whnf); first | exact ⟨rfl, rfl, trivial⟩ | (refine ⟨by omega, ?_⟩; (conv => whnf); exact ⟨rfl, rfl, trivial⟩))); (conv => whnf))
        cases hS : lastE (isP q.sr q.sn) l with
        | none =>
          rw [hS] at hgS hr0
          refine drawK_pure2 (by kernel_rfl) ?_
          (conv => whnf)
          iterate 3 (apply Exists.intro; apply And.intro; (focus ((conv => whnf); first | exact ⟨rfl, rfl, trivial⟩ | (refine ⟨by omega, ?_⟩; (conv => whnf); exact ⟨rfl, rfl, trivial⟩))); (conv => whnf))
          apply Exists.intro
          apply And.intro
          · (conv => whnf)
            ((conv in (_[_]?) => tactic => exact hv1); (conv => whnf))
            exact ⟨rfl, rfl, trivial⟩
          (conv => whnf)
          iterate 2 (apply Exists.intro; apply And.intro; (focus ((conv => whnf); first | exact ⟨rfl, rfl, trivial⟩ | (refine ⟨by omega, ?_⟩; (conv => whnf); exact ⟨rfl, rfl, trivial⟩))); (conv => whnf))
          refine ⟨_, callK_of hgS (by rintro _ _ ⟨rfl, rfl⟩; exact ⟨rfl, rfl, trivial⟩), ?_⟩
          (conv => whnf)
          iterate 7 (apply Exists.intro; apply And.intro; (focus ((conv => whnf); first | exact ⟨rfl, rfl, trivial⟩ | (refine ⟨by omega, ?_⟩; (conv => whnf); exact ⟨rfl, rfl, trivial⟩))); (conv => whnf))
          by_cases hcr : q.cr = realm
          · rw [decide_eq_true hcr] at hr0
            have hr6 : r = (repZ, 6) ∧ (6 : Int) ≠ 0 := ⟨hr0, by decide⟩
            refine drawK_pure2 (by kernel_rfl) ?_
            (conv => whnf)
            iterate 6 (apply Exists.intro; apply And.intro; (focus ((conv => whnf); first | exact ⟨rfl, rfl, trivial⟩ | (refine ⟨by omega, ?_⟩; (conv => whnf); exact ⟨rfl, rfl, trivial⟩))); (conv => whnf))
            apply Exists.intro
            apply And.intro
            · (conv => whnf)
              ((conv in (_[_]?) => tactic => exact hv1); (conv => whnf))
              exact ⟨rfl, rfl, trivial⟩
            (conv => whnf)
            refine ⟨.bool false, ?_, ?_⟩
            · (conv => whnf)
              exact ⟨fun h => ⟨rfl, rfl, trivial⟩, fun h => absurd hcr h⟩
            (conv => whnf)
            iterate 2 (apply Exists.intro; apply And.intro; (focus ((conv => whnf); first | exact ⟨rfl, rfl, trivial⟩ | (refine ⟨by omega, ?_⟩; (conv => whnf); exact ⟨rfl, rfl, trivial⟩))); (conv => whnf))
            refine ⟨.bool false, ?_, ?_⟩
            · (conv => whnf)
              exact ⟨fun h => ⟨rfl, rfl, trivial⟩, fun h => absurd rfl h⟩
            (conv => whnf)
            iterate 2 (apply Exists.intro; apply And.intro; (focus ((conv => whnf); first | exact ⟨rfl, rfl, trivial⟩ | (refine ⟨by omega, ?_⟩; (conv => whnf); exact ⟨rfl, rfl, trivial⟩))); (conv => whnf))
            (conv => whnf)
            refine drawK_pure2 (by kernel_rfl) ?_
            (conv => whnf)
            iterate 6 (apply Exists.intro; apply And.intro; (focus ((conv => whnf); first | exact ⟨rfl, rfl, trivial⟩ | (refine ⟨by omega, ?_⟩; (conv => whnf); exact ⟨rfl, rfl, trivial⟩))); (conv => whnf))
            apply Exists.intro
            apply And.intro
            · (conv => whnf)
              ((conv in (_[_]?) => tactic => exact hv1); (conv => whnf))
              exact ⟨rfl, rfl, trivial⟩
            (conv => whnf)
            refine ⟨_, callK_of (c50 hv1 realm hrl) (by rintro _ _ ⟨rfl, rfl⟩; exact ⟨rfl, rfl, trivial⟩), ?_⟩
            (conv => whnf)
            by_cases hs : q.sr = realm ∧ q.sn = krb realm
            · refine ⟨.bool false, ?_, ?_⟩
              · (conv => whnf)
                exact ⟨⟨fitK _ _, fitK _ _⟩, fun h => ⟨rfl, rfl, trivial⟩, fun h => absurd (two_eq' hs) h⟩
              (conv => whnf)
              iterate 2 (apply Exists.intro; apply And.intro; (focus ((conv => whnf); first | exact ⟨rfl, rfl, trivial⟩ | (refine ⟨by omega, ?_⟩; (conv => whnf); exact ⟨rfl, rfl, trivial⟩))); (conv => whnf))
              refine ⟨.bool true, ?_, ?_⟩
              · (conv => whnf)
                exact ⟨fun h => absurd h (by decide), fun h => ⟨rfl, rfl, trivial⟩⟩
              (conv => whnf)
              iterate 2 (apply Exists.intro; apply And.intro; (focus ((conv => whnf); first | exact ⟨rfl, rfl, trivial⟩ | (refine ⟨by omega, ?_⟩; (conv => whnf); exact ⟨rfl, rfl, trivial⟩))); (conv => whnf))
              (conv => whnf)
              ((conv in (_[_]?) => tactic => exact ha); (conv => whnf))
              ((conv in (_[_]?) => tactic => exact (show ((H ++ [ansO]).set H.length _)[H.length]? = some _ from get_set ha)); (conv => whnf))
              exact bad 6 (by exact hr6)
            · refine ⟨.bool true, ?_, ?_⟩
              · (conv => whnf)
                exact ⟨⟨fitK _ _, fitK _ _⟩, fun h => absurd (two_eq h) hs, fun h => ⟨rfl, rfl, trivial⟩⟩
              (conv => whnf)
              iterate 5 (apply Exists.intro; apply And.intro; (focus ((conv => whnf); first | exact ⟨rfl, rfl, trivial⟩ | (refine ⟨by omega, ?_⟩; (conv => whnf); exact ⟨rfl, rfl, trivial⟩))); (conv => whnf))
              (conv => whnf)
              ((conv in (_[_]?) => tactic => exact ha); (conv => whnf))
              ((conv in (_[_]?) => tactic => exact (show ((H ++ [ansO]).set H.length _)[H.length]? = some _ from get_set ha)); (conv => whnf))
              exact bad 6 (by exact hr6)
          · rw [decide_eq_false hcr] at hr0
            have hr5 : r = (repZ, 5) ∧ (5 : Int) ≠ 0 := ⟨hr0, by decide⟩
            refine drawK_pure2 (by kernel_rfl) ?_
            (conv => whnf)
            iterate 6 (apply Exists.intro; apply And.intro; (focus ((conv => whnf); first | exact ⟨rfl, rfl, trivial⟩ | (refine ⟨by omega, ?_⟩; (conv => whnf); exact ⟨rfl, rfl, trivial⟩))); (conv => whnf))
            apply Exists.intro
            apply And.intro
            · (conv => whnf)
              ((conv in (_[_]?) => tactic => exact hv1); (conv => whnf))
              exact ⟨rfl, rfl, trivial⟩
            (conv => whnf)
            refine ⟨.bool true, ?_, ?_⟩
            · (conv => whnf)
              exact ⟨fun h => absurd h hcr, fun h => ⟨rfl, rfl, trivial⟩⟩
            (conv => whnf)
            iterate 5 (apply Exists.intro; apply And.intro; (focus ((conv => whnf); first | exact ⟨rfl, rfl, trivial⟩ | (refine ⟨by omega, ?_⟩; (conv => whnf); exact ⟨rfl, rfl, trivial⟩))); (conv => whnf))
            (conv => whnf)
            ((conv in (_[_]?) => tactic => exact ha); (conv => whnf))
            ((conv in (_[_]?) => tactic => exact (show ((H ++ [ansO]).set H.length _)[H.length]? = some _ from get_set ha)); (conv => whnf))
            exact bad 5 (by exact hr5)
        | some s =>
          rw [hS] at hgS hr0
          refine drawK_pure2 (by kernel_rfl) ?_
          (conv => whnf)
          iterate 3 (apply Exists.intro; apply And.intro; (focus ((conv => whnf); first | exact ⟨rfl, rfl, trivial⟩ | (refine ⟨by omega, ?_⟩; (conv => whnf); exact ⟨rfl, rfl, trivial⟩))); (conv => whnf))
          apply Exists.intro
          apply And.intro
          · (conv => whnf)
            ((conv in (_[_]?) => tactic => exact hv1); (conv => whnf))
            exact ⟨rfl, rfl, trivial⟩
          (conv => whnf)
          iterate 2 (apply Exists.intro; apply And.intro; (focus ((conv => whnf); first | exact ⟨rfl, rfl, trivial⟩ | (refine ⟨by omega, ?_⟩; (conv => whnf); exact ⟨rfl, rfl, trivial⟩))); (conv => whnf))
          refine ⟨_, callK_of hgS (by rintro _ _ ⟨rfl, rfl⟩; exact ⟨rfl, rfl, trivial⟩), ?_⟩
          (conv => whnf)
          iterate 7 (apply Exists.intro; apply And.intro; (focus ((conv => whnf); first | exact ⟨rfl, rfl, trivial⟩ | (refine ⟨by omega, ?_⟩; (conv => whnf); exact ⟨rfl, rfl, trivial⟩))); (conv => whnf))
          by_cases hcr : q.cr = realm
          · rw [decide_eq_true hcr] at hr0
            refine drawK_pure2 (by kernel_rfl) ?_
            (conv => whnf)
            iterate 6 (apply Exists.intro; apply And.intro; (focus ((conv => whnf); first | exact ⟨rfl, rfl, trivial⟩ | (refine ⟨by omega, ?_⟩; (conv => whnf); exact ⟨rfl, rfl, trivial⟩))); (conv => whnf))
            apply Exists.intro
            apply And.intro
            · (conv => whnf)
              ((conv in (_[_]?) => tactic => exact hv1); (conv => whnf))
              exact ⟨rfl, rfl, trivial⟩
            (conv => whnf)
            refine ⟨.bool false, ?_, ?_⟩
            · (conv => whnf)
              exact ⟨fun h => ⟨rfl, rfl, trivial⟩, fun h => absurd hcr h⟩
            (conv => whnf)
            iterate 2 (apply Exists.intro; apply And.intro; (focus ((conv => whnf); first | exact ⟨rfl, rfl, trivial⟩ | (refine ⟨by omega, ?_⟩; (conv => whnf); exact ⟨rfl, rfl, trivial⟩))); (conv => whnf))
            refine ⟨.bool false, ?_, ?_⟩
            · (conv => whnf)
              exact ⟨fun h => ⟨rfl, rfl, trivial⟩, fun h => absurd rfl h⟩
            (conv => whnf)
            iterate 2 (apply Exists.intro; apply And.intro; (focus ((conv => whnf); first | exact ⟨rfl, rfl, trivial⟩ | (refine ⟨by omega, ?_⟩; (conv => whnf); exact ⟨rfl, rfl, trivial⟩))); (conv => whnf))
            (conv => whnf)
            refine drawK_pure2 (by kernel_rfl) ?_
            (conv => whnf)
            iterate 6 (apply Exists.intro; apply And.intro; (focus ((conv => whnf); first | exact ⟨rfl, rfl, trivial⟩ | (refine ⟨by omega, ?_⟩; (conv => whnf); exact ⟨rfl, rfl, trivial⟩))); (conv => whnf))
            apply Exists.intro
            apply And.intro
            · (conv => whnf)
              ((conv in (_[_]?) => tactic => exact hv1); (conv => whnf))
              exact ⟨rfl, rfl, trivial⟩
            (conv => whnf)
            refine ⟨_, callK_of (c50 hv1 realm hrl) (by rintro _ _ ⟨rfl, rfl⟩; exact ⟨rfl, rfl, trivial⟩), ?_⟩
            (conv => whnf)
            by_cases hs : q.sr = realm ∧ q.sn = krb realm
            · rw [decide_eq_true hs] at hr0
              refine ⟨.bool false, ?_, ?_⟩
              · (conv => whnf)
                exact ⟨⟨fitK _ _, fitK _ _⟩, fun h => ⟨rfl, rfl, trivial⟩, fun h => absurd (two_eq' hs) h⟩
              (conv => whnf)
              iterate 2 (apply Exists.intro; apply And.intro; (focus ((conv => whnf); first | exact ⟨rfl, rfl, trivial⟩ | (refine ⟨by omega, ?_⟩; (conv => whnf); exact ⟨rfl, rfl, trivial⟩))); (conv => whnf))
              refine ⟨.bool false, ?_, ?_⟩
              · (conv => whnf)
                exact ⟨fun h => ⟨rfl, rfl, trivial⟩, fun h => absurd rfl h⟩
              (conv => whnf)
              iterate 2 (apply Exists.intro; apply And.intro; (focus ((conv => whnf); first | exact ⟨rfl, rfl, trivial⟩ | (refine ⟨by omega, ?_⟩; (conv => whnf); exact ⟨rfl, rfl, trivial⟩))); (conv => whnf))
              by_cases ht : q.till < now
              · rw [decide_eq_true ht] at hr0
                have hr7 : r = (repZ, 7) ∧ (7 : Int) ≠ 0 := ⟨hr0, by decide⟩
                (conv => whnf)
                refine ⟨fun h => ?_, fun h => absurd ht h⟩
                (conv => whnf)
                ((conv in (_[_]?) => tactic => exact ha); (conv => whnf))
                ((conv in (_[_]?) => tactic => exact (show ((H ++ [ansO]).set H.length _)[H.length]? = some _ from get_set ha)); (conv => whnf))
                exact bad 7 (by exact hr7)
              · exact absurd ⟨hl, hq, ⟨c, hC⟩, ⟨s, hS⟩, hcr, hs, ht⟩ hng
            · rw [decide_eq_false hs] at hr0
              have hr6 : r = (repZ, 6) ∧ (6 : Int) ≠ 0 := ⟨hr0, by decide⟩
              refine ⟨.bool true, ?_, ?_⟩
              · (conv => whnf)
                exact ⟨⟨fitK _ _, fitK _ _⟩, fun h => absurd (two_eq h) hs, fun h => ⟨rfl, rfl, trivial⟩⟩
              (conv => whnf)
              iterate 5 (apply Exists.intro; apply And.intro; (focus ((conv => whnf); first | exact ⟨rfl, rfl, trivial⟩ | (refine ⟨by omega, ?_⟩; (conv => whnf); exact ⟨rfl, rfl, trivial⟩))); (conv => whnf))
              (conv => whnf)
              ((conv in (_[_]?) => tactic => exact ha); (conv => whnf))
              ((conv in (_[_]?) => tactic => exact (show ((H ++ [ansO]).set H.length _)[H.length]? = some _ from get_set ha)); (conv => whnf))
              exact bad 6 (by exact hr6)
          · rw [decide_eq_false hcr] at hr0
            have hr5 : r = (repZ, 5) ∧ (5 : Int) ≠ 0 := ⟨hr0, by decide⟩
            refine drawK_pure2 (by kernel_rfl) ?_
            (conv => whnf)
            iterate 6 (apply Exists.intro; apply And.intro; (focus ((conv => whnf); first | exact ⟨rfl, rfl, trivial⟩ | (refine ⟨by omega, ?_⟩; (conv => whnf); exact ⟨rfl, rfl, trivial⟩))); (conv => whnf))
            apply Exists.intro
            apply And.intro
            · (conv => whnf)
              ((conv in (_[_]?) => tactic => exact hv1); (conv => whnf))
              exact ⟨rfl, rfl, trivial⟩
            (conv => whnf)
            refine ⟨.bool true, ?_, ?_⟩
            · (conv => whnf)
              exact ⟨fun h => absurd h hcr, fun h => ⟨rfl, rfl, trivial⟩⟩
            (conv => whnf)
            iterate 5 (apply Exists.intro; apply And.intro; (focus ((conv => whnf); first | exact ⟨rfl, rfl, trivial⟩ | (refine ⟨by omega, ?_⟩; (conv => whnf); exact ⟨rfl, rfl, trivial⟩))); (conv => whnf))
            (conv => whnf)
            ((conv in (_[_]?) => tactic => exact ha); (conv => whnf))
            ((conv in (_[_]?) => tactic => exact (show ((H ++ [ansO]).set H.length _)[H.length]? = some _ from get_set ha)); (conv => whnf))
            exact bad 5 (by exact hr5)
end Go.Proofs.Tryz

set_option maxRecDepth 100000
set_option maxHeartbeats 1000000
set_option linter.unusedVariables false
set_option linter.unusedSimpArgs false
namespace Go.Proofs.Tryz
open Go Ps
theorem asV_good {realm : List UInt8} {l : List Ent} {n : Int} {q : AsQ} {now : Int} {draw : Nat → UInt8} (hl : lateB now = false) (hq : q.ok = true) {c s : Ent} (hC : lastE (isP q.cr q.cn) l = some c) (hS : lastE (isP q.sr q.sn) l = some s)
    (hcr : q.cr = realm) (hs : q.sr = realm ∧ q.sn = krb realm) (ht : ¬ q.till < now) : asV realm l n q now draw = makeV l n q.sr q.sn (asPart q now draw) q.nonce c.key 3 := by
  unfold asV
  rw [hl, hq, hC, hS, decide_eq_true hcr, decide_eq_true hs, decide_eq_false ht]
  rfl
theorem asV_bad {realm : List UInt8} {l : List Ent} {n : Int} {q : AsQ} {now : Int} {draw : Nat → UInt8}
    (hng : ¬ (lateB now = false ∧ q.ok = true ∧ (∃ c, lastE (isP q.cr q.cn) l = some c) ∧ (∃ s, lastE (isP q.sr q.sn) l = some s) ∧ q.cr = realm ∧ (q.sr = realm ∧ q.sn = krb realm) ∧ ¬ q.till < now)) :
    (asV realm l n q now draw).2 ≠ 0 := by
  unfold asV
  cases hl : lateB now with
  | true => rw [Bool.true_or]; show (1 : Int) ≠ 0; decide
  | false =>
    cases hq : q.ok with
    | false => show (1 : Int) ≠ 0; decide
    | true =>
      cases hC : lastE (isP q.cr q.cn) l with
      | none => show (5 : Int) ≠ 0; decide
      | some c =>
        by_cases hcr : q.cr = realm
        · rw [decide_eq_true hcr]
          cases hS : lastE (isP q.sr q.sn) l with
          | none => show (6 : Int) ≠ 0; decide
          | some s =>
            by_cases hs : q.sr = realm ∧ q.sn = krb realm
            · rw [decide_eq_true hs]
              by_cases ht : q.till < now
              · rw [decide_eq_true ht]; show (7 : Int) ≠ 0; decide
              · exact absurd ⟨hl, hq, ⟨c, hC⟩, ⟨s, hS⟩, hcr, hs, ht⟩ hng
            · rw [decide_eq_false hs]; show (6 : Int) ≠ 0; decide
        · rw [decide_eq_false hcr]; show (5 : Int) ≠ 0; decide
/-- (*Kdc).As, the heap behind it named ahead. -/
theorem c16d {H : PH} {kid rid : Nat} {realm : List UInt8} {rs ls ps : PV} {l : List Ent} {n i : Nat} (hK : Kd H kid rid realm rs ls ps l n i) (hn : n ≤ 100000) (hi : i ≤ 100000) (hrl : realm.length ≤ 1000000)
    (q : AsQ) (hf : q.fit) (now : Int) (draw : Nat → UInt8) :
    ∃ H1, (Kd H1 kid rid realm rs ls ps l (bump (asV realm l n q now draw) n 2) (bump (asV realm l n q now draw) i 1) ∧ Evo (· = kid) H H1) ∧
      CallOk prog 16 [.ptr (some (kid, 0)), .agg q.cells, .int .i64 now, .agg (keyC draw)] H fun x H' => x = .tup [.agg (asV realm l n q now draw).1.cells, .int .i64 (asV realm l n q now draw).2] ∧ H' = H1 := by
  by_cases hg : lateB now = false ∧ q.ok = true ∧ (∃ c, lastE (isP q.cr q.cn) l = some c) ∧ (∃ s, lastE (isP q.sr q.sn) l = some s) ∧ q.cr = realm ∧ (q.sr = realm ∧ q.sn = krb realm) ∧ ¬ q.till < now
  · obtain ⟨hl, hq, ⟨c, hC⟩, ⟨s, hS⟩, hcr, hs, ht⟩ := hg
    rw [asV_good hl hq hC hS hcr hs ht]
    obtain ⟨H1, ⟨h1, h2, _⟩, h3⟩ := c16g hK hn hi hrl q hf now draw hl hq c s hC hS hcr hs ht
    exact ⟨H1, ⟨h1, h2⟩, h3⟩
  · have hb := c16b hK hn hi hrl q hf now draw hg
    have h0 := asV_bad (n := (n : Int)) (draw := draw) hg
    have hbump : ∀ m k, bump (asV realm l n q now draw) m k = m := fun m k => by unfold bump; exact if_neg h0
    rw [hbump, hbump]
    have e1 : Evo (fun _ => False) H (H ++ [ansO]) := Evo.app H _
    have ha : (H ++ [ansO])[H.length]? = some ansO := get_last H _
    have hlt : kid < H.length := by obtain ⟨v, hv⟩ := hK.k; exact (List.getElem?_eq_some_iff.1 hv).1
    have hrlt : rid < H.length := by have := hK.ring.ex.choose_spec; exact (List.getElem?_eq_some_iff.1 this).1
    have e2 : Evo (fun i => i = kid ∨ i = H.length) (H ++ [ansO]) ((H ++ [ansO]).set H.length E30) := Evo.setOther ha (.inr rfl) ansT.1 ansT.2
    have e3 : Evo (fun i => i = H.length) (H ++ [ansO]) ((H ++ [ansO]).set H.length E30) := Evo.setOther ha rfl ansT.1 ansT.2
    exact ⟨_, ⟨(hK.evo e1 id id).evo e3 (by show ¬ kid = H.length; omega) (by show ¬ rid = H.length; omega), ((e1.mono fun _ h => h.elim).trans e2).drop (Nat.le_refl _)⟩, hb⟩
end Go.Proofs.Tryz

set_option maxRecDepth 100000
set_option maxHeartbeats 4000000
set_option linter.unusedVariables false
set_option linter.unusedSimpArgs false
namespace Go.Proofs.Tryz
open Go Ps
theorem Small.some {l : List Ent} (h : Small l 5) {x : Pr × UInt8} (hx : x ∈ nm0) : ∃ e, lastE (isP x.1.1 x.1.2) l = some e ∧ e.kv = 1 ∧ e.key = keyN x.2 ∧ e.r = x.1.1 ∧ e.n = x.1.2 := by
  have hx5 : x ∈ nm0.take 5 := hx
  have hm : (x.1.1, x.1.2, 1, keyN x.2) ∈ l.map (fun e => (e.r, e.n, e.kv, e.key)) := by
    rw [show l.map (fun e => (e.r, e.n, e.kv, e.key)) = _ from h]
    exact List.mem_map.2 ⟨x, hx5, rfl⟩
  obtain ⟨e0, he0, hh⟩ := List.mem_map.1 hm
  injection hh with h1 h2
  injection h2 with h2 h3
  injection h3 with h3 h4
  cases he : lastE (isP x.1.1 x.1.2) l with
  | none =>
    have := List.find?_eq_none.1 he e0 (List.mem_reverse.2 he0)
    exact absurd (isP_iff.2 ⟨h1, h2⟩) this
  | some e =>
    have h5 : isP x.1.1 x.1.2 e = true := by
      have := List.find?_some he
      exact this
    obtain ⟨a, b⟩ := isP_iff.1 h5
    obtain ⟨y, hy, e1, e2, e3, e4⟩ := h.mem (lastE_mem he)
    refine ⟨e, rfl, e3, ?_, a, b⟩
    have hxy : (nm0.all fun y => nm0.all fun x => !(decide (y.1 = x.1)) || decide (y.2 = x.2)) = true := by decide
    have := List.all_eq_true.1 (List.all_eq_true.1 hxy y hy) x hx
    have hyx : y.1 = x.1 := Prod.ext (e1.symm.trans a) (e2.symm.trans b)
    rw [decide_eq_true hyx, Bool.not_true, Bool.false_or] at this
    rw [e4, of_decide_eq_true this]
def draw1 : Nat → UInt8 := fun i => match i with
  | 0 => 1
  | _ => 0
def qK1 : AsQ := ⟨aedu, ann, aedu, krb aedu, 50, 3⟩
def qK2 : AsQ := ⟨aedu, mail, aedu, ann, 50, 0⟩
theorem as1 {l : List Ent} (h : Small l 5) (n : Int) : (asV aedu l n qK1 5 draw1).2 = 0 ∧ (asV aedu l n qK1 5 draw1).1.kv = 1 := by
  obtain ⟨c, hC, _⟩ := h.some (x := ((aedu, ann), 13)) (by decide)
  obtain ⟨s, hS, hk, _⟩ := h.some (x := ((aedu, krb aedu), 10)) (by decide)
  rw [show asV aedu l n qK1 5 draw1 = _ from asV_good (realm := aedu) (q := qK1) (by decide) (by kernel_rfl) hC hS rfl ⟨rfl, rfl⟩ (by decide)]
  unfold makeV
  rw [show lastE (isP qK1.sr qK1.sn) l = Option.some s from hS]
  have hP : (isPartB (asPart qK1 5 draw1) && isRptB (rptOf (asPart qK1 5 draw1) qK1.sr qK1.sn qK1.nonce)) = true := by kernel_rfl
  simp only [hP]
  exact ⟨trivial, by show (s.kv : Int) = 1; rw [hk]; rfl⟩
theorem as2 {l : List Ent} (h : Small l 5) (n : Int) : (asV aedu l n qK2 5 draw1).2 = 6 := by
  obtain ⟨c, hC, _⟩ := h.some (x := ((aedu, mail), 14)) (by decide)
  obtain ⟨s, hS, hk, _⟩ := h.some (x := ((aedu, ann), 13)) (by decide)
  unfold asV
  rw [show lateB 5 = false by decide, show qK2.ok = true by kernel_rfl, show lastE (isP qK2.cr qK2.cn) l = Option.some c from hC, show lastE (isP qK2.sr qK2.sn) l = Option.some s from hS]
  rfl
def ttKw : TT := [(3, ⟨.int .i64, 1, 8, [.int .i64 0]⟩), (4, ⟨.bool, 1, 1, [.bool false]⟩), (5, ⟨.int .u8, 1, 1, [.int .u8 0]⟩), (9, ⟨.str, 1, 16, [.str []]⟩), (22, ⟨.ptr, 1, 8, [.ptr none]⟩), (25, ⟨.strct [(9, 0), (9, 1)], 2, 32, [.str [], .str []]⟩), (26, ⟨.slice 5, 1, 24, [.slice 0 [] (some 5)]⟩), (28, ⟨.strct [(25, 0), (3, 2), (26, 3)], 4, 64, [.str [], .str [], .int .i64 0, .slice 0 [] (some 5)]⟩), (30, ⟨.strct [(25, 0), (28, 2), (26, 6)], 7, 120, [.str [], .str [], .str [], .str [], .int .i64 0, .slice 0 [] (some 5), .slice 0 [] (some 5)]⟩), (31, ⟨.int .i64, 1, 8, [.int .i64 0]⟩), (33, ⟨.ptr, 1, 8, [.ptr none]⟩), (34, ⟨.ptr, 1, 8, [.ptr none]⟩), (36, ⟨.strct [(33, 0), (34, 1)], 2, 16, [.ptr none, .ptr none]⟩), (41, ⟨.strct [(25, 0), (25, 2), (3, 4), (3, 5)], 6, 80, [.str [], .str [], .str [], .str [], .int .i64 0, .int .i64 0]⟩), (43, ⟨.arr 32 5, 32, 32, List.replicate 32 (.int .u8 0)⟩), (50, ⟨.strct [(25, 0), (43, 2), (9, 34), (3, 35), (3, 36)], 37, 96, [.str [], .str []] ++ List.replicate 32 (.int .u8 0) ++ [.str [], .int .i64 0, .int .i64 0]⟩), (54, ⟨.strct [(43, 0), (25, 32), (3, 34), (3, 35), (3, 36)], 37, 88, List.replicate 32 (.int .u8 0) ++ [.str [], .str [], .int .i64 0, .int .i64 0, .int .i64 0]⟩), (58, ⟨.slice 4, 1, 24, [.slice 0 [] (some 4)]⟩), (88, ⟨.slice 9, 1, 24, [.slice 0 [] (some 9)]⟩), (89, ⟨.slice 200, 1, 24, [.slice 0 [] (some 200)]⟩), (90, ⟨.slice 261, 1, 24, [.slice 0 [] (some 261)]⟩), (92, ⟨.strct [(88, 0), (89, 1), (90, 2)], 3, 72, [.slice 0 [] (some 9), .slice 0 [] (some 200), .slice 0 [] (some 261)]⟩), (93, ⟨.ptr, 1, 8, [.ptr none]⟩), (110, ⟨.ptr, 1, 8, [.ptr none]⟩), (113, ⟨.slice 210, 1, 24, [.slice 0 [] (some 210)]⟩), (115, ⟨.strct [(113, 0)], 1, 24, [.slice 0 [] (some 210)]⟩), (116, ⟨.slice 25, 1, 24, [.slice 0 [] (some 25)]⟩), (200, ⟨.arr 2 9, 2, 32, [.str [], .str []]⟩), (210, ⟨.strct [(25, 0), (3, 2), (43, 3)], 35, 72, [.str [], .str [], .int .i64 0] ++ List.replicate 32 (.int .u8 0)⟩), (261, ⟨.strct [(9, 0), (9, 1), (88, 2)], 3, 56, [.str [], .str [], .slice 0 [] (some 9)]⟩)]
theorem ttKw_ok : ttOk prog ttKw = true := by kernel_rfl
def imm21t : List Nat := []
def z30 : PObj := ⟨30, [.str [], .str [], .str [], .str [], .int .i64 0, .slice 0 [] (some 5), .slice 0 [] (some 5)], 0⟩
def D21 (n : Nat) : Draw := { imp := [8, 13], robs := [z30], res := [(12, 0)], base := n, win := [(9, 1, 1), (10, 1, 1), (11, 1, 2), (12, 0, 1), (13, 1, 1), (14, 2, 2)] }
theorem z30T : z30.T ≠ keyT ∧ z30.T ≠ boxT := ⟨fun h => absurd (show 30 = keyT from h) (by decide), fun h => absurd (show 30 = boxT from h) (by decide)⟩
theorem o36T (a b : PV) : (⟨36, [a, b], 0⟩ : PObj).T ≠ keyT ∧ (⟨36, [a, b], 0⟩ : PObj).T ≠ boxT := ⟨fun h => absurd (show 36 = keyT from h) (by decide), fun h => absurd (show 36 = boxT from h) (by decide)⟩
theorem c21 (H : PH) : CallOk prog 21 [] H fun r _ => r = .bool true := by
  (refine callOk_of_pFun2 (tt := ttKw) (imm := imm21t) follows ttKw_ok depth6 func21 (by kernel_rfl) ?_; (conv => whnf))
  refine callK_of (c15x H) ?_
  rintro _ X ⟨kid, xid, pid, l, v, rfl, hsm, hinc, hK, hxk, hxr, hp, hev⟩
  (conv => whnf)
  have hlt : kid < X.length := by obtain ⟨v, hv⟩ := hK.k; exact (List.getElem?_eq_some_iff.1 hv).1
  have hlp := (List.getElem?_eq_some_iff.1 hp).1
  have hlr : H.length < X.length := by have := hK.ring.ex.choose_spec; exact (List.getElem?_eq_some_iff.1 this).1
  have hpk : pid ≠ kid := by
    rintro rfl
    obtain ⟨w, hw⟩ := hK.k
    rw [hp] at hw
    exact absurd (congrArg (fun o => o.map PObj.T) hw) (by intro h; exact absurd (Option.some.inj h) (show ¬ 36 = 134 by decide))
  have e1 : Evo (fun _ => False) X (X ++ [z30]) := Evo.app X _
  obtain ⟨X1, ⟨hK2, e2⟩, h16⟩ := c16d (hK.evo e1 id id) (by decide) (by decide) (by decide) qK1 ⟨by decide, by decide, by decide, by decide⟩ 5 draw1
  obtain ⟨hR1, hR1k⟩ := as1 hsm ((0 : Nat) : Int)
  generalize asV aedu l ((0 : Nat) : Int) qK1 5 draw1 = R1 at *
  have hb1 : ∀ m k, bump R1 m k = m + k := fun m k => if_pos hR1
  rw [hb1, hb1] at hK2
  have hp1 := e1.same _ _ hp id (o36T _ _).1 (o36T _ _).2
  have hz1 : X1[X.length]? = some z30 := e2.same _ _ (get_last X _) (by show ¬ X.length = kid; omega) z30T.1 z30T.2
  refine drawK_of2 (D21 (X).length) [X ++ [z30], X1, (X1).set (X).length (⟨30, R1.1.cells, 1⟩ : PObj)] (by kernel_rfl) ⟨rfl, rfl⟩ trivial ?_
  (conv => whnf)
  iterate 3 (apply Exists.intro; apply And.intro; (focus ((conv => whnf); first | exact ⟨rfl, rfl, trivial⟩ | (refine ⟨by omega, ?_⟩; (conv => whnf); exact ⟨rfl, rfl, trivial⟩))); (conv => whnf))
  apply Exists.intro
  apply And.intro
  · (conv => whnf)
    ((conv in (_[_]?) => tactic => exact hp1); (conv => whnf))
    exact ⟨rfl, rfl, trivial⟩
  (conv => whnf)
  refine ⟨_, callK_pure c17 ⟨rfl, rfl, trivial⟩, ?_⟩
  (conv => whnf)
  refine ⟨_, callK_pure (c18 aedu aedu (by decide)) ⟨rfl, rfl, trivial⟩, ?_⟩
  (conv => whnf)
  iterate 2 (apply Exists.intro; apply And.intro; (focus ((conv => whnf); first | exact ⟨rfl, rfl, trivial⟩ | (refine ⟨by omega, ?_⟩; (conv => whnf); exact ⟨rfl, rfl, trivial⟩))); (conv => whnf))
  refine ⟨_, callK_args (args' := [.ptr (some (kid, 0)), .agg qK1.cells, .int .i64 5, .agg (keyC draw1)]) rfl (callK_of h16 (by rintro _ _ ⟨rfl, rfl⟩; exact ⟨rfl, rfl, trivial⟩)), ?_⟩
  (conv => whnf)
  iterate 2 (apply Exists.intro; apply And.intro; (focus ((conv => whnf); first | exact ⟨rfl, rfl, trivial⟩ | (refine ⟨by omega, ?_⟩; (conv => whnf); exact ⟨rfl, rfl, trivial⟩))); (conv => whnf))
  (apply Exists.intro; apply And.intro; (focus ((conv => whnf); apply And.intro; (focus ((conv => whnf); first | exact ⟨rfl, rfl, trivial⟩ | (refine ⟨by omega, ?_⟩; (conv => whnf); exact ⟨rfl, rfl, trivial⟩))); ((conv => whnf); first | exact ⟨rfl, rfl, trivial⟩ | (refine ⟨by omega, ?_⟩; (conv => whnf); exact ⟨rfl, rfl, trivial⟩)))); (conv => whnf))
  refine ⟨.ptr (some ((X).length, 0)), ?_, ?_⟩
  · (conv => whnf)
    refine ⟨⟨⟨rfl, rfl, trivial⟩, get_last X _⟩, ?_⟩
    (conv => whnf)
    exact ⟨⟨rfl, rfl, trivial⟩, hz1⟩
  (conv => whnf)
  apply Exists.intro
  apply And.intro
  · (conv => whnf)
    ((conv in (_[_]?) => tactic => exact hz1); (conv => whnf))
    exact ⟨rfl, rfl, trivial⟩
  (conv => whnf)
  (apply Exists.intro; apply And.intro; (focus ((conv => whnf); first | exact ⟨rfl, rfl, trivial⟩ | (refine ⟨by omega, ?_⟩; (conv => whnf); exact ⟨rfl, rfl, trivial⟩))); (conv => whnf))
  (conv => whnf)
  have e3 : Evo (· = X.length) X1 (X1.set X.length ⟨30, R1.1.cells, 1⟩) := Evo.setOther hz1 rfl z30T.1 z30T.2
  have hK3 := hK2.evo e3 (by show ¬ kid = X.length; omega) (by show ¬ H.length = X.length; omega)
  have hp3 := e3.same _ _ (e2.same _ _ hp1 hpk (o36T _ _).1 (o36T _ _).2) (by show ¬ pid = X.length; omega) (o36T _ _).1 (o36T _ _).2
  have ho3 : (X1.set X.length (⟨30, R1.1.cells, 1⟩ : PObj))[X.length]? = some ⟨30, R1.1.cells, 1⟩ := get_set hz1
  have o30T : (⟨30, R1.1.cells, 1⟩ : PObj).T ≠ keyT ∧ (⟨30, R1.1.cells, 1⟩ : PObj).T ≠ boxT := z30T
  obtain ⟨Y, hY⟩ : ∃ Y, Y = X1.set X.length (⟨30, R1.1.cells, 1⟩ : PObj) := ⟨_, rfl⟩
  rw [← hY] at hK3 hp3 ho3 e3
  have hly : X.length < Y.length := (List.getElem?_eq_some_iff.1 ho3).1
  have e4 : Evo (fun _ => False) Y (Y ++ [z30]) := Evo.app Y _
  obtain ⟨Y1, ⟨hK5, e5⟩, h17⟩ := c16d (hK3.evo e4 id id) (by decide) (by decide) (by decide) qK2 ⟨by decide, by decide, by decide, by decide⟩ 5 draw1
  have hR2 := as2 hsm ((0 + 2 : Nat) : Int)
  generalize asV aedu l ((0 + 2 : Nat) : Int) qK2 5 draw1 = R2 at *
  have hb2 : ∀ m k, bump R2 m k = m := fun m k => if_neg (by rw [hR2]; decide)
  rw [hb2, hb2] at hK5
  have hp4 := e4.same _ _ hp3 id (o36T _ _).1 (o36T _ _).2
  have hz2 : Y1[Y.length]? = some z30 := e5.same _ _ (get_last Y _) (by show ¬ Y.length = kid; omega) z30T.1 z30T.2
  have e6 : Evo (· = Y.length) Y1 (Y1.set Y.length ⟨30, R2.1.cells, 1⟩) := Evo.setOther hz2 rfl z30T.1 z30T.2
  have hK6 := hK5.evo e6 (by show ¬ kid = Y.length; omega) (by show ¬ H.length = Y.length; omega)
  have hp6 := e6.same _ _ (e5.same _ _ hp4 hpk (o36T _ _).1 (o36T _ _).2) (by show ¬ pid = Y.length; omega) (o36T _ _).1 (o36T _ _).2
  have ho6 := e6.same _ _ (e5.same _ _ (e4.same _ _ ho3 id o30T.1 o30T.2) (by show ¬ X.length = kid; omega) o30T.1 o30T.2) (by show ¬ X.length = Y.length; omega) o30T.1 o30T.2
  refine drawK_of2 (D21 (Y).length) [Y ++ [z30], Y1, (Y1).set (Y).length (⟨30, R2.1.cells, 1⟩ : PObj)] (by kernel_rfl) ⟨by rw [hY]; rfl, by rw [hY]; rfl⟩ trivial ?_
  (conv => whnf)
  iterate 3 (apply Exists.intro; apply And.intro; (focus ((conv => whnf); first | exact ⟨rfl, rfl, trivial⟩ | (refine ⟨by omega, ?_⟩; (conv => whnf); exact ⟨rfl, rfl, trivial⟩))); (conv => whnf))
  apply Exists.intro
  apply And.intro
  · (conv => whnf)
    ((conv in (_[_]?) => tactic => exact hp4); (conv => whnf))
    exact ⟨rfl, rfl, trivial⟩
  (conv => whnf)
  refine ⟨_, callK_pure c27 ⟨rfl, rfl, trivial⟩, ?_⟩
  (conv => whnf)
  refine ⟨_, callK_pure c17 ⟨rfl, rfl, trivial⟩, ?_⟩
  (conv => whnf)
  iterate 2 (apply Exists.intro; apply And.intro; (focus ((conv => whnf); first | exact ⟨rfl, rfl, trivial⟩ | (refine ⟨by omega, ?_⟩; (conv => whnf); exact ⟨rfl, rfl, trivial⟩))); (conv => whnf))
  refine ⟨_, callK_args (args' := [.ptr (some (kid, 0)), .agg qK2.cells, .int .i64 5, .agg (keyC draw1)]) rfl (callK_of h17 (by rintro _ _ ⟨rfl, rfl⟩; exact ⟨rfl, rfl, trivial⟩)), ?_⟩
  (conv => whnf)
  iterate 2 (apply Exists.intro; apply And.intro; (focus ((conv => whnf); first | exact ⟨rfl, rfl, trivial⟩ | (refine ⟨by omega, ?_⟩; (conv => whnf); exact ⟨rfl, rfl, trivial⟩))); (conv => whnf))
  (apply Exists.intro; apply And.intro; (focus ((conv => whnf); apply And.intro; (focus ((conv => whnf); first | exact ⟨rfl, rfl, trivial⟩ | (refine ⟨by omega, ?_⟩; (conv => whnf); exact ⟨rfl, rfl, trivial⟩))); ((conv => whnf); first | exact ⟨rfl, rfl, trivial⟩ | (refine ⟨by omega, ?_⟩; (conv => whnf); exact ⟨rfl, rfl, trivial⟩)))); (conv => whnf))
  refine ⟨.ptr (some ((Y).length, 0)), ?_, ?_⟩
  · (conv => whnf)
    refine ⟨⟨⟨rfl, rfl, trivial⟩, get_last Y _⟩, ?_⟩
    (conv => whnf)
    exact ⟨⟨rfl, rfl, trivial⟩, hz2⟩
  (conv => whnf)
  apply Exists.intro
  apply And.intro
  · (conv => whnf)
    ((conv in (_[_]?) => tactic => exact hz2); (conv => whnf))
    exact ⟨rfl, rfl, trivial⟩
  (conv => whnf)
  (apply Exists.intro; apply And.intro; (focus ((conv => whnf); first | exact ⟨rfl, rfl, trivial⟩ | (refine ⟨by omega, ?_⟩; (conv => whnf); exact ⟨rfl, rfl, trivial⟩))); (conv => whnf))
  (conv => whnf)
  refine ⟨fun _ => ?_, fun h => absurd hR1 h⟩
  (conv => whnf)
  refine ⟨fun _ => ?_, fun h => absurd hR2 h⟩
  (conv => whnf)
  ((conv in (_[_]?) => tactic => exact ho6); (conv => whnf))
  refine ⟨fun _ => ?_, fun h => absurd hR1k h⟩
  (conv => whnf)
  ((conv in (_[_]?) => tactic => exact hp6); (conv => whnf))
  obtain ⟨w, hw⟩ := hK6.k
  refine callK_of (c20 hw) ?_
  rintro _ _ ⟨hx7, hH7⟩
  rw [hx7, hH7]; clear hx7 hH7
  (conv => whnf)
  refine ⟨fun _ => ?_, fun h => absurd rfl h⟩
  (conv => whnf)
  rfl
end Go.Proofs.Tryz

set_option maxRecDepth 100000
set_option maxHeartbeats 1000000
set_option linter.unusedVariables false
set_option linter.unusedSimpArgs false
namespace Go.Proofs.Tryz
open Go Ps
/-- KdcUnknown: what As answers to anybody. -/
def askU (r1 n1 r2 n2 : List UInt8) : AsQ := ⟨r1, n1, r2, n2, 9, 0⟩
def KnownP (r n : List UInt8) : Prop := r = aedu ∧ (n = ann ∨ n = mail ∨ n = krb aedu ∨ n = krb edu)
theorem Small.none_iff {l : List Ent} (h : Small l 5) {r n : List UInt8} (hr : r = aedu) (hn : ¬ KnownP r n) : lastE (isP r n) l = Option.none := by
  refine h.none fun x hx hh => hn ⟨hr, ?_⟩
  have hx0 : x ∈ nm0 := hx
  have hall : (nm0.all fun x => decide (x.1.1 ≠ aedu) || (decide (x.1.2 = ann) || (decide (x.1.2 = mail) || (decide (x.1.2 = krb aedu) || decide (x.1.2 = krb edu))))) = true := by decide
  have := List.all_eq_true.1 hall x hx0
  simp only [Bool.or_eq_true, decide_eq_true_eq] at this
  rcases this with h1 | h1 | h1 | h1 | h1
  · exact absurd (hh.1.trans hr) h1
  · exact .inl (hh.2.symm.trans h1)
  · exact .inr (.inl (hh.2.symm.trans h1))
  · exact .inr (.inr (.inl (hh.2.symm.trans h1)))
  · exact .inr (.inr (.inr (hh.2.symm.trans h1)))
theorem Small.some_of {l : List Ent} (h : Small l 5) {r n : List UInt8} (hk : KnownP r n) : ∃ e, lastE (isP r n) l = Option.some e := by
  obtain ⟨rfl, hk⟩ := hk
  rcases hk with rfl | rfl | rfl | rfl
  · obtain ⟨e, he, _⟩ := h.some (x := ((aedu, ann), 13)) (by decide); exact ⟨e, he⟩
  · obtain ⟨e, he, _⟩ := h.some (x := ((aedu, mail), 14)) (by decide); exact ⟨e, he⟩
  · obtain ⟨e, he, _⟩ := h.some (x := ((aedu, krb aedu), 10)) (by decide); exact ⟨e, he⟩
  · obtain ⟨e, he, _⟩ := h.some (x := ((aedu, krb edu), 99)) (by decide); exact ⟨e, he⟩
theorem asU_no {l : List Ent} (h : Small l 5) (n : Int) (d : Nat → UInt8) {r1 n1 r2 n2 : List UInt8} (hok : (askU r1 n1 r2 n2).ok = true) (hk : ¬ KnownP r1 n1) : (asV aedu l n (askU r1 n1 r2 n2) 5 d).2 = 5 := by
  unfold asV
  rw [show lateB 5 = false by decide, hok]
  show (match lastE (isP r1 n1) l with
    | Option.none => (repZ, (5 : Int))
    | Option.some c => match decide (r1 = aedu) with
      | false => (repZ, 5)
      | true => match lastE (isP r2 n2) l with
        | Option.none => (repZ, 6)
        | Option.some s => match decide (r2 = aedu ∧ n2 = krb aedu) with
          | false => (repZ, 6)
          | true => match decide ((9 : Int) < 5) with
            | true => (repZ, 7)
            | false => makeV l n r2 n2 (asPart (askU r1 n1 r2 n2) 5 d) 0 c.key 3).2 = 5
  by_cases hr : r1 = aedu
  · rw [h.none_iff hr hk]
  · cases lastE (isP r1 n1) l with
    | none => rfl
    | some c => rw [decide_eq_false hr]
theorem asU_other {l : List Ent} (h : Small l 5) (n : Int) (d : Nat → UInt8) {r1 n1 r2 n2 : List UInt8} (hok : (askU r1 n1 r2 n2).ok = true) (hk : KnownP r1 n1) (h2 : ¬ (r2 = aedu ∧ n2 = krb aedu)) : (asV aedu l n (askU r1 n1 r2 n2) 5 d).2 = 6 := by
  unfold asV
  rw [show lateB 5 = false by decide, hok]
  obtain ⟨c, hc⟩ := h.some_of hk
  show (match lastE (isP r1 n1) l with
    | Option.none => (repZ, (5 : Int))
    | Option.some c => match decide (r1 = aedu) with
      | false => (repZ, 5)
      | true => match lastE (isP r2 n2) l with
        | Option.none => (repZ, 6)
        | Option.some s => match decide (r2 = aedu ∧ n2 = krb aedu) with
          | false => (repZ, 6)
          | true => match decide ((9 : Int) < 5) with
            | true => (repZ, 7)
            | false => makeV l n r2 n2 (asPart (askU r1 n1 r2 n2) 5 d) 0 c.key 3).2 = 6
  rw [hc, decide_eq_true hk.1]
  cases lastE (isP r2 n2) l with
  | none => rfl
  | some s => rw [decide_eq_false h2]
theorem asU_yes {l : List Ent} (h : Small l 5) (n : Int) (d : Nat → UInt8) {r1 n1 r2 n2 : List UInt8} (hok : (askU r1 n1 r2 n2).ok = true) (hk : KnownP r1 n1) (h2 : r2 = aedu ∧ n2 = krb aedu) : (asV aedu l n (askU r1 n1 r2 n2) 5 d).2 = 0 := by
  obtain ⟨c, hC⟩ := h.some_of hk
  obtain ⟨s, hS, hkv, _⟩ := h.some (x := ((aedu, krb aedu), 10)) (by decide)
  obtain ⟨rfl, rfl⟩ := h2
  rw [show asV aedu l n (askU r1 n1 aedu (krb aedu)) 5 d = _ from asV_good (realm := aedu) (q := askU r1 n1 aedu (krb aedu)) (by decide) hok hC hS hk.1 ⟨rfl, rfl⟩ (by show ¬ (9 : Int) < 5; decide)]
  have hP : (isPartB (asPart (askU r1 n1 aedu (krb aedu)) 5 d) && isRptB (rptOf (asPart (askU r1 n1 aedu (krb aedu)) 5 d) aedu (krb aedu) 0)) = true := by
    obtain ⟨rfl, hn⟩ := hk
    rcases hn with rfl | rfl | rfl | rfl <;> kernel_rfl
  show (match lastE (isP aedu (krb aedu)) l with
    | Option.none => (repZ, (4 : Int))
    | Option.some e => match isPartB (asPart (askU r1 n1 aedu (krb aedu)) 5 d) && isRptB (rptOf (asPart (askU r1 n1 aedu (krb aedu)) 5 d) aedu (krb aedu) 0) with
      | true => (⟨r1, n1, aedu, krb aedu, e.kv, sealK e.key 2 (n + 1) (partL (asPart (askU r1 n1 aedu (krb aedu)) 5 d)), sealK c.key 3 (n + 2) (rptL (rptOf (asPart (askU r1 n1 aedu (krb aedu)) 5 d) aedu (krb aedu) 0))⟩, 0)
      | false => (repZ, 2)).2 = 0
  rw [show lastE (isP aedu (krb aedu)) l = Option.some s from hS, hP]
/-- KdcUnknown's own truth about who is known. -/
instance (r n : List UInt8) : Decidable (KnownP r n) := by unfold KnownP; exact inferInstance
end Go.Proofs.Tryz

set_option maxRecDepth 100000
set_option maxHeartbeats 4000000
set_option linter.unusedVariables false
set_option linter.unusedSimpArgs false
namespace Go.Proofs.Tryz
open Go Ps
def imm5t : List Nat := [2, 3]
theorem AsQ.fits {q : AsQ} (hf : q.fit) : (asMsg q).fits := by
  obtain ⟨f1, f2, f3, f4⟩ := hf
  unfold Msg.fits asMsg mZ
  exact ⟨by show q.cr.length ≤ _; omega, by show q.cn.length ≤ _; omega, by show q.sr.length ≤ _; omega, by show q.sn.length ≤ _; omega, Nat.zero_le _, Nat.zero_le _, Nat.zero_le _, Nat.zero_le _, Nat.zero_le _, Nat.zero_le _, Nat.zero_le _, Nat.zero_le _, Nat.zero_le _, Nat.zero_le _⟩
def drawN (n : UInt8) : Nat → UInt8 := fun i => match i with
  | 0 => n
  | 1 => 7
  | _ => 0
theorem pne {a b c d : List UInt8} (h : ¬ (a = c ∧ b = d)) : ¬ ([PV.str a, .str b] = [.str c, .str d]) := fun e => h (two_eq e)
theorem c5u (r1 n1 r2 n2 : List UInt8) (b1 : r1.length ≤ 140737488351232) (b2 : n1.length ≤ 140737488351232) (b3 : r2.length ≤ 140737488351232) (b4 : n2.length ≤ 140737488351232) (H : PH) :
    CallOk prog 5 [.agg [.str r1, .str n1], .agg [.str r2, .str n2]] H fun r _ => r = .bool true := by
  have w1 : IntKind.i64.wrap ((r1.length : Int) + n1.length) = (r1.length : Int) + n1.length := wrap64 (by omega) (by omega)
  have w2 : IntKind.i64.wrap ((r1.length : Int) + n1.length + r2.length) = (r1.length : Int) + n1.length + r2.length := wrap64 (by omega) (by omega)
  have w3 : IntKind.i64.wrap ((r1.length : Int) + n1.length + r2.length + n2.length) = (r1.length : Int) + n1.length + r2.length + n2.length := wrap64 (by omega) (by omega)
  have hF : (asMsg ⟨r1, n1, r2, n2, 0, 0⟩).as = [.str r1, .str n1, .str r2, .str n2, .int .i64 0, .int .i64 0] := rfl
  (refine callOk_of_pFun2 (tt := ttKw) (imm := imm5t) follows ttKw_ok depth6 func5 (by kernel_rfl) ?_; (conv => whnf))
  refine ⟨fun _ => ?_, fun h => ?_⟩
  · (conv => whnf)
    rfl
  have h : ¬ (200 : Int) < IntKind.i64.wrap (IntKind.i64.wrap (IntKind.i64.wrap ((r1.length : Int) + n1.length) + r2.length) + n2.length) := h
  rw [w1, w2, w3] at h
  have hfit : (⟨r1, n1, r2, n2, 0, 0⟩ : AsQ).fit := ⟨by show r1.length ≤ _; omega, by show n1.length ≤ _; omega, by show r2.length ≤ _; omega, by show n2.length ≤ _; omega⟩
  (conv => whnf)
  refine callK_args (args' := [.agg (asMsg ⟨r1, n1, r2, n2, 0, 0⟩).as]) rfl (callK_pure (c26 _ (AsQ.fits hfit)) ?_)
  have hasB : asB (asMsg ⟨r1, n1, r2, n2, 0, 0⟩) = (isPrincB r1 n1 && isPrincB r2 n2) := by
    show (((isPrincB r1 n1 && isPrincB r2 n2) && true) && true) = _
    rw [Bool.and_true, Bool.and_true]
  rw [hasB]
  cases hok : (isPrincB r1 n1 && isPrincB r2 n2) with
  | false =>
    (conv => whnf)
    rfl
  | true =>
    have hok2 : (askU r1 n1 r2 n2).ok = true := by
      show (((isPrincB r1 n1 && isPrincB r2 n2) && true) && true) = true
      rw [hok]; rfl
    (conv => whnf)
    refine callK_of (c15x H) ?_
    rintro _ X ⟨kid, xid, pid, l, v, rfl, hsm, hinc, hK, hxk, hxr, hp, hev⟩
    (conv => whnf)
    have hlt : kid < X.length := by obtain ⟨v, hv⟩ := hK.k; exact (List.getElem?_eq_some_iff.1 hv).1
    have e1 : Evo (fun _ => False) X (X ++ [z30]) := Evo.app X _
    obtain ⟨X1, ⟨hK2, e2⟩, h16⟩ := c16d (hK.evo e1 id id) (by decide) (by decide) (by decide) (askU r1 n1 r2 n2) ⟨by show r1.length ≤ _; omega, by show n1.length ≤ _; omega, by show r2.length ≤ _; omega, by show n2.length ≤ _; omega⟩ 5 (drawN 1)
    have hA1 := fun hk => asU_no hsm ((0 : Nat) : Int) (drawN 1) hok2 hk
    have hA2 := fun hk h2 => asU_other hsm ((0 : Nat) : Int) (drawN 1) hok2 hk h2
    have hA3 := fun hk h2 => asU_yes hsm ((0 : Nat) : Int) (drawN 1) hok2 hk h2
    generalize asV aedu l ((0 : Nat) : Int) (askU r1 n1 r2 n2) 5 (drawN 1) = R at *
    have hp1 := e1.same _ _ hp id (o36T _ _).1 (o36T _ _).2
    have hz1 : X1[X.length]? = some z30 := e2.same _ _ (get_last X _) (by show ¬ X.length = kid; omega) z30T.1 z30T.2
    refine drawK_of2 (D21 X.length) [X ++ [z30], X1, X1.set X.length (⟨30, R.1.cells, 1⟩ : PObj)] (by kernel_rfl) ⟨rfl, rfl⟩ trivial ?_
    (conv => whnf)
    iterate 3 (apply Exists.intro; apply And.intro; (focus ((conv => whnf); first | exact ⟨rfl, rfl, trivial⟩ | (refine ⟨by omega, ?_⟩; (conv => whnf); exact ⟨rfl, rfl, trivial⟩))); (conv => whnf))
    apply Exists.intro
    apply And.intro
    · (conv => whnf)
      ((conv in (_[_]?) => tactic => exact hp1); (conv => whnf))
      exact ⟨rfl, rfl, trivial⟩
    (conv => whnf)
    iterate 3 (apply Exists.intro; apply And.intro; (focus ((conv => whnf); first | exact ⟨rfl, rfl, trivial⟩ | (refine ⟨by omega, ?_⟩; (conv => whnf); exact ⟨rfl, rfl, trivial⟩))); (conv => whnf))
    refine ⟨_, callK_args (args' := [byteC 1]) rfl (callK_pure (c19 1) ⟨rfl, rfl, trivial⟩), ?_⟩
    (conv => whnf)
    refine ⟨_, callK_args (args' := [.ptr (some (kid, 0)), .agg (askU r1 n1 r2 n2).cells, .int .i64 5, .agg (keyC (drawN 1))]) rfl (callK_of h16 (by rintro _ _ ⟨rfl, rfl⟩; exact ⟨rfl, rfl, trivial⟩)), ?_⟩
    (conv => whnf)
    iterate 2 (apply Exists.intro; apply And.intro; (focus ((conv => whnf); first | exact ⟨rfl, rfl, trivial⟩ | (refine ⟨by omega, ?_⟩; (conv => whnf); exact ⟨rfl, rfl, trivial⟩))); (conv => whnf))
    (apply Exists.intro; apply And.intro; (focus ((conv => whnf); apply And.intro; (focus ((conv => whnf); first | exact ⟨rfl, rfl, trivial⟩ | (refine ⟨by omega, ?_⟩; (conv => whnf); exact ⟨rfl, rfl, trivial⟩))); ((conv => whnf); first | exact ⟨rfl, rfl, trivial⟩ | (refine ⟨by omega, ?_⟩; (conv => whnf); exact ⟨rfl, rfl, trivial⟩)))); (conv => whnf))
    refine ⟨.ptr (some (X.length, 0)), ?_, ?_⟩
    · (conv => whnf)
      refine ⟨⟨⟨rfl, rfl, trivial⟩, get_last X _⟩, ?_⟩
      (conv => whnf)
      exact ⟨⟨rfl, rfl, trivial⟩, hz1⟩
    (conv => whnf)
    apply Exists.intro
    apply And.intro
    · (conv => whnf)
      ((conv in (_[_]?) => tactic => exact hz1); (conv => whnf))
      exact ⟨rfl, rfl, trivial⟩
    (conv => whnf)
    (apply Exists.intro; apply And.intro; (focus ((conv => whnf); first | exact ⟨rfl, rfl, trivial⟩ | (refine ⟨by omega, ?_⟩; (conv => whnf); exact ⟨rfl, rfl, trivial⟩))); (conv => whnf))
    (conv => whnf)
    have k1 : Pure prog 18 [.str aedu, .str aedu] (.agg [.str aedu, .str (krb aedu)]) := c18 _ _ (by decide)
    have k2 : Pure prog 18 [.str aedu, .str edu] (.agg [.str aedu, .str (krb edu)]) := c18 _ _ (by decide)
    have k3 := c17
    have k4 := c27
    have fin : ∀ (H : PH) (b : Bool), b = true → CallOk prog 21 [] H fun r H' => r = .bool b := fun H b hb => by rw [hb]; exact c21 H
    have last : ∀ (H : PH) (K : PV → PH → Prop), (∀ H', K (.bool true) H') → callK prog 21 [] H K := fun H K h => callK_of (c21 H) fun r H' hr => by rw [hr]; exact h H'
    by_cases hr : r1 = aedu
    · subst hr
      by_cases hk : KnownP aedu n1
      · have g : ∀ (d1 d2 d3 d4 : Prop) , True := fun _ _ _ _ => trivial
        by_cases h2 : r2 = aedu ∧ n2 = krb aedu
        · have hA := hA3 hk h2
          obtain ⟨rfl, rfl⟩ := h2
          obtain ⟨_, rfl | rfl | rfl | rfl⟩ := hk
          · refine drawK_pure2 (by kernel_rfl) ?_
            (conv => whnf)
            (repeat (first | (apply Exists.intro; apply And.intro; (focus ((conv => whnf); first | exact ⟨rfl, rfl, trivial⟩ | (refine ⟨by omega, ?_⟩; (conv => whnf); exact ⟨rfl, rfl, trivial⟩))); (conv => whnf)) | (apply Exists.intro; apply And.intro; (focus ((conv => whnf); ((conv in (_[_]?) => tactic => first | with_reducible assumption | assumption); (conv => whnf)); (exact ⟨rfl, rfl, trivial⟩))); ((conv => whnf))) | (apply Exists.intro; apply And.intro; (focus ((conv => whnf); (try refine And.intro ⟨by (first | exact ⟨rfl, ⟨Nat.le_of_ble_eq_true rfl, _, rfl⟩, rfl, ⟨Nat.le_of_ble_eq_true rfl, _, rfl⟩, rfl⟩ | apply_assumption), by (first | exact ⟨rfl, ⟨Nat.le_of_ble_eq_true rfl, _, rfl⟩, rfl, ⟨Nat.le_of_ble_eq_true rfl, _, rfl⟩, rfl⟩ | apply_assumption)⟩ ?_); first | exact ⟨fun _ => ⟨rfl, rfl, trivial⟩, fun h => absurd (by (first | assumption | rfl | decide | omega)) h⟩ | exact ⟨fun h => absurd h (by (first | assumption | rfl | decide | omega)), fun _ => ⟨rfl, rfl, trivial⟩⟩)); ((conv => whnf))) | (apply Exists.intro; apply And.intro; (focus ((conv => whnf); refine callK_pure (by assumption) ?_; (exact ⟨rfl, rfl, trivial⟩))); ((conv => whnf))) | (apply Exists.intro; apply And.intro; (focus ((conv => whnf); refine callK_of (by assumption) ?_; intro _ _ hk; cases hk with | intro h1 h2 => (subst h1; subst h2; (exact ⟨rfl, rfl, trivial⟩)))); ((conv => whnf))) | (apply Exists.intro; apply And.intro; (focus ((conv => whnf); apply And.intro; (focus ((conv => whnf); first | exact ⟨rfl, rfl, trivial⟩ | (refine ⟨by omega, ?_⟩; (conv => whnf); exact ⟨rfl, rfl, trivial⟩))); ((conv => whnf); first | exact ⟨rfl, rfl, trivial⟩ | (refine ⟨by omega, ?_⟩; (conv => whnf); exact ⟨rfl, rfl, trivial⟩)))); (conv => whnf)) | (apply Exists.intro; apply And.intro; (focus ((conv => whnf); refine ⟨⟨⟨rfl, rfl, trivial⟩, get_last _ _⟩, ?_⟩; (conv => whnf); exact ⟨⟨rfl, rfl, trivial⟩, by assumption⟩)); ((conv => whnf))) | ((conv in (_[_]?) => tactic => first | with_reducible assumption | assumption); (conv => whnf)) | ((try refine And.intro ⟨by (first | exact ⟨rfl, ⟨Nat.le_of_ble_eq_true rfl, _, rfl⟩, rfl, ⟨Nat.le_of_ble_eq_true rfl, _, rfl⟩, rfl⟩ | apply_assumption), by (first | exact ⟨rfl, ⟨Nat.le_of_ble_eq_true rfl, _, rfl⟩, rfl, ⟨Nat.le_of_ble_eq_true rfl, _, rfl⟩, rfl⟩ | apply_assumption)⟩ ?_); (first | refine ⟨fun _ => ?_, fun h => absurd (by (first | assumption | rfl | decide | omega)) h⟩ | refine ⟨fun h => absurd h (by (first | assumption | rfl | decide | omega)), fun _ => ?_⟩); ((conv => whnf))) | (refine callK_pure (by assumption) ?_; ((conv => whnf))) | (refine callK_of (by assumption) ?_; intro _ _ hk; cases hk with | intro h1 h2 => (subst h1; subst h2; ((conv => whnf)))) | (refine ⟨by first | decide | omega, ?_⟩; ((conv => whnf)))))
            refine drawK_pure2 (by kernel_rfl) ?_
            (conv => whnf)
            (repeat (first | (apply Exists.intro; apply And.intro; (focus ((conv => whnf); first | exact ⟨rfl, rfl, trivial⟩ | (refine ⟨by omega, ?_⟩; (conv => whnf); exact ⟨rfl, rfl, trivial⟩))); (conv => whnf)) | (apply Exists.intro; apply And.intro; (focus ((conv => whnf); ((conv in (_[_]?) => tactic => first | with_reducible assumption | assumption); (conv => whnf)); (exact ⟨rfl, rfl, trivial⟩))); ((conv => whnf))) | (apply Exists.intro; apply And.intro; (focus ((conv => whnf); (try refine And.intro ⟨by (first | exact ⟨rfl, ⟨Nat.le_of_ble_eq_true rfl, _, rfl⟩, rfl, ⟨Nat.le_of_ble_eq_true rfl, _, rfl⟩, rfl⟩ | apply_assumption), by (first | exact ⟨rfl, ⟨Nat.le_of_ble_eq_true rfl, _, rfl⟩, rfl, ⟨Nat.le_of_ble_eq_true rfl, _, rfl⟩, rfl⟩ | apply_assumption)⟩ ?_); first | exact ⟨fun _ => ⟨rfl, rfl, trivial⟩, fun h => absurd (by (first | assumption | rfl | decide | omega)) h⟩ | exact ⟨fun h => absurd h (by (first | assumption | rfl | decide | omega)), fun _ => ⟨rfl, rfl, trivial⟩⟩)); ((conv => whnf))) | (apply Exists.intro; apply And.intro; (focus ((conv => whnf); refine callK_pure (by assumption) ?_; (exact ⟨rfl, rfl, trivial⟩))); ((conv => whnf))) | (apply Exists.intro; apply And.intro; (focus ((conv => whnf); refine callK_of (by assumption) ?_; intro _ _ hk; cases hk with | intro h1 h2 => (subst h1; subst h2; (exact ⟨rfl, rfl, trivial⟩)))); ((conv => whnf))) | (apply Exists.intro; apply And.intro; (focus ((conv => whnf); apply And.intro; (focus ((conv => whnf); first | exact ⟨rfl, rfl, trivial⟩ | (refine ⟨by omega, ?_⟩; (conv => whnf); exact ⟨rfl, rfl, trivial⟩))); ((conv => whnf); first | exact ⟨rfl, rfl, trivial⟩ | (refine ⟨by omega, ?_⟩; (conv => whnf); exact ⟨rfl, rfl, trivial⟩)))); (conv => whnf)) | (apply Exists.intro; apply And.intro; (focus ((conv => whnf); refine ⟨⟨⟨rfl, rfl, trivial⟩, get_last _ _⟩, ?_⟩; (conv => whnf); exact ⟨⟨rfl, rfl, trivial⟩, by assumption⟩)); ((conv => whnf))) | ((conv in (_[_]?) => tactic => first | with_reducible assumption | assumption); (conv => whnf)) | ((try refine And.intro ⟨by (first | exact ⟨rfl, ⟨Nat.le_of_ble_eq_true rfl, _, rfl⟩, rfl, ⟨Nat.le_of_ble_eq_true rfl, _, rfl⟩, rfl⟩ | apply_assumption), by (first | exact ⟨rfl, ⟨Nat.le_of_ble_eq_true rfl, _, rfl⟩, rfl, ⟨Nat.le_of_ble_eq_true rfl, _, rfl⟩, rfl⟩ | apply_assumption)⟩ ?_); (first | refine ⟨fun _ => ?_, fun h => absurd (by (first | assumption | rfl | decide | omega)) h⟩ | refine ⟨fun h => absurd h (by (first | assumption | rfl | decide | omega)), fun _ => ?_⟩); ((conv => whnf))) | (refine callK_pure (by assumption) ?_; ((conv => whnf))) | (refine callK_of (by assumption) ?_; intro _ _ hk; cases hk with | intro h1 h2 => (subst h1; subst h2; ((conv => whnf)))) | (refine ⟨by first | decide | omega, ?_⟩; ((conv => whnf)))))
            refine last _ _ fun H' => ?_
            (conv => whnf)
            rfl
          · have q1 : ¬ ([PV.str aedu, .str mail] = [.str aedu, .str ann]) := pne (by decide)
            refine drawK_pure2 (by kernel_rfl) ?_
            (conv => whnf)
            (repeat (first | (apply Exists.intro; apply And.intro; (focus ((conv => whnf); first | exact ⟨rfl, rfl, trivial⟩ | (refine ⟨by omega, ?_⟩; (conv => whnf); exact ⟨rfl, rfl, trivial⟩))); (conv => whnf)) | (apply Exists.intro; apply And.intro; (focus ((conv => whnf); ((conv in (_[_]?) => tactic => first | with_reducible assumption | assumption); (conv => whnf)); (exact ⟨rfl, rfl, trivial⟩))); ((conv => whnf))) | (apply Exists.intro; apply And.intro; (focus ((conv => whnf); (try refine And.intro ⟨by (first | exact ⟨rfl, ⟨Nat.le_of_ble_eq_true rfl, _, rfl⟩, rfl, ⟨Nat.le_of_ble_eq_true rfl, _, rfl⟩, rfl⟩ | apply_assumption), by (first | exact ⟨rfl, ⟨Nat.le_of_ble_eq_true rfl, _, rfl⟩, rfl, ⟨Nat.le_of_ble_eq_true rfl, _, rfl⟩, rfl⟩ | apply_assumption)⟩ ?_); first | exact ⟨fun _ => ⟨rfl, rfl, trivial⟩, fun h => absurd (by (first | assumption | rfl | decide | omega)) h⟩ | exact ⟨fun h => absurd h (by (first | assumption | rfl | decide | omega)), fun _ => ⟨rfl, rfl, trivial⟩⟩)); ((conv => whnf))) | (apply Exists.intro; apply And.intro; (focus ((conv => whnf); refine callK_pure (by assumption) ?_; (exact ⟨rfl, rfl, trivial⟩))); ((conv => whnf))) | (apply Exists.intro; apply And.intro; (focus ((conv => whnf); refine callK_of (by assumption) ?_; intro _ _ hk; cases hk with | intro h1 h2 => (subst h1; subst h2; (exact ⟨rfl, rfl, trivial⟩)))); ((conv => whnf))) | (apply Exists.intro; apply And.intro; (focus ((conv => whnf); apply And.intro; (focus ((conv => whnf); first | exact ⟨rfl, rfl, trivial⟩ | (refine ⟨by omega, ?_⟩; (conv => whnf); exact ⟨rfl, rfl, trivial⟩))); ((conv => whnf); first | exact ⟨rfl, rfl, trivial⟩ | (refine ⟨by omega, ?_⟩; (conv => whnf); exact ⟨rfl, rfl, trivial⟩)))); (conv => whnf)) | (apply Exists.intro; apply And.intro; (focus ((conv => whnf); refine ⟨⟨⟨rfl, rfl, trivial⟩, get_last _ _⟩, ?_⟩; (conv => whnf); exact ⟨⟨rfl, rfl, trivial⟩, by assumption⟩)); ((conv => whnf))) | ((conv in (_[_]?) => tactic => first | with_reducible assumption | assumption); (conv => whnf)) | ((try refine And.intro ⟨by (first | exact ⟨rfl, ⟨Nat.le_of_ble_eq_true rfl, _, rfl⟩, rfl, ⟨Nat.le_of_ble_eq_true rfl, _, rfl⟩, rfl⟩ | apply_assumption), by (first | exact ⟨rfl, ⟨Nat.le_of_ble_eq_true rfl, _, rfl⟩, rfl, ⟨Nat.le_of_ble_eq_true rfl, _, rfl⟩, rfl⟩ | apply_assumption)⟩ ?_); (first | refine ⟨fun _ => ?_, fun h => absurd (by (first | assumption | rfl | decide | omega)) h⟩ | refine ⟨fun h => absurd h (by (first | assumption | rfl | decide | omega)), fun _ => ?_⟩); ((conv => whnf))) | (refine callK_pure (by assumption) ?_; ((conv => whnf))) | (refine callK_of (by assumption) ?_; intro _ _ hk; cases hk with | intro h1 h2 => (subst h1; subst h2; ((conv => whnf)))) | (refine ⟨by first | decide | omega, ?_⟩; ((conv => whnf)))))
            refine drawK_pure2 (by kernel_rfl) ?_
            (conv => whnf)
            (repeat (first | (apply Exists.intro; apply And.intro; (focus ((conv => whnf); first | exact ⟨rfl, rfl, trivial⟩ | (refine ⟨by omega, ?_⟩; (conv => whnf); exact ⟨rfl, rfl, trivial⟩))); (conv => whnf)) | (apply Exists.intro; apply And.intro; (focus ((conv => whnf); ((conv in (_[_]?) => tactic => first | with_reducible assumption | assumption); (conv => whnf)); (exact ⟨rfl, rfl, trivial⟩))); ((conv => whnf))) | (apply Exists.intro; apply And.intro; (focus ((conv => whnf); (try refine And.intro ⟨by (first | exact ⟨rfl, ⟨Nat.le_of_ble_eq_true rfl, _, rfl⟩, rfl, ⟨Nat.le_of_ble_eq_true rfl, _, rfl⟩, rfl⟩ | apply_assumption), by (first | exact ⟨rfl, ⟨Nat.le_of_ble_eq_true rfl, _, rfl⟩, rfl, ⟨Nat.le_of_ble_eq_true rfl, _, rfl⟩, rfl⟩ | apply_assumption)⟩ ?_); first | exact ⟨fun _ => ⟨rfl, rfl, trivial⟩, fun h => absurd (by (first | assumption | rfl | decide | omega)) h⟩ | exact ⟨fun h => absurd h (by (first | assumption | rfl | decide | omega)), fun _ => ⟨rfl, rfl, trivial⟩⟩)); ((conv => whnf))) | (apply Exists.intro; apply And.intro; (focus ((conv => whnf); refine callK_pure (by assumption) ?_; (exact ⟨rfl, rfl, trivial⟩))); ((conv => whnf))) | (apply Exists.intro; apply And.intro; (focus ((conv => whnf); refine callK_of (by assumption) ?_; intro _ _ hk; cases hk with | intro h1 h2 => (subst h1; subst h2; (exact ⟨rfl, rfl, trivial⟩)))); ((conv => whnf))) | (apply Exists.intro; apply And.intro; (focus ((conv => whnf); apply And.intro; (focus ((conv => whnf); first | exact ⟨rfl, rfl, trivial⟩ | (refine ⟨by omega, ?_⟩; (conv => whnf); exact ⟨rfl, rfl, trivial⟩))); ((conv => whnf); first | exact ⟨rfl, rfl, trivial⟩ | (refine ⟨by omega, ?_⟩; (conv => whnf); exact ⟨rfl, rfl, trivial⟩)))); (conv => whnf)) | (apply Exists.intro; apply And.intro; (focus ((conv => whnf); refine ⟨⟨⟨rfl, rfl, trivial⟩, get_last _ _⟩, ?_⟩; (conv => whnf); exact ⟨⟨rfl, rfl, trivial⟩, by assumption⟩)); ((conv => whnf))) | ((conv in (_[_]?) => tactic => first | with_reducible assumption | assumption); (conv => whnf)) | ((try refine And.intro ⟨by (first | exact ⟨rfl, ⟨Nat.le_of_ble_eq_true rfl, _, rfl⟩, rfl, ⟨Nat.le_of_ble_eq_true rfl, _, rfl⟩, rfl⟩ | apply_assumption), by (first | exact ⟨rfl, ⟨Nat.le_of_ble_eq_true rfl, _, rfl⟩, rfl, ⟨Nat.le_of_ble_eq_true rfl, _, rfl⟩, rfl⟩ | apply_assumption)⟩ ?_); (first | refine ⟨fun _ => ?_, fun h => absurd (by (first | assumption | rfl | decide | omega)) h⟩ | refine ⟨fun h => absurd h (by (first | assumption | rfl | decide | omega)), fun _ => ?_⟩); ((conv => whnf))) | (refine callK_pure (by assumption) ?_; ((conv => whnf))) | (refine callK_of (by assumption) ?_; intro _ _ hk; cases hk with | intro h1 h2 => (subst h1; subst h2; ((conv => whnf)))) | (refine ⟨by first | decide | omega, ?_⟩; ((conv => whnf)))))
            refine last _ _ fun H' => ?_
            (conv => whnf)
            rfl
          · have q1 : ¬ ([PV.str aedu, .str (krb aedu)] = [.str aedu, .str ann]) := pne (by decide)
            have q2 : ¬ ([PV.str aedu, .str (krb aedu)] = [.str aedu, .str mail]) := pne (by decide)
            refine drawK_pure2 (by kernel_rfl) ?_
            (conv => whnf)
            (repeat (first | (apply Exists.intro; apply And.intro; (focus ((conv => whnf); first | exact ⟨rfl, rfl, trivial⟩ | (refine ⟨by omega, ?_⟩; (conv => whnf); exact ⟨rfl, rfl, trivial⟩))); (conv => whnf)) | (apply Exists.intro; apply And.intro; (focus ((conv => whnf); ((conv in (_[_]?) => tactic => first | with_reducible assumption | assumption); (conv => whnf)); (exact ⟨rfl, rfl, trivial⟩))); ((conv => whnf))) | (apply Exists.intro; apply And.intro; (focus ((conv => whnf); (try refine And.intro ⟨by (first | exact ⟨rfl, ⟨Nat.le_of_ble_eq_true rfl, _, rfl⟩, rfl, ⟨Nat.le_of_ble_eq_true rfl, _, rfl⟩, rfl⟩ | apply_assumption), by (first | exact ⟨rfl, ⟨Nat.le_of_ble_eq_true rfl, _, rfl⟩, rfl, ⟨Nat.le_of_ble_eq_true rfl, _, rfl⟩, rfl⟩ | apply_assumption)⟩ ?_); first | exact ⟨fun _ => ⟨rfl, rfl, trivial⟩, fun h => absurd (by (first | assumption | rfl | decide | omega)) h⟩ | exact ⟨fun h => absurd h (by (first | assumption | rfl | decide | omega)), fun _ => ⟨rfl, rfl, trivial⟩⟩)); ((conv => whnf))) | (apply Exists.intro; apply And.intro; (focus ((conv => whnf); refine callK_pure (by assumption) ?_; (exact ⟨rfl, rfl, trivial⟩))); ((conv => whnf))) | (apply Exists.intro; apply And.intro; (focus ((conv => whnf); refine callK_of (by assumption) ?_; intro _ _ hk; cases hk with | intro h1 h2 => (subst h1; subst h2; (exact ⟨rfl, rfl, trivial⟩)))); ((conv => whnf))) | (apply Exists.intro; apply And.intro; (focus ((conv => whnf); apply And.intro; (focus ((conv => whnf); first | exact ⟨rfl, rfl, trivial⟩ | (refine ⟨by omega, ?_⟩; (conv => whnf); exact ⟨rfl, rfl, trivial⟩))); ((conv => whnf); first | exact ⟨rfl, rfl, trivial⟩ | (refine ⟨by omega, ?_⟩; (conv => whnf); exact ⟨rfl, rfl, trivial⟩)))); (conv => whnf)) | (apply Exists.intro; apply And.intro; (focus ((conv => whnf); refine ⟨⟨⟨rfl, rfl, trivial⟩, get_last _ _⟩, ?_⟩; (conv => whnf); exact ⟨⟨rfl, rfl, trivial⟩, by assumption⟩)); ((conv => whnf))) | ((conv in (_[_]?) => tactic => first | with_reducible assumption | assumption); (conv => whnf)) | ((try refine And.intro ⟨by (first | exact ⟨rfl, ⟨Nat.le_of_ble_eq_true rfl, _, rfl⟩, rfl, ⟨Nat.le_of_ble_eq_true rfl, _, rfl⟩, rfl⟩ | apply_assumption), by (first | exact ⟨rfl, ⟨Nat.le_of_ble_eq_true rfl, _, rfl⟩, rfl, ⟨Nat.le_of_ble_eq_true rfl, _, rfl⟩, rfl⟩ | apply_assumption)⟩ ?_); (first | refine ⟨fun _ => ?_, fun h => absurd (by (first | assumption | rfl | decide | omega)) h⟩ | refine ⟨fun h => absurd h (by (first | assumption | rfl | decide | omega)), fun _ => ?_⟩); ((conv => whnf))) | (refine callK_pure (by assumption) ?_; ((conv => whnf))) | (refine callK_of (by assumption) ?_; intro _ _ hk; cases hk with | intro h1 h2 => (subst h1; subst h2; ((conv => whnf)))) | (refine ⟨by first | decide | omega, ?_⟩; ((conv => whnf)))))
            refine drawK_pure2 (by kernel_rfl) ?_
            (conv => whnf)
            (repeat (first | (apply Exists.intro; apply And.intro; (focus ((conv => whnf); first | exact ⟨rfl, rfl, trivial⟩ | (refine ⟨by omega, ?_⟩; (conv => whnf); exact ⟨rfl, rfl, trivial⟩))); (conv => whnf)) | (apply Exists.intro; apply And.intro; (focus ((conv => whnf); ((conv in (_[_]?) => tactic => first | with_reducible assumption | assumption); (conv => whnf)); (exact ⟨rfl, rfl, trivial⟩))); ((conv => whnf))) | (apply Exists.intro; apply And.intro; (focus ((conv => whnf); (try refine And.intro ⟨by (first | exact ⟨rfl, ⟨Nat.le_of_ble_eq_true rfl, _, rfl⟩, rfl, ⟨Nat.le_of_ble_eq_true rfl, _, rfl⟩, rfl⟩ | apply_assumption), by (first | exact ⟨rfl, ⟨Nat.le_of_ble_eq_true rfl, _, rfl⟩, rfl, ⟨Nat.le_of_ble_eq_true rfl, _, rfl⟩, rfl⟩ | apply_assumption)⟩ ?_); first | exact ⟨fun _ => ⟨rfl, rfl, trivial⟩, fun h => absurd (by (first | assumption | rfl | decide | omega)) h⟩ | exact ⟨fun h => absurd h (by (first | assumption | rfl | decide | omega)), fun _ => ⟨rfl, rfl, trivial⟩⟩)); ((conv => whnf))) | (apply Exists.intro; apply And.intro; (focus ((conv => whnf); refine callK_pure (by assumption) ?_; (exact ⟨rfl, rfl, trivial⟩))); ((conv => whnf))) | (apply Exists.intro; apply And.intro; (focus ((conv => whnf); refine callK_of (by assumption) ?_; intro _ _ hk; cases hk with | intro h1 h2 => (subst h1; subst h2; (exact ⟨rfl, rfl, trivial⟩)))); ((conv => whnf))) | (apply Exists.intro; apply And.intro; (focus ((conv => whnf); apply And.intro; (focus ((conv => whnf); first | exact ⟨rfl, rfl, trivial⟩ | (refine ⟨by omega, ?_⟩; (conv => whnf); exact ⟨rfl, rfl, trivial⟩))); ((conv => whnf); first | exact ⟨rfl, rfl, trivial⟩ | (refine ⟨by omega, ?_⟩; (conv => whnf); exact ⟨rfl, rfl, trivial⟩)))); (conv => whnf)) | (apply Exists.intro; apply And.intro; (focus ((conv => whnf); refine ⟨⟨⟨rfl, rfl, trivial⟩, get_last _ _⟩, ?_⟩; (conv => whnf); exact ⟨⟨rfl, rfl, trivial⟩, by assumption⟩)); ((conv => whnf))) | ((conv in (_[_]?) => tactic => first | with_reducible assumption | assumption); (conv => whnf)) | ((try refine And.intro ⟨by (first | exact ⟨rfl, ⟨Nat.le_of_ble_eq_true rfl, _, rfl⟩, rfl, ⟨Nat.le_of_ble_eq_true rfl, _, rfl⟩, rfl⟩ | apply_assumption), by (first | exact ⟨rfl, ⟨Nat.le_of_ble_eq_true rfl, _, rfl⟩, rfl, ⟨Nat.le_of_ble_eq_true rfl, _, rfl⟩, rfl⟩ | apply_assumption)⟩ ?_); (first | refine ⟨fun _ => ?_, fun h => absurd (by (first | assumption | rfl | decide | omega)) h⟩ | refine ⟨fun h => absurd h (by (first | assumption | rfl | decide | omega)), fun _ => ?_⟩); ((conv => whnf))) | (refine callK_pure (by assumption) ?_; ((conv => whnf))) | (refine callK_of (by assumption) ?_; intro _ _ hk; cases hk with | intro h1 h2 => (subst h1; subst h2; ((conv => whnf)))) | (refine ⟨by first | decide | omega, ?_⟩; ((conv => whnf)))))
            refine last _ _ fun H' => ?_
            (conv => whnf)
            rfl
          · have q1 : ¬ ([PV.str aedu, .str (krb edu)] = [.str aedu, .str ann]) := pne (by decide)
            have q2 : ¬ ([PV.str aedu, .str (krb edu)] = [.str aedu, .str mail]) := pne (by decide)
            have q3 : ¬ ([PV.str aedu, .str (krb edu)] = [.str aedu, .str (krb aedu)]) := pne (by decide)
            refine drawK_pure2 (by kernel_rfl) ?_
            (conv => whnf)
            (repeat (first | (apply Exists.intro; apply And.intro; (focus ((conv => whnf); first | exact ⟨rfl, rfl, trivial⟩ | (refine ⟨by omega, ?_⟩; (conv => whnf); exact ⟨rfl, rfl, trivial⟩))); (conv => whnf)) | (apply Exists.intro; apply And.intro; (focus ((conv => whnf); ((conv in (_[_]?) => tactic => first | with_reducible assumption | assumption); (conv => whnf)); (exact ⟨rfl, rfl, trivial⟩))); ((conv => whnf))) | (apply Exists.intro; apply And.intro; (focus ((conv => whnf); (try refine And.intro ⟨by (first | exact ⟨rfl, ⟨Nat.le_of_ble_eq_true rfl, _, rfl⟩, rfl, ⟨Nat.le_of_ble_eq_true rfl, _, rfl⟩, rfl⟩ | apply_assumption), by (first | exact ⟨rfl, ⟨Nat.le_of_ble_eq_true rfl, _, rfl⟩, rfl, ⟨Nat.le_of_ble_eq_true rfl, _, rfl⟩, rfl⟩ | apply_assumption)⟩ ?_); first | exact ⟨fun _ => ⟨rfl, rfl, trivial⟩, fun h => absurd (by (first | assumption | rfl | decide | omega)) h⟩ | exact ⟨fun h => absurd h (by (first | assumption | rfl | decide | omega)), fun _ => ⟨rfl, rfl, trivial⟩⟩)); ((conv => whnf))) | (apply Exists.intro; apply And.intro; (focus ((conv => whnf); refine callK_pure (by assumption) ?_; (exact ⟨rfl, rfl, trivial⟩))); ((conv => whnf))) | (apply Exists.intro; apply And.intro; (focus ((conv => whnf); refine callK_of (by assumption) ?_; intro _ _ hk; cases hk with | intro h1 h2 => (subst h1; subst h2; (exact ⟨rfl, rfl, trivial⟩)))); ((conv => whnf))) | (apply Exists.intro; apply And.intro; (focus ((conv => whnf); apply And.intro; (focus ((conv => whnf); first | exact ⟨rfl, rfl, trivial⟩ | (refine ⟨by omega, ?_⟩; (conv => whnf); exact ⟨rfl, rfl, trivial⟩))); ((conv => whnf); first | exact ⟨rfl, rfl, trivial⟩ | (refine ⟨by omega, ?_⟩; (conv => whnf); exact ⟨rfl, rfl, trivial⟩)))); (conv => whnf)) | (apply Exists.intro; apply And.intro; (focus ((conv => whnf); refine ⟨⟨⟨rfl, rfl, trivial⟩, get_last _ _⟩, ?_⟩; (conv => whnf); exact ⟨⟨rfl, rfl, trivial⟩, by assumption⟩)); ((conv => whnf))) | ((conv in (_[_]?) => tactic => first | with_reducible assumption | assumption); (conv => whnf)) | ((try refine And.intro ⟨by (first | exact ⟨rfl, ⟨Nat.le_of_ble_eq_true rfl, _, rfl⟩, rfl, ⟨Nat.le_of_ble_eq_true rfl, _, rfl⟩, rfl⟩ | apply_assumption), by (first | exact ⟨rfl, ⟨Nat.le_of_ble_eq_true rfl, _, rfl⟩, rfl, ⟨Nat.le_of_ble_eq_true rfl, _, rfl⟩, rfl⟩ | apply_assumption)⟩ ?_); (first | refine ⟨fun _ => ?_, fun h => absurd (by (first | assumption | rfl | decide | omega)) h⟩ | refine ⟨fun h => absurd h (by (first | assumption | rfl | decide | omega)), fun _ => ?_⟩); ((conv => whnf))) | (refine callK_pure (by assumption) ?_; ((conv => whnf))) | (refine callK_of (by assumption) ?_; intro _ _ hk; cases hk with | intro h1 h2 => (subst h1; subst h2; ((conv => whnf)))) | (refine ⟨by first | decide | omega, ?_⟩; ((conv => whnf)))))
            refine drawK_pure2 (by kernel_rfl) ?_
            (conv => whnf)
            (repeat (first | (apply Exists.intro; apply And.intro; (focus ((conv => whnf); first | exact ⟨rfl, rfl, trivial⟩ | (refine ⟨by omega, ?_⟩; (conv => whnf); exact ⟨rfl, rfl, trivial⟩))); (conv => whnf)) | (apply Exists.intro; apply And.intro; (focus ((conv => whnf); ((conv in (_[_]?) => tactic => first | with_reducible assumption | assumption); (conv => whnf)); (exact ⟨rfl, rfl, trivial⟩))); ((conv => whnf))) | (apply Exists.intro; apply And.intro; (focus ((conv => whnf); (try refine And.intro ⟨by (first | exact ⟨rfl, ⟨Nat.le_of_ble_eq_true rfl, _, rfl⟩, rfl, ⟨Nat.le_of_ble_eq_true rfl, _, rfl⟩, rfl⟩ | apply_assumption), by (first | exact ⟨rfl, ⟨Nat.le_of_ble_eq_true rfl, _, rfl⟩, rfl, ⟨Nat.le_of_ble_eq_true rfl, _, rfl⟩, rfl⟩ | apply_assumption)⟩ ?_); first | exact ⟨fun _ => ⟨rfl, rfl, trivial⟩, fun h => absurd (by (first | assumption | rfl | decide | omega)) h⟩ | exact ⟨fun h => absurd h (by (first | assumption | rfl | decide | omega)), fun _ => ⟨rfl, rfl, trivial⟩⟩)); ((conv => whnf))) | (apply Exists.intro; apply And.intro; (focus ((conv => whnf); refine callK_pure (by assumption) ?_; (exact ⟨rfl, rfl, trivial⟩))); ((conv => whnf))) | (apply Exists.intro; apply And.intro; (focus ((conv => whnf); refine callK_of (by assumption) ?_; intro _ _ hk; cases hk with | intro h1 h2 => (subst h1; subst h2; (exact ⟨rfl, rfl, trivial⟩)))); ((conv => whnf))) | (apply Exists.intro; apply And.intro; (focus ((conv => whnf); apply And.intro; (focus ((conv => whnf); first | exact ⟨rfl, rfl, trivial⟩ | (refine ⟨by omega, ?_⟩; (conv => whnf); exact ⟨rfl, rfl, trivial⟩))); ((conv => whnf); first | exact ⟨rfl, rfl, trivial⟩ | (refine ⟨by omega, ?_⟩; (conv => whnf); exact ⟨rfl, rfl, trivial⟩)))); (conv => whnf)) | (apply Exists.intro; apply And.intro; (focus ((conv => whnf); refine ⟨⟨⟨rfl, rfl, trivial⟩, get_last _ _⟩, ?_⟩; (conv => whnf); exact ⟨⟨rfl, rfl, trivial⟩, by assumption⟩)); ((conv => whnf))) | ((conv in (_[_]?) => tactic => first | with_reducible assumption | assumption); (conv => whnf)) | ((try refine And.intro ⟨by (first | exact ⟨rfl, ⟨Nat.le_of_ble_eq_true rfl, _, rfl⟩, rfl, ⟨Nat.le_of_ble_eq_true rfl, _, rfl⟩, rfl⟩ | apply_assumption), by (first | exact ⟨rfl, ⟨Nat.le_of_ble_eq_true rfl, _, rfl⟩, rfl, ⟨Nat.le_of_ble_eq_true rfl, _, rfl⟩, rfl⟩ | apply_assumption)⟩ ?_); (first | refine ⟨fun _ => ?_, fun h => absurd (by (first | assumption | rfl | decide | omega)) h⟩ | refine ⟨fun h => absurd h (by (first | assumption | rfl | decide | omega)), fun _ => ?_⟩); ((conv => whnf))) | (refine callK_pure (by assumption) ?_; ((conv => whnf))) | (refine callK_of (by assumption) ?_; intro _ _ hk; cases hk with | intro h1 h2 => (subst h1; subst h2; ((conv => whnf)))) | (refine ⟨by first | decide | omega, ?_⟩; ((conv => whnf)))))
            refine last _ _ fun H' => ?_
            (conv => whnf)
            rfl
        · have hA := hA2 hk h2
          have q0 : ¬ ([PV.str r2, .str n2] = [.str aedu, .str (krb aedu)]) := pne h2
          obtain ⟨_, rfl | rfl | rfl | rfl⟩ := hk
          · refine drawK_pure2 (by kernel_rfl) ?_
            (conv => whnf)
            (repeat (first | (apply Exists.intro; apply And.intro; (focus ((conv => whnf); first | exact ⟨rfl, rfl, trivial⟩ | (refine ⟨by omega, ?_⟩; (conv => whnf); exact ⟨rfl, rfl, trivial⟩))); (conv => whnf)) | (apply Exists.intro; apply And.intro; (focus ((conv => whnf); ((conv in (_[_]?) => tactic => first | with_reducible assumption | assumption); (conv => whnf)); (exact ⟨rfl, rfl, trivial⟩))); ((conv => whnf))) | (apply Exists.intro; apply And.intro; (focus ((conv => whnf); (try refine And.intro ⟨by (first | exact ⟨rfl, ⟨Nat.le_of_ble_eq_true rfl, _, rfl⟩, rfl, ⟨Nat.le_of_ble_eq_true rfl, _, rfl⟩, rfl⟩ | apply_assumption), by (first | exact ⟨rfl, ⟨Nat.le_of_ble_eq_true rfl, _, rfl⟩, rfl, ⟨Nat.le_of_ble_eq_true rfl, _, rfl⟩, rfl⟩ | apply_assumption)⟩ ?_); first | exact ⟨fun _ => ⟨rfl, rfl, trivial⟩, fun h => absurd (by (first | assumption | rfl | decide | omega)) h⟩ | exact ⟨fun h => absurd h (by (first | assumption | rfl | decide | omega)), fun _ => ⟨rfl, rfl, trivial⟩⟩)); ((conv => whnf))) | (apply Exists.intro; apply And.intro; (focus ((conv => whnf); refine callK_pure (by assumption) ?_; (exact ⟨rfl, rfl, trivial⟩))); ((conv => whnf))) | (apply Exists.intro; apply And.intro; (focus ((conv => whnf); refine callK_of (by assumption) ?_; intro _ _ hk; cases hk with | intro h1 h2 => (subst h1; subst h2; (exact ⟨rfl, rfl, trivial⟩)))); ((conv => whnf))) | (apply Exists.intro; apply And.intro; (focus ((conv => whnf); apply And.intro; (focus ((conv => whnf); first | exact ⟨rfl, rfl, trivial⟩ | (refine ⟨by omega, ?_⟩; (conv => whnf); exact ⟨rfl, rfl, trivial⟩))); ((conv => whnf); first | exact ⟨rfl, rfl, trivial⟩ | (refine ⟨by omega, ?_⟩; (conv => whnf); exact ⟨rfl, rfl, trivial⟩)))); (conv => whnf)) | (apply Exists.intro; apply And.intro; (focus ((conv => whnf); refine ⟨⟨⟨rfl, rfl, trivial⟩, get_last _ _⟩, ?_⟩; (conv => whnf); exact ⟨⟨rfl, rfl, trivial⟩, by assumption⟩)); ((conv => whnf))) | ((conv in (_[_]?) => tactic => first | with_reducible assumption | assumption); (conv => whnf)) | ((try refine And.intro ⟨by (first | exact ⟨rfl, ⟨Nat.le_of_ble_eq_true rfl, _, rfl⟩, rfl, ⟨Nat.le_of_ble_eq_true rfl, _, rfl⟩, rfl⟩ | apply_assumption), by (first | exact ⟨rfl, ⟨Nat.le_of_ble_eq_true rfl, _, rfl⟩, rfl, ⟨Nat.le_of_ble_eq_true rfl, _, rfl⟩, rfl⟩ | apply_assumption)⟩ ?_); (first | refine ⟨fun _ => ?_, fun h => absurd (by (first | assumption | rfl | decide | omega)) h⟩ | refine ⟨fun h => absurd h (by (first | assumption | rfl | decide | omega)), fun _ => ?_⟩); ((conv => whnf))) | (refine callK_pure (by assumption) ?_; ((conv => whnf))) | (refine callK_of (by assumption) ?_; intro _ _ hk; cases hk with | intro h1 h2 => (subst h1; subst h2; ((conv => whnf)))) | (refine ⟨by first | decide | omega, ?_⟩; ((conv => whnf)))))
            refine drawK_pure2 (by kernel_rfl) ?_
            (conv => whnf)
            (repeat (first | (apply Exists.intro; apply And.intro; (focus ((conv => whnf); first | exact ⟨rfl, rfl, trivial⟩ | (refine ⟨by omega, ?_⟩; (conv => whnf); exact ⟨rfl, rfl, trivial⟩))); (conv => whnf)) | (apply Exists.intro; apply And.intro; (focus ((conv => whnf); ((conv in (_[_]?) => tactic => first | with_reducible assumption | assumption); (conv => whnf)); (exact ⟨rfl, rfl, trivial⟩))); ((conv => whnf))) | (apply Exists.intro; apply And.intro; (focus ((conv => whnf); (try refine And.intro ⟨by (first | exact ⟨rfl, ⟨Nat.le_of_ble_eq_true rfl, _, rfl⟩, rfl, ⟨Nat.le_of_ble_eq_true rfl, _, rfl⟩, rfl⟩ | apply_assumption), by (first | exact ⟨rfl, ⟨Nat.le_of_ble_eq_true rfl, _, rfl⟩, rfl, ⟨Nat.le_of_ble_eq_true rfl, _, rfl⟩, rfl⟩ | apply_assumption)⟩ ?_); first | exact ⟨fun _ => ⟨rfl, rfl, trivial⟩, fun h => absurd (by (first | assumption | rfl | decide | omega)) h⟩ | exact ⟨fun h => absurd h (by (first | assumption | rfl | decide | omega)), fun _ => ⟨rfl, rfl, trivial⟩⟩)); ((conv => whnf))) | (apply Exists.intro; apply And.intro; (focus ((conv => whnf); refine callK_pure (by assumption) ?_; (exact ⟨rfl, rfl, trivial⟩))); ((conv => whnf))) | (apply Exists.intro; apply And.intro; (focus ((conv => whnf); refine callK_of (by assumption) ?_; intro _ _ hk; cases hk with | intro h1 h2 => (subst h1; subst h2; (exact ⟨rfl, rfl, trivial⟩)))); ((conv => whnf))) | (apply Exists.intro; apply And.intro; (focus ((conv => whnf); apply And.intro; (focus ((conv => whnf); first | exact ⟨rfl, rfl, trivial⟩ | (refine ⟨by omega, ?_⟩; (conv => whnf); exact ⟨rfl, rfl, trivial⟩))); ((conv => whnf); first | exact ⟨rfl, rfl, trivial⟩ | (refine ⟨by omega, ?_⟩; (conv => whnf); exact ⟨rfl, rfl, trivial⟩)))); (conv => whnf)) | (apply Exists.intro; apply And.intro; (focus ((conv => whnf); refine ⟨⟨⟨rfl, rfl, trivial⟩, get_last _ _⟩, ?_⟩; (conv => whnf); exact ⟨⟨rfl, rfl, trivial⟩, by assumption⟩)); ((conv => whnf))) | ((conv in (_[_]?) => tactic => first | with_reducible assumption | assumption); (conv => whnf)) | ((try refine And.intro ⟨by (first | exact ⟨rfl, ⟨Nat.le_of_ble_eq_true rfl, _, rfl⟩, rfl, ⟨Nat.le_of_ble_eq_true rfl, _, rfl⟩, rfl⟩ | apply_assumption), by (first | exact ⟨rfl, ⟨Nat.le_of_ble_eq_true rfl, _, rfl⟩, rfl, ⟨Nat.le_of_ble_eq_true rfl, _, rfl⟩, rfl⟩ | apply_assumption)⟩ ?_); (first | refine ⟨fun _ => ?_, fun h => absurd (by (first | assumption | rfl | decide | omega)) h⟩ | refine ⟨fun h => absurd h (by (first | assumption | rfl | decide | omega)), fun _ => ?_⟩); ((conv => whnf))) | (refine callK_pure (by assumption) ?_; ((conv => whnf))) | (refine callK_of (by assumption) ?_; intro _ _ hk; cases hk with | intro h1 h2 => (subst h1; subst h2; ((conv => whnf)))) | (refine ⟨by first | decide | omega, ?_⟩; ((conv => whnf)))))
            refine last _ _ fun H' => ?_
            (conv => whnf)
            rfl
          · have q1 : ¬ ([PV.str aedu, .str mail] = [.str aedu, .str ann]) := pne (by decide)
            refine drawK_pure2 (by kernel_rfl) ?_
            (conv => whnf)
            (repeat (first | (apply Exists.intro; apply And.intro; (focus ((conv => whnf); first | exact ⟨rfl, rfl, trivial⟩ | (refine ⟨by omega, ?_⟩; (conv => whnf); exact ⟨rfl, rfl, trivial⟩))); (conv => whnf)) | (apply Exists.intro; apply And.intro; (focus ((conv => whnf); ((conv in (_[_]?) => tactic => first | with_reducible assumption | assumption); (conv => whnf)); (exact ⟨rfl, rfl, trivial⟩))); ((conv => whnf))) | (apply Exists.intro; apply And.intro; (focus ((conv => whnf); (try refine And.intro ⟨by (first | exact ⟨rfl, ⟨Nat.le_of_ble_eq_true rfl, _, rfl⟩, rfl, ⟨Nat.le_of_ble_eq_true rfl, _, rfl⟩, rfl⟩ | apply_assumption), by (first | exact ⟨rfl, ⟨Nat.le_of_ble_eq_true rfl, _, rfl⟩, rfl, ⟨Nat.le_of_ble_eq_true rfl, _, rfl⟩, rfl⟩ | apply_assumption)⟩ ?_); first | exact ⟨fun _ => ⟨rfl, rfl, trivial⟩, fun h => absurd (by (first | assumption | rfl | decide | omega)) h⟩ | exact ⟨fun h => absurd h (by (first | assumption | rfl | decide | omega)), fun _ => ⟨rfl, rfl, trivial⟩⟩)); ((conv => whnf))) | (apply Exists.intro; apply And.intro; (focus ((conv => whnf); refine callK_pure (by assumption) ?_; (exact ⟨rfl, rfl, trivial⟩))); ((conv => whnf))) | (apply Exists.intro; apply And.intro; (focus ((conv => whnf); refine callK_of (by assumption) ?_; intro _ _ hk; cases hk with | intro h1 h2 => (subst h1; subst h2; (exact ⟨rfl, rfl, trivial⟩)))); ((conv => whnf))) | (apply Exists.intro; apply And.intro; (focus ((conv => whnf); apply And.intro; (focus ((conv => whnf); first | exact ⟨rfl, rfl, trivial⟩ | (refine ⟨by omega, ?_⟩; (conv => whnf); exact ⟨rfl, rfl, trivial⟩))); ((conv => whnf); first | exact ⟨rfl, rfl, trivial⟩ | (refine ⟨by omega, ?_⟩; (conv => whnf); exact ⟨rfl, rfl, trivial⟩)))); (conv => whnf)) | (apply Exists.intro; apply And.intro; (focus ((conv => whnf); refine ⟨⟨⟨rfl, rfl, trivial⟩, get_last _ _⟩, ?_⟩; (conv => whnf); exact ⟨⟨rfl, rfl, trivial⟩, by assumption⟩)); ((conv => whnf))) | ((conv in (_[_]?) => tactic => first | with_reducible assumption | assumption); (conv => whnf)) | ((try refine And.intro ⟨by (first | exact ⟨rfl, ⟨Nat.le_of_ble_eq_true rfl, _, rfl⟩, rfl, ⟨Nat.le_of_ble_eq_true rfl, _, rfl⟩, rfl⟩ | apply_assumption), by (first | exact ⟨rfl, ⟨Nat.le_of_ble_eq_true rfl, _, rfl⟩, rfl, ⟨Nat.le_of_ble_eq_true rfl, _, rfl⟩, rfl⟩ | apply_assumption)⟩ ?_); (first | refine ⟨fun _ => ?_, fun h => absurd (by (first | assumption | rfl | decide | omega)) h⟩ | refine ⟨fun h => absurd h (by (first | assumption | rfl | decide | omega)), fun _ => ?_⟩); ((conv => whnf))) | (refine callK_pure (by assumption) ?_; ((conv => whnf))) | (refine callK_of (by assumption) ?_; intro _ _ hk; cases hk with | intro h1 h2 => (subst h1; subst h2; ((conv => whnf)))) | (refine ⟨by first | decide | omega, ?_⟩; ((conv => whnf)))))
            refine drawK_pure2 (by kernel_rfl) ?_
            (conv => whnf)
            (repeat (first | (apply Exists.intro; apply And.intro; (focus ((conv => whnf); first | exact ⟨rfl, rfl, trivial⟩ | (refine ⟨by omega, ?_⟩; (conv => whnf); exact ⟨rfl, rfl, trivial⟩))); (conv => whnf)) | (apply Exists.intro; apply And.intro; (focus ((conv => whnf); ((conv in (_[_]?) => tactic => first | with_reducible assumption | assumption); (conv => whnf)); (exact ⟨rfl, rfl, trivial⟩))); ((conv => whnf))) | (apply Exists.intro; apply And.intro; (focus ((conv => whnf); (try refine And.intro ⟨by (first | exact ⟨rfl, ⟨Nat.le_of_ble_eq_true rfl, _, rfl⟩, rfl, ⟨Nat.le_of_ble_eq_true rfl, _, rfl⟩, rfl⟩ | apply_assumption), by (first | exact ⟨rfl, ⟨Nat.le_of_ble_eq_true rfl, _, rfl⟩, rfl, ⟨Nat.le_of_ble_eq_true rfl, _, rfl⟩, rfl⟩ | apply_assumption)⟩ ?_); first | exact ⟨fun _ => ⟨rfl, rfl, trivial⟩, fun h => absurd (by (first | assumption | rfl | decide | omega)) h⟩ | exact ⟨fun h => absurd h (by (first | assumption | rfl | decide | omega)), fun _ => ⟨rfl, rfl, trivial⟩⟩)); ((conv => whnf))) | (apply Exists.intro; apply And.intro; (focus ((conv => whnf); refine callK_pure (by assumption) ?_; (exact ⟨rfl, rfl, trivial⟩))); ((conv => whnf))) | (apply Exists.intro; apply And.intro; (focus ((conv => whnf); refine callK_of (by assumption) ?_; intro _ _ hk; cases hk with | intro h1 h2 => (subst h1; subst h2; (exact ⟨rfl, rfl, trivial⟩)))); ((conv => whnf))) | (apply Exists.intro; apply And.intro; (focus ((conv => whnf); apply And.intro; (focus ((conv => whnf); first | exact ⟨rfl, rfl, trivial⟩ | (refine ⟨by omega, ?_⟩; (conv => whnf); exact ⟨rfl, rfl, trivial⟩))); ((conv => whnf); first | exact ⟨rfl, rfl, trivial⟩ | (refine ⟨by omega, ?_⟩; (conv => whnf); exact ⟨rfl, rfl, trivial⟩)))); (conv => whnf)) | (apply Exists.intro; apply And.intro; (focus ((conv => whnf); refine ⟨⟨⟨rfl, rfl, trivial⟩, get_last _ _⟩, ?_⟩; (conv => whnf); exact ⟨⟨rfl, rfl, trivial⟩, by assumption⟩)); ((conv => whnf))) | ((conv in (_[_]?) => tactic => first | with_reducible assumption | assumption); (conv => whnf)) | ((try refine And.intro ⟨by (first | exact ⟨rfl, ⟨Nat.le_of_ble_eq_true rfl, _, rfl⟩, rfl, ⟨Nat.le_of_ble_eq_true rfl, _, rfl⟩, rfl⟩ | apply_assumption), by (first | exact ⟨rfl, ⟨Nat.le_of_ble_eq_true rfl, _, rfl⟩, rfl, ⟨Nat.le_of_ble_eq_true rfl, _, rfl⟩, rfl⟩ | apply_assumption)⟩ ?_); (first | refine ⟨fun _ => ?_, fun h => absurd (by (first | assumption | rfl | decide | omega)) h⟩ | refine ⟨fun h => absurd h (by (first | assumption | rfl | decide | omega)), fun _ => ?_⟩); ((conv => whnf))) | (refine callK_pure (by assumption) ?_; ((conv => whnf))) | (refine callK_of (by assumption) ?_; intro _ _ hk; cases hk with | intro h1 h2 => (subst h1; subst h2; ((conv => whnf)))) | (refine ⟨by first | decide | omega, ?_⟩; ((conv => whnf)))))
            refine last _ _ fun H' => ?_
            (conv => whnf)
            rfl
          · have q1 : ¬ ([PV.str aedu, .str (krb aedu)] = [.str aedu, .str ann]) := pne (by decide)
            have q2 : ¬ ([PV.str aedu, .str (krb aedu)] = [.str aedu, .str mail]) := pne (by decide)
            refine drawK_pure2 (by kernel_rfl) ?_
            (conv => whnf)
            (repeat (first | (apply Exists.intro; apply And.intro; (focus ((conv => whnf); first | exact ⟨rfl, rfl, trivial⟩ | (refine ⟨by omega, ?_⟩; (conv => whnf); exact ⟨rfl, rfl, trivial⟩))); (conv => whnf)) | (apply Exists.intro; apply And.intro; (focus ((conv => whnf); ((conv in (_[_]?) => tactic => first | with_reducible assumption | assumption); (conv => whnf)); (exact ⟨rfl, rfl, trivial⟩))); ((conv => whnf))) | (apply Exists.intro; apply And.intro; (focus ((conv => whnf); (try refine And.intro ⟨by (first | exact ⟨rfl, ⟨Nat.le_of_ble_eq_true rfl, _, rfl⟩, rfl, ⟨Nat.le_of_ble_eq_true rfl, _, rfl⟩, rfl⟩ | apply_assumption), by (first | exact ⟨rfl, ⟨Nat.le_of_ble_eq_true rfl, _, rfl⟩, rfl, ⟨Nat.le_of_ble_eq_true rfl, _, rfl⟩, rfl⟩ | apply_assumption)⟩ ?_); first | exact ⟨fun _ => ⟨rfl, rfl, trivial⟩, fun h => absurd (by (first | assumption | rfl | decide | omega)) h⟩ | exact ⟨fun h => absurd h (by (first | assumption | rfl | decide | omega)), fun _ => ⟨rfl, rfl, trivial⟩⟩)); ((conv => whnf))) | (apply Exists.intro; apply And.intro; (focus ((conv => whnf); refine callK_pure (by assumption) ?_; (exact ⟨rfl, rfl, trivial⟩))); ((conv => whnf))) | (apply Exists.intro; apply And.intro; (focus ((conv => whnf); refine callK_of (by assumption) ?_; intro _ _ hk; cases hk with | intro h1 h2 => (subst h1; subst h2; (exact ⟨rfl, rfl, trivial⟩)))); ((conv => whnf))) | (apply Exists.intro; apply And.intro; (focus ((conv => whnf); apply And.intro; (focus ((conv => whnf); first | exact ⟨rfl, rfl, trivial⟩ | (refine ⟨by omega, ?_⟩; (conv => whnf); exact ⟨rfl, rfl, trivial⟩))); ((conv => whnf); first | exact ⟨rfl, rfl, trivial⟩ | (refine ⟨by omega, ?_⟩; (conv => whnf); exact ⟨rfl, rfl, trivial⟩)))); (conv => whnf)) | (apply Exists.intro; apply And.intro; (focus ((conv => whnf); refine ⟨⟨⟨rfl, rfl, trivial⟩, get_last _ _⟩, ?_⟩; (conv => whnf); exact ⟨⟨rfl, rfl, trivial⟩, by assumption⟩)); ((conv => whnf))) | ((conv in (_[_]?) => tactic => first | with_reducible assumption | assumption); (conv => whnf)) | ((try refine And.intro ⟨by (first | exact ⟨rfl, ⟨Nat.le_of_ble_eq_true rfl, _, rfl⟩, rfl, ⟨Nat.le_of_ble_eq_true rfl, _, rfl⟩, rfl⟩ | apply_assumption), by (first | exact ⟨rfl, ⟨Nat.le_of_ble_eq_true rfl, _, rfl⟩, rfl, ⟨Nat.le_of_ble_eq_true rfl, _, rfl⟩, rfl⟩ | apply_assumption)⟩ ?_); (first | refine ⟨fun _ => ?_, fun h => absurd (by (first | assumption | rfl | decide | omega)) h⟩ | refine ⟨fun h => absurd h (by (first | assumption | rfl | decide | omega)), fun _ => ?_⟩); ((conv => whnf))) | (refine callK_pure (by assumption) ?_; ((conv => whnf))) | (refine callK_of (by assumption) ?_; intro _ _ hk; cases hk with | intro h1 h2 => (subst h1; subst h2; ((conv => whnf)))) | (refine ⟨by first | decide | omega, ?_⟩; ((conv => whnf)))))
            refine drawK_pure2 (by kernel_rfl) ?_
            (conv => whnf)
            (repeat (first | (apply Exists.intro; apply And.intro; (focus ((conv => whnf); first | exact ⟨rfl, rfl, trivial⟩ | (refine ⟨by omega, ?_⟩; (conv => whnf); exact ⟨rfl, rfl, trivial⟩))); (conv => whnf)) | (apply Exists.intro; apply And.intro; (focus ((conv => whnf); ((conv in (_[_]?) => tactic => first | with_reducible assumption | assumption); (conv => whnf)); (exact ⟨rfl, rfl, trivial⟩))); ((conv => whnf))) | (apply Exists.intro; apply And.intro; (focus ((conv => whnf); (try refine And.intro ⟨by (first | exact ⟨rfl, ⟨Nat.le_of_ble_eq_true rfl, _, rfl⟩, rfl, ⟨Nat.le_of_ble_eq_true rfl, _, rfl⟩, rfl⟩ | apply_assumption), by (first | exact ⟨rfl, ⟨Nat.le_of_ble_eq_true rfl, _, rfl⟩, rfl, ⟨Nat.le_of_ble_eq_true rfl, _, rfl⟩, rfl⟩ | apply_assumption)⟩ ?_); first | exact ⟨fun _ => ⟨rfl, rfl, trivial⟩, fun h => absurd (by (first | assumption | rfl | decide | omega)) h⟩ | exact ⟨fun h => absurd h (by (first | assumption | rfl | decide | omega)), fun _ => ⟨rfl, rfl, trivial⟩⟩)); ((conv => whnf))) | (apply Exists.intro; apply And.intro; (focus ((conv => whnf); refine callK_pure (by assumption) ?_; (exact ⟨rfl, rfl, trivial⟩))); ((conv => whnf))) | (apply Exists.intro; apply And.intro; (focus ((conv => whnf); refine callK_of (by assumption) ?_; intro _ _ hk; cases hk with | intro h1 h2 => (subst h1; subst h2; (exact ⟨rfl, rfl, trivial⟩)))); ((conv => whnf))) | (apply Exists.intro; apply And.intro; (focus ((conv => whnf); apply And.intro; (focus ((conv => whnf); first | exact ⟨rfl, rfl, trivial⟩ | (refine ⟨by omega, ?_⟩; (conv => whnf); exact ⟨rfl, rfl, trivial⟩))); ((conv => whnf); first | exact ⟨rfl, rfl, trivial⟩ | (refine ⟨by omega, ?_⟩; (conv => whnf); exact ⟨rfl, rfl, trivial⟩)))); (conv => whnf)) | (apply Exists.intro; apply And.intro; (focus ((conv => whnf); refine ⟨⟨⟨rfl, rfl, trivial⟩, get_last _ _⟩, ?_⟩; (conv => whnf); exact ⟨⟨rfl, rfl, trivial⟩, by assumption⟩)); ((conv => whnf))) | ((conv in (_[_]?) => tactic => first | with_reducible assumption | assumption); (conv => whnf)) | ((try refine And.intro ⟨by (first | exact ⟨rfl, ⟨Nat.le_of_ble_eq_true rfl, _, rfl⟩, rfl, ⟨Nat.le_of_ble_eq_true rfl, _, rfl⟩, rfl⟩ | apply_assumption), by (first | exact ⟨rfl, ⟨Nat.le_of_ble_eq_true rfl, _, rfl⟩, rfl, ⟨Nat.le_of_ble_eq_true rfl, _, rfl⟩, rfl⟩ | apply_assumption)⟩ ?_); (first | refine ⟨fun _ => ?_, fun h => absurd (by (first | assumption | rfl | decide | omega)) h⟩ | refine ⟨fun h => absurd h (by (first | assumption | rfl | decide | omega)), fun _ => ?_⟩); ((conv => whnf))) | (refine callK_pure (by assumption) ?_; ((conv => whnf))) | (refine callK_of (by assumption) ?_; intro _ _ hk; cases hk with | intro h1 h2 => (subst h1; subst h2; ((conv => whnf)))) | (refine ⟨by first | decide | omega, ?_⟩; ((conv => whnf)))))
            refine last _ _ fun H' => ?_
            (conv => whnf)
            rfl
          · have q1 : ¬ ([PV.str aedu, .str (krb edu)] = [.str aedu, .str ann]) := pne (by decide)
            have q2 : ¬ ([PV.str aedu, .str (krb edu)] = [.str aedu, .str mail]) := pne (by decide)
            have q3 : ¬ ([PV.str aedu, .str (krb edu)] = [.str aedu, .str (krb aedu)]) := pne (by decide)
            refine drawK_pure2 (by kernel_rfl) ?_
            (conv => whnf)
            (repeat (first | (apply Exists.intro; apply And.intro; (focus ((conv => whnf); first | exact ⟨rfl, rfl, trivial⟩ | (refine ⟨by omega, ?_⟩; (conv => whnf); exact ⟨rfl, rfl, trivial⟩))); (conv => whnf)) | (apply Exists.intro; apply And.intro; (focus ((conv => whnf); ((conv in (_[_]?) => tactic => first | with_reducible assumption | assumption); (conv => whnf)); (exact ⟨rfl, rfl, trivial⟩))); ((conv => whnf))) | (apply Exists.intro; apply And.intro; (focus ((conv => whnf); (try refine And.intro ⟨by (first | exact ⟨rfl, ⟨Nat.le_of_ble_eq_true rfl, _, rfl⟩, rfl, ⟨Nat.le_of_ble_eq_true rfl, _, rfl⟩, rfl⟩ | apply_assumption), by (first | exact ⟨rfl, ⟨Nat.le_of_ble_eq_true rfl, _, rfl⟩, rfl, ⟨Nat.le_of_ble_eq_true rfl, _, rfl⟩, rfl⟩ | apply_assumption)⟩ ?_); first | exact ⟨fun _ => ⟨rfl, rfl, trivial⟩, fun h => absurd (by (first | assumption | rfl | decide | omega)) h⟩ | exact ⟨fun h => absurd h (by (first | assumption | rfl | decide | omega)), fun _ => ⟨rfl, rfl, trivial⟩⟩)); ((conv => whnf))) | (apply Exists.intro; apply And.intro; (focus ((conv => whnf); refine callK_pure (by assumption) ?_; (exact ⟨rfl, rfl, trivial⟩))); ((conv => whnf))) | (apply Exists.intro; apply And.intro; (focus ((conv => whnf); refine callK_of (by assumption) ?_; intro _ _ hk; cases hk with | intro h1 h2 => (subst h1; subst h2; (exact ⟨rfl, rfl, trivial⟩)))); ((conv => whnf))) | (apply Exists.intro; apply And.intro; (focus ((conv => whnf); apply And.intro; (focus ((conv => whnf); first | exact ⟨rfl, rfl, trivial⟩ | (refine ⟨by omega, ?_⟩; (conv => whnf); exact ⟨rfl, rfl, trivial⟩))); ((conv => whnf); first | exact ⟨rfl, rfl, trivial⟩ | (refine ⟨by omega, ?_⟩; (conv => whnf); exact ⟨rfl, rfl, trivial⟩)))); (conv => whnf)) | (apply Exists.intro; apply And.intro; (focus ((conv => whnf); refine ⟨⟨⟨rfl, rfl, trivial⟩, get_last _ _⟩, ?_⟩; (conv => whnf); exact ⟨⟨rfl, rfl, trivial⟩, by assumption⟩)); ((conv => whnf))) | ((conv in (_[_]?) => tactic => first | with_reducible assumption | assumption); (conv => whnf)) | ((try refine And.intro ⟨by (first | exact ⟨rfl, ⟨Nat.le_of_ble_eq_true rfl, _, rfl⟩, rfl, ⟨Nat.le_of_ble_eq_true rfl, _, rfl⟩, rfl⟩ | apply_assumption), by (first | exact ⟨rfl, ⟨Nat.le_of_ble_eq_true rfl, _, rfl⟩, rfl, ⟨Nat.le_of_ble_eq_true rfl, _, rfl⟩, rfl⟩ | apply_assumption)⟩ ?_); (first | refine ⟨fun _ => ?_, fun h => absurd (by (first | assumption | rfl | decide | omega)) h⟩ | refine ⟨fun h => absurd h (by (first | assumption | rfl | decide | omega)), fun _ => ?_⟩); ((conv => whnf))) | (refine callK_pure (by assumption) ?_; ((conv => whnf))) | (refine callK_of (by assumption) ?_; intro _ _ hk; cases hk with | intro h1 h2 => (subst h1; subst h2; ((conv => whnf)))) | (refine ⟨by first | decide | omega, ?_⟩; ((conv => whnf)))))
            refine drawK_pure2 (by kernel_rfl) ?_
            (conv => whnf)
            (repeat (first | (apply Exists.intro; apply And.intro; (focus ((conv => whnf); first | exact ⟨rfl, rfl, trivial⟩ | (refine ⟨by omega, ?_⟩; (conv => whnf); exact ⟨rfl, rfl, trivial⟩))); (conv => whnf)) | (apply Exists.intro; apply And.intro; (focus ((conv => whnf); ((conv in (_[_]?) => tactic => first | with_reducible assumption | assumption); (conv => whnf)); (exact ⟨rfl, rfl, trivial⟩))); ((conv => whnf))) | (apply Exists.intro; apply And.intro; (focus ((conv => whnf); (try refine And.intro ⟨by (first | exact ⟨rfl, ⟨Nat.le_of_ble_eq_true rfl, _, rfl⟩, rfl, ⟨Nat.le_of_ble_eq_true rfl, _, rfl⟩, rfl⟩ | apply_assumption), by (first | exact ⟨rfl, ⟨Nat.le_of_ble_eq_true rfl, _, rfl⟩, rfl, ⟨Nat.le_of_ble_eq_true rfl, _, rfl⟩, rfl⟩ | apply_assumption)⟩ ?_); first | exact ⟨fun _ => ⟨rfl, rfl, trivial⟩, fun h => absurd (by (first | assumption | rfl | decide | omega)) h⟩ | exact ⟨fun h => absurd h (by (first | assumption | rfl | decide | omega)), fun _ => ⟨rfl, rfl, trivial⟩⟩)); ((conv => whnf))) | (apply Exists.intro; apply And.intro; (focus ((conv => whnf); refine callK_pure (by assumption) ?_; (exact ⟨rfl, rfl, trivial⟩))); ((conv => whnf))) | (apply Exists.intro; apply And.intro; (focus ((conv => whnf); refine callK_of (by assumption) ?_; intro _ _ hk; cases hk with | intro h1 h2 => (subst h1; subst h2; (exact ⟨rfl, rfl, trivial⟩)))); ((conv => whnf))) | (apply Exists.intro; apply And.intro; (focus ((conv => whnf); apply And.intro; (focus ((conv => whnf); first | exact ⟨rfl, rfl, trivial⟩ | (refine ⟨by omega, ?_⟩; (conv => whnf); exact ⟨rfl, rfl, trivial⟩))); ((conv => whnf); first | exact ⟨rfl, rfl, trivial⟩ | (refine ⟨by omega, ?_⟩; (conv => whnf); exact ⟨rfl, rfl, trivial⟩)))); (conv => whnf)) | (apply Exists.intro; apply And.intro; (focus ((conv => whnf); refine ⟨⟨⟨rfl, rfl, trivial⟩, get_last _ _⟩, ?_⟩; (conv => whnf); exact ⟨⟨rfl, rfl, trivial⟩, by assumption⟩)); ((conv => whnf))) | ((conv in (_[_]?) => tactic => first | with_reducible assumption | assumption); (conv => whnf)) | ((try refine And.intro ⟨by (first | exact ⟨rfl, ⟨Nat.le_of_ble_eq_true rfl, _, rfl⟩, rfl, ⟨Nat.le_of_ble_eq_true rfl, _, rfl⟩, rfl⟩ | apply_assumption), by (first | exact ⟨rfl, ⟨Nat.le_of_ble_eq_true rfl, _, rfl⟩, rfl, ⟨Nat.le_of_ble_eq_true rfl, _, rfl⟩, rfl⟩ | apply_assumption)⟩ ?_); (first | refine ⟨fun _ => ?_, fun h => absurd (by (first | assumption | rfl | decide | omega)) h⟩ | refine ⟨fun h => absurd h (by (first | assumption | rfl | decide | omega)), fun _ => ?_⟩); ((conv => whnf))) | (refine callK_pure (by assumption) ?_; ((conv => whnf))) | (refine callK_of (by assumption) ?_; intro _ _ hk; cases hk with | intro h1 h2 => (subst h1; subst h2; ((conv => whnf)))) | (refine ⟨by first | decide | omega, ?_⟩; ((conv => whnf)))))
            refine last _ _ fun H' => ?_
            (conv => whnf)
            rfl
      · have hA := hA1 hk
        have q1 : ¬ ([PV.str aedu, .str n1] = [.str aedu, .str ann]) := pne fun h => hk ⟨rfl, .inl h.2⟩
        have q2 : ¬ ([PV.str aedu, .str n1] = [.str aedu, .str mail]) := pne fun h => hk ⟨rfl, .inr (.inl h.2)⟩
        have q3 : ¬ ([PV.str aedu, .str n1] = [.str aedu, .str (krb aedu)]) := pne fun h => hk ⟨rfl, .inr (.inr (.inl h.2))⟩
        have q4 : ¬ ([PV.str aedu, .str n1] = [.str aedu, .str (krb edu)]) := pne fun h => hk ⟨rfl, .inr (.inr (.inr h.2))⟩
        refine drawK_pure2 (by kernel_rfl) ?_
        (conv => whnf)
        (repeat (first | (apply Exists.intro; apply And.intro; (focus ((conv => whnf); first | exact ⟨rfl, rfl, trivial⟩ | (refine ⟨by omega, ?_⟩; (conv => whnf); exact ⟨rfl, rfl, trivial⟩))); (conv => whnf)) | (apply Exists.intro; apply And.intro; (focus ((conv => whnf); ((conv in (_[_]?) => tactic => first | with_reducible assumption | assumption); (conv => whnf)); (exact ⟨rfl, rfl, trivial⟩))); ((conv => whnf))) | (apply Exists.intro; apply And.intro; (focus ((conv => whnf); (try refine And.intro ⟨by (first | exact ⟨rfl, ⟨Nat.le_of_ble_eq_true rfl, _, rfl⟩, rfl, ⟨Nat.le_of_ble_eq_true rfl, _, rfl⟩, rfl⟩ | apply_assumption), by (first | exact ⟨rfl, ⟨Nat.le_of_ble_eq_true rfl, _, rfl⟩, rfl, ⟨Nat.le_of_ble_eq_true rfl, _, rfl⟩, rfl⟩ | apply_assumption)⟩ ?_); first | exact ⟨fun _ => ⟨rfl, rfl, trivial⟩, fun h => absurd (by (first | assumption | rfl | decide | omega)) h⟩ | exact ⟨fun h => absurd h (by (first | assumption | rfl | decide | omega)), fun _ => ⟨rfl, rfl, trivial⟩⟩)); ((conv => whnf))) | (apply Exists.intro; apply And.intro; (focus ((conv => whnf); refine callK_pure (by assumption) ?_; (exact ⟨rfl, rfl, trivial⟩))); ((conv => whnf))) | (apply Exists.intro; apply And.intro; (focus ((conv => whnf); refine callK_of (by assumption) ?_; intro _ _ hk; cases hk with | intro h1 h2 => (subst h1; subst h2; (exact ⟨rfl, rfl, trivial⟩)))); ((conv => whnf))) | (apply Exists.intro; apply And.intro; (focus ((conv => whnf); apply And.intro; (focus ((conv => whnf); first | exact ⟨rfl, rfl, trivial⟩ | (refine ⟨by omega, ?_⟩; (conv => whnf); exact ⟨rfl, rfl, trivial⟩))); ((conv => whnf); first | exact ⟨rfl, rfl, trivial⟩ | (refine ⟨by omega, ?_⟩; (conv => whnf); exact ⟨rfl, rfl, trivial⟩)))); (conv => whnf)) | (apply Exists.intro; apply And.intro; (focus ((conv => whnf); refine ⟨⟨⟨rfl, rfl, trivial⟩, get_last _ _⟩, ?_⟩; (conv => whnf); exact ⟨⟨rfl, rfl, trivial⟩, by assumption⟩)); ((conv => whnf))) | ((conv in (_[_]?) => tactic => first | with_reducible assumption | assumption); (conv => whnf)) | ((try refine And.intro ⟨by (first | exact ⟨rfl, ⟨Nat.le_of_ble_eq_true rfl, _, rfl⟩, rfl, ⟨Nat.le_of_ble_eq_true rfl, _, rfl⟩, rfl⟩ | apply_assumption), by (first | exact ⟨rfl, ⟨Nat.le_of_ble_eq_true rfl, _, rfl⟩, rfl, ⟨Nat.le_of_ble_eq_true rfl, _, rfl⟩, rfl⟩ | apply_assumption)⟩ ?_); (first | refine ⟨fun _ => ?_, fun h => absurd (by (first | assumption | rfl | decide | omega)) h⟩ | refine ⟨fun h => absurd h (by (first | assumption | rfl | decide | omega)), fun _ => ?_⟩); ((conv => whnf))) | (refine callK_pure (by assumption) ?_; ((conv => whnf))) | (refine callK_of (by assumption) ?_; intro _ _ hk; cases hk with | intro h1 h2 => (subst h1; subst h2; ((conv => whnf)))) | (refine ⟨by first | decide | omega, ?_⟩; ((conv => whnf)))))
        refine last _ _ fun H' => ?_
        (conv => whnf)
        rfl
    · have k0 : KnownP r1 n1 → False := fun hk => hr hk.1
      have hA := hA1 k0
      refine drawK_pure2 (by kernel_rfl) ?_
      (conv => whnf)
      (repeat (first | (apply Exists.intro; apply And.intro; (focus ((conv => whnf); first | exact ⟨rfl, rfl, trivial⟩ | (refine ⟨by omega, ?_⟩; (conv => whnf); exact ⟨rfl, rfl, trivial⟩))); (conv => whnf)) | (apply Exists.intro; apply And.intro; (focus ((conv => whnf); ((conv in (_[_]?) => tactic => first | with_reducible assumption | assumption); (conv => whnf)); (exact ⟨rfl, rfl, trivial⟩))); ((conv => whnf))) | (apply Exists.intro; apply And.intro; (focus ((conv => whnf); (try refine And.intro ⟨by (first | exact ⟨rfl, ⟨Nat.le_of_ble_eq_true rfl, _, rfl⟩, rfl, ⟨Nat.le_of_ble_eq_true rfl, _, rfl⟩, rfl⟩ | apply_assumption), by (first | exact ⟨rfl, ⟨Nat.le_of_ble_eq_true rfl, _, rfl⟩, rfl, ⟨Nat.le_of_ble_eq_true rfl, _, rfl⟩, rfl⟩ | apply_assumption)⟩ ?_); first | exact ⟨fun _ => ⟨rfl, rfl, trivial⟩, fun h => absurd (by (first | assumption | rfl | decide | omega)) h⟩ | exact ⟨fun h => absurd h (by (first | assumption | rfl | decide | omega)), fun _ => ⟨rfl, rfl, trivial⟩⟩)); ((conv => whnf))) | (apply Exists.intro; apply And.intro; (focus ((conv => whnf); refine callK_pure (by assumption) ?_; (exact ⟨rfl, rfl, trivial⟩))); ((conv => whnf))) | (apply Exists.intro; apply And.intro; (focus ((conv => whnf); refine callK_of (by assumption) ?_; intro _ _ hk; cases hk with | intro h1 h2 => (subst h1; subst h2; (exact ⟨rfl, rfl, trivial⟩)))); ((conv => whnf))) | (apply Exists.intro; apply And.intro; (focus ((conv => whnf); apply And.intro; (focus ((conv => whnf); first | exact ⟨rfl, rfl, trivial⟩ | (refine ⟨by omega, ?_⟩; (conv => whnf); exact ⟨rfl, rfl, trivial⟩))); ((conv => whnf); first | exact ⟨rfl, rfl, trivial⟩ | (refine ⟨by omega, ?_⟩; (conv => whnf); exact ⟨rfl, rfl, trivial⟩)))); (conv => whnf)) | (apply Exists.intro; apply And.intro; (focus ((conv => whnf); refine ⟨⟨⟨rfl, rfl, trivial⟩, get_last _ _⟩, ?_⟩; (conv => whnf); exact ⟨⟨rfl, rfl, trivial⟩, by assumption⟩)); ((conv => whnf))) | ((conv in (_[_]?) => tactic => first | with_reducible assumption | assumption); (conv => whnf)) | ((try refine And.intro ⟨by (first | exact ⟨rfl, ⟨Nat.le_of_ble_eq_true rfl, _, rfl⟩, rfl, ⟨Nat.le_of_ble_eq_true rfl, _, rfl⟩, rfl⟩ | apply_assumption), by (first | exact ⟨rfl, ⟨Nat.le_of_ble_eq_true rfl, _, rfl⟩, rfl, ⟨Nat.le_of_ble_eq_true rfl, _, rfl⟩, rfl⟩ | apply_assumption)⟩ ?_); (first | refine ⟨fun _ => ?_, fun h => absurd (by (first | assumption | rfl | decide | omega)) h⟩ | refine ⟨fun h => absurd h (by (first | assumption | rfl | decide | omega)), fun _ => ?_⟩); ((conv => whnf))) | (refine callK_pure (by assumption) ?_; ((conv => whnf))) | (refine callK_of (by assumption) ?_; intro _ _ hk; cases hk with | intro h1 h2 => (subst h1; subst h2; ((conv => whnf)))) | (refine ⟨by first | decide | omega, ?_⟩; ((conv => whnf)))))
      refine last _ _ fun H' => ?_
      (conv => whnf)
      rfl
end Go.Proofs.Tryz

set_option maxRecDepth 100000
namespace Go.Proofs.YtdnggpdgijobfaaGreatDoor
open Go Go.RowKit Ps
theorem rows_ints {k : IntKind} : ∀ {rs : List (List PV)}, (∀ r ∈ rs, ∃ x, r = [.int k x] ∧ (Lit.int k x).wf = true) → ∃ xs : List Int, rs.length = xs.length ∧ rs.flatten = xs.map (.int k) ∧ ∀ x ∈ xs, (Lit.int k x).wf = true
  | [], _ => ⟨[], rfl, rfl, fun x h => by cases h⟩
  | r :: rs, h => by
    obtain ⟨x, rfl, hx⟩ := h r List.mem_cons_self
    obtain ⟨xs, h1, h2, h3⟩ := rows_ints fun r hr => h r (List.mem_cons_of_mem _ hr)
    exact ⟨x :: xs, by simp [h1], by simp [h2], fun y hy => by
      rcases List.mem_cons.1 hy with rfl | hy
      · exact hx
      · exact h3 y hy⟩
/-- Integers that are bytes. -/
theorem bytes_of : ∀ {xs : List Int}, (∀ x ∈ xs, (Lit.int .u8 x).wf = true) → ∃ bs : List UInt8, xs.length = bs.length ∧ xs.map (PV.int .u8) = bs.map byteC
  | [], _ => ⟨[], rfl, rfl⟩
  | x :: xs, h => by
    obtain ⟨bs, h1, h2⟩ := bytes_of fun y hy => h y (List.mem_cons_of_mem _ hy)
    have hx := bounds_u8 (h x List.mem_cons_self)
    refine ⟨UInt8.ofNat x.toNat :: bs, by simp [h1], ?_⟩
    rw [List.map_cons, List.map_cons, h2]
    congr 1
    show PV.int .u8 x = .int .u8 _
    rw [UInt8.toNat_ofNat']
    congr 1; omega
theorem own : ownKnob Tryz.prog.godebug = none := by kernel_rfl
theorem laidOut : laidOutB Tryz.prog = true := by kernel_rfl
/-- The cells of a table. -/
def litV : DataW Unit → Value
  | .lit (.int k n) => .int k n
  | _ => Go.undef
def litVs : DataW Unit → List Value
  | .agg l => l.map litV
  | d => [litV d]
def tabVs : DataW Unit → List Value
  | .agg l => l.flatMap litVs
  | _ => []
def fillTab (l : List Value) : Obj → Obj
  | .cells _ t frozen => .cells l.toArray t frozen
  | o => o
/-- A world for the witness: the settled one, the listed tables laid. -/
noncomputable def laidWorld (os : Os) : World :=
  { World.holding Tryz.prog os ⟨#[], #[], []⟩ with heap := ((World.holding Tryz.prog os ⟨#[], #[], []⟩).heap.modify 0 (fillTab (tabVs Rows.laid_unicode_utf8_first))).modify 1 (fillTab (tabVs Rows.laid_unicode_utf8_acceptRanges)) }
theorem laid_met (os : Os) (args : Array Value) : laidMet Tryz.prog [("unicode/utf8.acceptRanges", Rows.laid_unicode_utf8_acceptRanges), ("unicode/utf8.first", Rows.laid_unicode_utf8_first)] ((laidWorld os).forCall (fun _ _ => 0) ⟨#[], args, []⟩).memory :=
  laidMet_of_run' 8 (by kernel_rfl) (by kernel_rfl)
theorem varsB (os : Os) (args : Array Value) : ((laidWorld os).forCall (fun _ _ => 0) ⟨#[], args, []⟩).variablesB Tryz.checked.prog = true := by kernel_rfl
theorem heapB (os : Os) (args : Array Value) : (((laidWorld os).forCall (fun _ _ => 0) ⟨#[], args, []⟩).heap.toList.drop Tryz.checked.prog.globals.size).take ((begin Tryz.checked.prog (fun _ _ => 0) default).world.heap.size - Tryz.checked.prog.globals.size) =
      (begin Tryz.checked.prog (fun _ _ => 0) default).world.heap.toList.drop Tryz.checked.prog.globals.size := by kernel_rfl
theorem noLooks : false = Tryz.prog.looks [] := by kernel_rfl
theorem plainOf {name : String} {k : Nat} {g : Func} (hn : Tryz.prog.funcNamed name = some k) (hg : Tryz.prog.funcs[k]? = some g) (hall : (g.params.toList.all fun t => Tryz.prog.wantsStandIn t == false) = true)
    (f : FuncId) (fn : Func) (hf : Tryz.pinned.checked.prog.funcNamed name = some f) (hfn : Tryz.pinned.checked.prog.funcs[f]? = some fn) :
    false = Tryz.pinned.checked.prog.looks [] ∧ ∀ (j : Nat) t, fn.params[j]? = some t → Tryz.pinned.checked.prog.wantsStandIn t = false := by
  obtain rfl : f = k := Option.some.inj (hn.symm.trans hf) |>.symm
  obtain rfl : fn = g := (Option.some.inj (hg.symm.trans hfn)).symm
  refine ⟨noLooks, fun j t ht => ?_⟩
  have h : Tryz.prog.wantsStandIn t = false := by simpa using List.all_eq_true.1 hall t (Array.mem_toList_iff.2 (Array.mem_of_getElem? ht))
  exact h
end Go.Proofs.YtdnggpdgijobfaaGreatDoor

set_option maxRecDepth 100000
set_option linter.unusedVariables false
namespace Go.Proofs.Tryz
open Go Ps
open Go.Proofs.YtdnggpdgijobfaaGreatDoor (rows_ints bytes_of)
theorem rdStr {B n : Nat} {ps : List PV} (h : RdP prog B (n + 1) 9 ps) : ∃ s : List UInt8, ps = [.str s] ∧ s.length ≤ B := h
theorem rdPrinc {B n : Nat} {ps : List PV} (h : RdP prog B (n + 2) 25 ps) : ∃ r k : List UInt8, ps = [.str r, .str k] ∧ r.length ≤ B ∧ k.length ≤ B := by
  obtain ⟨a, _, rfl, ha, b, _, rfl, hb, rfl⟩ : ∃ a b, ps = a ++ b ∧ RdP prog B (n + 1) 9 a ∧ ∃ c d, b = c ++ d ∧ RdP prog B (n + 1) 9 c ∧ d = [] := h
  obtain ⟨r, rfl, hr⟩ := rdStr ha
  obtain ⟨k, rfl, hk⟩ := rdStr hb
  exact ⟨r, k, rfl, hr, hk⟩
end Go.Proofs.Tryz
