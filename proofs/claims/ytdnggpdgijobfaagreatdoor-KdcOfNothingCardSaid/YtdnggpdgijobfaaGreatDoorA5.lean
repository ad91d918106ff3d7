import Derived.Test.YtdnggpdgijobfaaGreatDoorA4
import Derived.Test.YtdnggpdgijobfaaGreatDoorA3
import Derived.Test.YtdnggpdgijobfaaGreatDoorA2
import Derived.Test.YtdnggpdgijobfaaGreatDoorCards
import Derived.Test.YtdnggpdgijobfaaGreatDoorTie
import Derived.WalkKit
import Derived.ProofKit
import Derived.OpenShut
import Derived.Deep.DeepHandedRow
import Derived.Lib.LaidTab
set_option linter.all false
set_option maxRecDepth 100000
set_option maxHeartbeats 8000000
namespace Go.Proofs.Tryz
open Go Ps
def E30 : PObj := ⟨30, [.str [], .str [], .str [], .str [], .int .i64 0, .slice 0 [] (some 5), .slice 0 [] (some 5)], 1⟩
theorem c16b {H : PH} {kid rid : Nat} {realm : List UInt8} {rs ls ps : PV} {l : List Ent} {n i : Nat} (hK : Kd H kid rid realm rs ls ps l n i) (hn : n ≤ 100000) (hi : i ≤ 100000) (hrl : realm.length ≤ 1000000)
  (q : AsQ) (hf : q.fit) (now : Int) (draw : Nat → UInt8) (hng : ¬ (lateB now = false ∧ q.ok = true ∧ (∃ c, lastE (isP q.cr q.cn) l = some c) ∧ (∃ s, lastE (isP q.sr q.sn) l = some s) ∧ q.cr = realm ∧ (q.sr = realm ∧ q.sn = krb realm) ∧ ¬ q.till < now)) :
  CallOk prog 16 [.ptr (some (kid, 0)), .agg q.cells, .int .i64 now, .agg (keyC draw)] H fun x H' => x = .tup [.agg (asV realm l n q now draw).1.cells, .int .i64 (asV realm l n q now draw).2] ∧ H' = (H ++ [ansO]).set H.length E30 := by
 have e1 : Evo (fun _ => False) H (H ++ [ansO]) := Evo.app H _
 have hK1 := hK.evo e1 id id
 have hlt : kid < H.length := by obtain ⟨v, hv⟩ := hK.k; exact (List.getElem?_eq_some_iff.1 hv).1
 have hrlt : rid < H.length := by have := hK.ring.ex.choose_spec; exact (List.getElem?_eq_some_iff.1 this).1
 have hne : H.length ≠ kid := by omega
 have ha : (H ++ [ansO])[H.length]? = some ansO := get_last H _
 obtain ⟨v1, hv1⟩ := hK1.k
 obtain ⟨r, hr⟩ : ∃ r, r = asV realm l n q now draw := ⟨_, rfl⟩
 rw [← hr]
 have bad : ∀ (e : Int), r = (repZ, e) ∧ e ≠ 0 → (PV.tup [.agg [.str [], .str [], .str [], .str [], .int .i64 0, .slice 0 [] none, .slice 0 [] none], .int .i64 e] = PV.tup [.agg r.1.cells, .int .i64 r.2]) ∧
   (H ++ [ansO]).set H.length E30 = (H ++ [ansO]).set H.length E30 := fun e he => ⟨by rw [he.1]; rfl, rfl⟩
 have hfit : (asMsg q).fits := by
  obtain ⟨f1, f2, f3, f4⟩ := hf
  unfold Msg.fits asMsg mZ
  exact ⟨by show q.cr.length ≤ _; omega, by show q.cn.length ≤ _; omega, by show q.sr.length ≤ _; omega, by show q.sn.length ≤ _; omega, Nat.zero_le _, Nat.zero_le _, Nat.zero_le _, Nat.zero_le _, Nat.zero_le _, Nat.zero_le _, Nat.zero_le _, Nat.zero_le _, Nat.zero_le _, Nat.zero_le _⟩
 (refine fnS (imm := imm16) ttK_ok func16 ?_; (conv => whnf))
 cases hq : q.ok with
 | false =>
  have hr1 : r = (repZ, 1) := by rw [hr]; unfold asV; rw [hq, Bool.not_false, Bool.or_true]
  refine callK_pure ((c47 (asMsg q) hfit).of_eq (encAs_no q hq)) ?_
  conv => whnf
  refine callK_pure (c48 now) ?_
  cases hl : lateB now with
  | true =>
   conv => whnf
   ((conv in (_[_]?) => tactic => exact ha); (conv => whnf))
   ((conv in (_[_]?) => tactic => exact (show ((H ++ [ansO]).set H.length _)[H.length]? = some _ from get_set ha)); (conv => whnf))
   exact bad 1 (by exact ⟨hr1, by decide⟩)
  | false =>
   conv => whnf
   refine ⟨fun h => absurd h (by decide), fun _ => ?_⟩
   conv => whnf
   ((conv in (_[_]?) => tactic => exact ha); (conv => whnf))
   ((conv in (_[_]?) => tactic => exact (show ((H ++ [ansO]).set H.length _)[H.length]? = some _ from get_set ha)); (conv => whnf))
   exact bad 1 (by exact ⟨hr1, by decide⟩)
 | true =>
  refine callK_pure ((c47 (asMsg q) hfit).of_eq (encAs_yes q hq)) ?_
  conv => whnf
  refine callK_pure (c48 now) ?_
  cases hl : lateB now with
  | true =>
   have hr1 : r = (repZ, 1) := by rw [hr]; unfold asV; rw [hl, Bool.true_or]
   conv => whnf
   ((conv in (_[_]?) => tactic => exact ha); (conv => whnf))
   ((conv in (_[_]?) => tactic => exact (show ((H ++ [ansO]).set H.length _)[H.length]? = some _ from get_set ha)); (conv => whnf))
   exact bad 1 (by exact ⟨hr1, by decide⟩)
  | false =>
   have hr0 : r = match lastE (isP q.cr q.cn) l with
     | none => (repZ, 5)
     | some c => match decide (q.cr = realm) with
      | false => (repZ, 5)
      | true => match lastE (isP q.sr q.sn) l with
       | none => (repZ, 6)
       | some s => match decide (q.sr = realm ∧ q.sn = krb realm) with
        | false => (repZ, 6)
        | true => match decide (q.till < now) with
         | true => (repZ, 7)
         | false => makeV l n q.sr q.sn (asPart q now draw) q.nonce c.key 3 := by rw [hr]; unfold asV; rw [hl, hq]; rfl
   clear hr
   conv => whnf
   refine ⟨fun _ => ?_, fun h => absurd rfl h⟩
   conv => whnf
   have hgC := lastGet hK1.ring (by have := hK1.len; omega) q.cr q.cn
   have hgS := lastGet hK1.ring (by have := hK1.len; omega) q.sr q.sn
   cases hC : lastE (isP q.cr q.cn) l with
   | none =>
    rw [hC] at hgC hr0
    have hr5 : r = (repZ, 5) ∧ (5 : Int) ≠ 0 := ⟨hr0, by decide⟩
    refine drawK_pure2 (by kernel_rfl) ?_
    conv => whnf
    iterate 3 (refine dS ?_; (conv => whnf))
    apply Exists.intro
    apply And.intro
    ·conv => whnf
     ((conv in (_[_]?) => tactic => exact hv1); (conv => whnf))
     exact ⟨rfl, rfl, trivial⟩
    conv => whnf
    iterate 2 (refine dS ?_; (conv => whnf))
    refine ⟨_, callK_of hgC (by rintro _ _ ⟨rfl, rfl⟩; exact ⟨rfl, rfl, trivial⟩), ?_⟩
    conv => whnf
    iterate 7 (refine dS ?_; (conv => whnf))
    cases hS : lastE (isP q.sr q.sn) l with
    | none =>
     rw [hS] at hgS
     refine drawK_pure2 (by kernel_rfl) ?_
     conv => whnf
     iterate 3 (refine dS ?_; (conv => whnf))
     apply Exists.intro
     apply And.intro
     ·conv => whnf
      ((conv in (_[_]?) => tactic => exact hv1); (conv => whnf))
      exact ⟨rfl, rfl, trivial⟩
     conv => whnf
     iterate 2 (refine dS ?_; (conv => whnf))
     refine ⟨_, callK_of hgS (by rintro _ _ ⟨rfl, rfl⟩; exact ⟨rfl, rfl, trivial⟩), ?_⟩
     conv => whnf
     iterate 7 (refine dS ?_; (conv => whnf))
     by_cases hcr : q.cr = realm
     ·refine drawK_pure2 (by kernel_rfl) ?_
      conv => whnf
      iterate 6 (refine dS ?_; (conv => whnf))
      apply Exists.intro
      apply And.intro
      ·conv => whnf
       ((conv in (_[_]?) => tactic => exact hv1); (conv => whnf))
       exact ⟨rfl, rfl, trivial⟩
      conv => whnf
      refine ⟨.bool false, ?_, ?_⟩
      ·conv => whnf
       exact ⟨fun h => ⟨rfl, rfl, trivial⟩, fun h => absurd hcr h⟩
      conv => whnf
      iterate 2 (refine dS ?_; (conv => whnf))
      refine ⟨.bool true, ?_, ?_⟩
      ·conv => whnf
       exact ⟨fun h => absurd h (by decide), fun h => ⟨rfl, rfl, trivial⟩⟩
      conv => whnf
      iterate 2 (refine dS ?_; (conv => whnf))
      conv => whnf
      ((conv in (_[_]?) => tactic => exact ha); (conv => whnf))
      ((conv in (_[_]?) => tactic => exact (show ((H ++ [ansO]).set H.length _)[H.length]? = some _ from get_set ha)); (conv => whnf))
      exact bad 5 (by exact hr5)
     ·refine drawK_pure2 (by kernel_rfl) ?_
      conv => whnf
      iterate 6 (refine dS ?_; (conv => whnf))
      apply Exists.intro
      apply And.intro
      ·conv => whnf
       ((conv in (_[_]?) => tactic => exact hv1); (conv => whnf))
       exact ⟨rfl, rfl, trivial⟩
      conv => whnf
      refine ⟨.bool true, ?_, ?_⟩
      ·conv => whnf
       exact ⟨fun h => absurd h hcr, fun h => ⟨rfl, rfl, trivial⟩⟩
      conv => whnf
      iterate 5 (refine dS ?_; (conv => whnf))
      conv => whnf
      ((conv in (_[_]?) => tactic => exact ha); (conv => whnf))
      ((conv in (_[_]?) => tactic => exact (show ((H ++ [ansO]).set H.length _)[H.length]? = some _ from get_set ha)); (conv => whnf))
      exact bad 5 (by exact hr5)
    | some s =>
     rw [hS] at hgS
     refine drawK_pure2 (by kernel_rfl) ?_
     conv => whnf
     iterate 3 (refine dS ?_; (conv => whnf))
     apply Exists.intro
     apply And.intro
     ·conv => whnf
      ((conv in (_[_]?) => tactic => exact hv1); (conv => whnf))
      exact ⟨rfl, rfl, trivial⟩
     conv => whnf
     iterate 2 (refine dS ?_; (conv => whnf))
     refine ⟨_, callK_of hgS (by rintro _ _ ⟨rfl, rfl⟩; exact ⟨rfl, rfl, trivial⟩), ?_⟩
     conv => whnf
     iterate 7 (refine dS ?_; (conv => whnf))
     by_cases hcr : q.cr = realm
     ·refine drawK_pure2 (by kernel_rfl) ?_
      conv => whnf
      iterate 6 (refine dS ?_; (conv => whnf))
      apply Exists.intro
      apply And.intro
      ·conv => whnf
       ((conv in (_[_]?) => tactic => exact hv1); (conv => whnf))
       exact ⟨rfl, rfl, trivial⟩
      conv => whnf
      refine ⟨.bool false, ?_, ?_⟩
      ·conv => whnf
       exact ⟨fun h => ⟨rfl, rfl, trivial⟩, fun h => absurd hcr h⟩
      conv => whnf
      iterate 2 (refine dS ?_; (conv => whnf))
      refine ⟨.bool true, ?_, ?_⟩
      ·conv => whnf
       exact ⟨fun h => absurd h (by decide), fun h => ⟨rfl, rfl, trivial⟩⟩
      conv => whnf
      iterate 2 (refine dS ?_; (conv => whnf))
      conv => whnf
      ((conv in (_[_]?) => tactic => exact ha); (conv => whnf))
      ((conv in (_[_]?) => tactic => exact (show ((H ++ [ansO]).set H.length _)[H.length]? = some _ from get_set ha)); (conv => whnf))
      exact bad 5 (by exact hr5)
     ·refine drawK_pure2 (by kernel_rfl) ?_
      conv => whnf
      iterate 6 (refine dS ?_; (conv => whnf))
      apply Exists.intro
      apply And.intro
      ·conv => whnf
       ((conv in (_[_]?) => tactic => exact hv1); (conv => whnf))
       exact ⟨rfl, rfl, trivial⟩
      conv => whnf
      refine ⟨.bool true, ?_, ?_⟩
      ·conv => whnf
       exact ⟨fun h => absurd h hcr, fun h => ⟨rfl, rfl, trivial⟩⟩
      conv => whnf
      iterate 5 (refine dS ?_; (conv => whnf))
      conv => whnf
      ((conv in (_[_]?) => tactic => exact ha); (conv => whnf))
      ((conv in (_[_]?) => tactic => exact (show ((H ++ [ansO]).set H.length _)[H.length]? = some _ from get_set ha)); (conv => whnf))
      exact bad 5 (by exact hr5)
   | some c =>
    rw [hC] at hgC hr0
    refine drawK_pure2 (by kernel_rfl) ?_
    conv => whnf
    iterate 3 (refine dS ?_; (conv => whnf))
    apply Exists.intro
    apply And.intro
    ·conv => whnf
     ((conv in (_[_]?) => tactic => exact hv1); (conv => whnf))
     exact ⟨rfl, rfl, trivial⟩
    conv => whnf
    iterate 2 (refine dS ?_; (conv => whnf))
    refine ⟨_, callK_of hgC (by rintro _ _ ⟨rfl, rfl⟩; exact ⟨rfl, rfl, trivial⟩), ?_⟩
    conv => whnf
    iterate 7 (refine dS ?_; (conv => whnf))
    cases hS : lastE (isP q.sr q.sn) l with
    | none =>
     rw [hS] at hgS hr0
     refine drawK_pure2 (by kernel_rfl) ?_
     conv => whnf
     iterate 3 (refine dS ?_; (conv => whnf))
     apply Exists.intro
     apply And.intro
     ·conv => whnf
      ((conv in (_[_]?) => tactic => exact hv1); (conv => whnf))
      exact ⟨rfl, rfl, trivial⟩
     conv => whnf
     iterate 2 (refine dS ?_; (conv => whnf))
     refine ⟨_, callK_of hgS (by rintro _ _ ⟨rfl, rfl⟩; exact ⟨rfl, rfl, trivial⟩), ?_⟩
     conv => whnf
     iterate 7 (refine dS ?_; (conv => whnf))
     by_cases hcr : q.cr = realm
     ·rw [decide_eq_true hcr] at hr0
      have hr6 : r = (repZ, 6) ∧ (6 : Int) ≠ 0 := ⟨hr0, by decide⟩
      refine drawK_pure2 (by kernel_rfl) ?_
      conv => whnf
      iterate 6 (refine dS ?_; (conv => whnf))
      apply Exists.intro
      apply And.intro
      ·conv => whnf
       ((conv in (_[_]?) => tactic => exact hv1); (conv => whnf))
       exact ⟨rfl, rfl, trivial⟩
      conv => whnf
      refine ⟨.bool false, ?_, ?_⟩
      ·conv => whnf
       exact ⟨fun h => ⟨rfl, rfl, trivial⟩, fun h => absurd hcr h⟩
      conv => whnf
      iterate 2 (refine dS ?_; (conv => whnf))
      refine ⟨.bool false, ?_, ?_⟩
      ·conv => whnf
       exact ⟨fun h => ⟨rfl, rfl, trivial⟩, fun h => absurd rfl h⟩
      conv => whnf
      iterate 2 (refine dS ?_; (conv => whnf))
      conv => whnf
      refine drawK_pure2 (by kernel_rfl) ?_
      conv => whnf
      iterate 6 (refine dS ?_; (conv => whnf))
      apply Exists.intro
      apply And.intro
      ·conv => whnf
       ((conv in (_[_]?) => tactic => exact hv1); (conv => whnf))
       exact ⟨rfl, rfl, trivial⟩
      conv => whnf
      refine ⟨_, callK_of (c50 hv1 realm hrl) (by rintro _ _ ⟨rfl, rfl⟩; exact ⟨rfl, rfl, trivial⟩), ?_⟩
      conv => whnf
      by_cases hs : q.sr = realm ∧ q.sn = krb realm
      ·refine ⟨.bool false, ?_, ?_⟩
       ·conv => whnf
        exact ⟨⟨fitK _ _, fitK _ _⟩, fun h => ⟨rfl, rfl, trivial⟩, fun h => absurd (two_eq' hs) h⟩
       conv => whnf
       iterate 2 (refine dS ?_; (conv => whnf))
       refine ⟨.bool true, ?_, ?_⟩
       ·conv => whnf
        exact ⟨fun h => absurd h (by decide), fun h => ⟨rfl, rfl, trivial⟩⟩
       conv => whnf
       iterate 2 (refine dS ?_; (conv => whnf))
       conv => whnf
       ((conv in (_[_]?) => tactic => exact ha); (conv => whnf))
       ((conv in (_[_]?) => tactic => exact (show ((H ++ [ansO]).set H.length _)[H.length]? = some _ from get_set ha)); (conv => whnf))
       exact bad 6 (by exact hr6)
      ·refine ⟨.bool true, ?_, ?_⟩
       ·conv => whnf
        exact ⟨⟨fitK _ _, fitK _ _⟩, fun h => absurd (two_eq h) hs, fun h => ⟨rfl, rfl, trivial⟩⟩
       conv => whnf
       iterate 5 (refine dS ?_; (conv => whnf))
       conv => whnf
       ((conv in (_[_]?) => tactic => exact ha); (conv => whnf))
       ((conv in (_[_]?) => tactic => exact (show ((H ++ [ansO]).set H.length _)[H.length]? = some _ from get_set ha)); (conv => whnf))
       exact bad 6 (by exact hr6)
     ·rw [decide_eq_false hcr] at hr0
      have hr5 : r = (repZ, 5) ∧ (5 : Int) ≠ 0 := ⟨hr0, by decide⟩
      refine drawK_pure2 (by kernel_rfl) ?_
      conv => whnf
      iterate 6 (refine dS ?_; (conv => whnf))
      apply Exists.intro
      apply And.intro
      ·conv => whnf
       ((conv in (_[_]?) => tactic => exact hv1); (conv => whnf))
       exact ⟨rfl, rfl, trivial⟩
      conv => whnf
      refine ⟨.bool true, ?_, ?_⟩
      ·conv => whnf
       exact ⟨fun h => absurd h hcr, fun h => ⟨rfl, rfl, trivial⟩⟩
      conv => whnf
      iterate 5 (refine dS ?_; (conv => whnf))
      conv => whnf
      ((conv in (_[_]?) => tactic => exact ha); (conv => whnf))
      ((conv in (_[_]?) => tactic => exact (show ((H ++ [ansO]).set H.length _)[H.length]? = some _ from get_set ha)); (conv => whnf))
      exact bad 5 (by exact hr5)
    | some s =>
     rw [hS] at hgS hr0
     refine drawK_pure2 (by kernel_rfl) ?_
     conv => whnf
     iterate 3 (refine dS ?_; (conv => whnf))
     apply Exists.intro
     apply And.intro
     ·conv => whnf
      ((conv in (_[_]?) => tactic => exact hv1); (conv => whnf))
      exact ⟨rfl, rfl, trivial⟩
     conv => whnf
     iterate 2 (refine dS ?_; (conv => whnf))
     refine ⟨_, callK_of hgS (by rintro _ _ ⟨rfl, rfl⟩; exact ⟨rfl, rfl, trivial⟩), ?_⟩
     conv => whnf
     iterate 7 (refine dS ?_; (conv => whnf))
     by_cases hcr : q.cr = realm
     ·rw [decide_eq_true hcr] at hr0
      refine drawK_pure2 (by kernel_rfl) ?_
      conv => whnf
      iterate 6 (refine dS ?_; (conv => whnf))
      apply Exists.intro
      apply And.intro
      ·conv => whnf
       ((conv in (_[_]?) => tactic => exact hv1); (conv => whnf))
       exact ⟨rfl, rfl, trivial⟩
      conv => whnf
      refine ⟨.bool false, ?_, ?_⟩
      ·conv => whnf
       exact ⟨fun h => ⟨rfl, rfl, trivial⟩, fun h => absurd hcr h⟩
      conv => whnf
      iterate 2 (refine dS ?_; (conv => whnf))
      refine ⟨.bool false, ?_, ?_⟩
      ·conv => whnf
       exact ⟨fun h => ⟨rfl, rfl, trivial⟩, fun h => absurd rfl h⟩
      conv => whnf
      iterate 2 (refine dS ?_; (conv => whnf))
      conv => whnf
      refine drawK_pure2 (by kernel_rfl) ?_
      conv => whnf
      iterate 6 (refine dS ?_; (conv => whnf))
      apply Exists.intro
      apply And.intro
      ·conv => whnf
       ((conv in (_[_]?) => tactic => exact hv1); (conv => whnf))
       exact ⟨rfl, rfl, trivial⟩
      conv => whnf
      refine ⟨_, callK_of (c50 hv1 realm hrl) (by rintro _ _ ⟨rfl, rfl⟩; exact ⟨rfl, rfl, trivial⟩), ?_⟩
      conv => whnf
      by_cases hs : q.sr = realm ∧ q.sn = krb realm
      ·rw [decide_eq_true hs] at hr0
       refine ⟨.bool false, ?_, ?_⟩
       ·conv => whnf
        exact ⟨⟨fitK _ _, fitK _ _⟩, fun h => ⟨rfl, rfl, trivial⟩, fun h => absurd (two_eq' hs) h⟩
       conv => whnf
       iterate 2 (refine dS ?_; (conv => whnf))
       refine ⟨.bool false, ?_, ?_⟩
       ·conv => whnf
        exact ⟨fun h => ⟨rfl, rfl, trivial⟩, fun h => absurd rfl h⟩
       conv => whnf
       iterate 2 (refine dS ?_; (conv => whnf))
       by_cases ht : q.till < now
       ·rw [decide_eq_true ht] at hr0
        have hr7 : r = (repZ, 7) ∧ (7 : Int) ≠ 0 := ⟨hr0, by decide⟩
        conv => whnf
        refine ⟨fun h => ?_, fun h => absurd ht h⟩
        conv => whnf
        ((conv in (_[_]?) => tactic => exact ha); (conv => whnf))
        ((conv in (_[_]?) => tactic => exact (show ((H ++ [ansO]).set H.length _)[H.length]? = some _ from get_set ha)); (conv => whnf))
        exact bad 7 (by exact hr7)
       ·exact absurd ⟨hl, hq, ⟨c, hC⟩, ⟨s, hS⟩, hcr, hs, ht⟩ hng
      ·rw [decide_eq_false hs] at hr0
       have hr6 : r = (repZ, 6) ∧ (6 : Int) ≠ 0 := ⟨hr0, by decide⟩
       refine ⟨.bool true, ?_, ?_⟩
       ·conv => whnf
        exact ⟨⟨fitK _ _, fitK _ _⟩, fun h => absurd (two_eq h) hs, fun h => ⟨rfl, rfl, trivial⟩⟩
       conv => whnf
       iterate 5 (refine dS ?_; (conv => whnf))
       conv => whnf
       ((conv in (_[_]?) => tactic => exact ha); (conv => whnf))
       ((conv in (_[_]?) => tactic => exact (show ((H ++ [ansO]).set H.length _)[H.length]? = some _ from get_set ha)); (conv => whnf))
       exact bad 6 (by exact hr6)
     ·rw [decide_eq_false hcr] at hr0
      have hr5 : r = (repZ, 5) ∧ (5 : Int) ≠ 0 := ⟨hr0, by decide⟩
      refine drawK_pure2 (by kernel_rfl) ?_
      conv => whnf
      iterate 6 (refine dS ?_; (conv => whnf))
      apply Exists.intro
      apply And.intro
      ·conv => whnf
       ((conv in (_[_]?) => tactic => exact hv1); (conv => whnf))
       exact ⟨rfl, rfl, trivial⟩
      conv => whnf
      refine ⟨.bool true, ?_, ?_⟩
      ·conv => whnf
       exact ⟨fun h => absurd h hcr, fun h => ⟨rfl, rfl, trivial⟩⟩
      conv => whnf
      iterate 5 (refine dS ?_; (conv => whnf))
      conv => whnf
      ((conv in (_[_]?) => tactic => exact ha); (conv => whnf))
      ((conv in (_[_]?) => tactic => exact (show ((H ++ [ansO]).set H.length _)[H.length]? = some _ from get_set ha)); (conv => whnf))
      exact bad 5 (by exact hr5)
set_option maxHeartbeats 1000000
theorem asV_good {realm : List UInt8} {l : List Ent} {n : Int} {q : AsQ} {now : Int} {draw : Nat → UInt8} (hl : lateB now = false) (hq : q.ok = true) {c s : Ent} (hC : lastE (isP q.cr q.cn) l = some c) (hS : lastE (isP q.sr q.sn) l = some s)
  (hcr : q.cr = realm) (hs : q.sr = realm ∧ q.sn = krb realm) (ht : ¬ q.till < now) : asV realm l n q now draw = makeV l n q.sr q.sn (asPart q now draw) q.nonce c.key 3 := by
 unfold asV
 rw [hl, hq, hC, hS, decide_eq_true hcr, decide_eq_true hs, decide_eq_false ht]
 rfl
theorem asV_bad {realm : List UInt8} {l : List Ent} {n : Int} {q : AsQ} {now : Int} {draw : Nat → UInt8}
  (hng : ¬ (lateB now = false ∧ q.ok = true ∧ (∃ c, lastE (isP q.cr q.cn) l = some c) ∧ (∃ s, lastE (isP q.sr q.sn) l = some s) ∧ q.cr = realm ∧ (q.sr = realm ∧ q.sn = krb realm) ∧ ¬ q.till < now)) :
  (asV realm l n q now draw).2 ≠ 0 := by
 unfold asV
 cases hl : lateB now with
 | true => rw [Bool.true_or]; show (1 : Int) ≠ 0; decide
 | false =>
  cases hq : q.ok with
  | false => show (1 : Int) ≠ 0; decide
  | true =>
   cases hC : lastE (isP q.cr q.cn) l with
   | none => show (5 : Int) ≠ 0; decide
   | some c =>
    by_cases hcr : q.cr = realm
    ·rw [decide_eq_true hcr]
     cases hS : lastE (isP q.sr q.sn) l with
     | none => show (6 : Int) ≠ 0; decide
     | some s =>
      by_cases hs : q.sr = realm ∧ q.sn = krb realm
      ·rw [decide_eq_true hs]
       by_cases ht : q.till < now
       ·rw [decide_eq_true ht]; show (7 : Int) ≠ 0; decide
       ·exact absurd ⟨hl, hq, ⟨c, hC⟩, ⟨s, hS⟩, hcr, hs, ht⟩ hng
      ·rw [decide_eq_false hs]; show (6 : Int) ≠ 0; decide
    ·rw [decide_eq_false hcr]; show (5 : Int) ≠ 0; decide
theorem c16d {H : PH} {kid rid : Nat} {realm : List UInt8} {rs ls ps : PV} {l : List Ent} {n i : Nat} (hK : Kd H kid rid realm rs ls ps l n i) (hn : n ≤ 100000) (hi : i ≤ 100000) (hrl : realm.length ≤ 1000000)
  (q : AsQ) (hf : q.fit) (now : Int) (draw : Nat → UInt8) :
  ∃ H1, (Kd H1 kid rid realm rs ls ps l (bump (asV realm l n q now draw) n 2) (bump (asV realm l n q now draw) i 1) ∧ Evo (· = kid) H H1) ∧
   CallOk prog 16 [.ptr (some (kid, 0)), .agg q.cells, .int .i64 now, .agg (keyC draw)] H fun x H' => x = .tup [.agg (asV realm l n q now draw).1.cells, .int .i64 (asV realm l n q now draw).2] ∧ H' = H1 := by
 by_cases hg : lateB now = false ∧ q.ok = true ∧ (∃ c, lastE (isP q.cr q.cn) l = some c) ∧ (∃ s, lastE (isP q.sr q.sn) l = some s) ∧ q.cr = realm ∧ (q.sr = realm ∧ q.sn = krb realm) ∧ ¬ q.till < now
 ·obtain ⟨hl, hq, ⟨c, hC⟩, ⟨s, hS⟩, hcr, hs, ht⟩ := hg
  rw [asV_good hl hq hC hS hcr hs ht]
  obtain ⟨H1, ⟨h1, h2, _⟩, h3⟩ := c16g hK hn hi hrl q hf now draw hl hq c s hC hS hcr hs ht
  exact ⟨H1, ⟨h1, h2⟩, h3⟩
 ·have hb := c16b hK hn hi hrl q hf now draw hg
  have h0 := asV_bad (n := (n : Int)) (draw := draw) hg
  have hbump : ∀ m k, bump (asV realm l n q now draw) m k = m := fun m k => by unfold bump; exact if_neg h0
  rw [hbump, hbump]
  have e1 : Evo (fun _ => False) H (H ++ [ansO]) := Evo.app H _
  have ha : (H ++ [ansO])[H.length]? = some ansO := get_last H _
  have hlt : kid < H.length := by obtain ⟨v, hv⟩ := hK.k; exact (List.getElem?_eq_some_iff.1 hv).1
  have hrlt : rid < H.length := by have := hK.ring.ex.choose_spec; exact (List.getElem?_eq_some_iff.1 this).1
  have e2 : Evo (fun i => i = kid ∨ i = H.length) (H ++ [ansO]) ((H ++ [ansO]).set H.length E30) := Evo.setOther ha (.inr rfl) ansT.1 ansT.2
  have e3 : Evo (fun i => i = H.length) (H ++ [ansO]) ((H ++ [ansO]).set H.length E30) := Evo.setOther ha rfl ansT.1 ansT.2
  exact ⟨_, ⟨(hK.evo e1 id id).evo e3 (by show ¬ kid = H.length; omega) (by show ¬ rid = H.length; omega), ((e1.mono fun _ h => h.elim).trans e2).drop (Nat.le_refl _)⟩, hb⟩
set_option maxHeartbeats 4000000
theorem Small.some {l : List Ent} (h : Small l 5) {x : Pr × UInt8} (hx : x ∈ nm0) : ∃ e, lastE (isP x.1.1 x.1.2) l = some e ∧ e.kv = 1 ∧ e.key = keyN x.2 ∧ e.r = x.1.1 ∧ e.n = x.1.2 := by
 have hx5 : x ∈ nm0.take 5 := hx
 have hm : (x.1.1, x.1.2, 1, keyN x.2) ∈ l.map (fun e => (e.r, e.n, e.kv, e.key)) := by
  rw [show l.map (fun e => (e.r, e.n, e.kv, e.key)) = _ from h]
  exact List.mem_map.2 ⟨x, hx5, rfl⟩
 obtain ⟨e0, he0, hh⟩ := List.mem_map.1 hm
 injection hh with h1 h2
 injection h2 with h2 h3
 injection h3 with h3 h4
 cases he : lastE (isP x.1.1 x.1.2) l with
 | none =>
  have := List.find?_eq_none.1 he e0 (List.mem_reverse.2 he0)
  exact absurd (isP_iff.2 ⟨h1, h2⟩) this
 | some e =>
  have h5 : isP x.1.1 x.1.2 e = true := by
   have := List.find?_some he
   exact this
  obtain ⟨a, b⟩ := isP_iff.1 h5
  obtain ⟨y, hy, e1, e2, e3, e4⟩ := h.mem (lastE_mem he)
  refine ⟨e, rfl, e3, ?_, a, b⟩
  have hxy : (nm0.all fun y => nm0.all fun x => !(decide (y.1 = x.1)) || decide (y.2 = x.2)) = true := by decide
  have := List.all_eq_true.1 (List.all_eq_true.1 hxy y hy) x hx
  have hyx : y.1 = x.1 := Prod.ext (e1.symm.trans a) (e2.symm.trans b)
  rw [decide_eq_true hyx, Bool.not_true, Bool.false_or] at this
  rw [e4, of_decide_eq_true this]
def draw1 : Nat → UInt8 := fun i => match i with
 | 0 => 1
 | _ => 0
def qK1 : AsQ := ⟨aedu, ann, aedu, krb aedu, 50, 3⟩
def qK2 : AsQ := ⟨aedu, mail, aedu, ann, 50, 0⟩
theorem as1 {l : List Ent} (h : Small l 5) (n : Int) : (asV aedu l n qK1 5 draw1).2 = 0 ∧ (asV aedu l n qK1 5 draw1).1.kv = 1 := by
 obtain ⟨c, hC, _⟩ := h.some (x := ((aedu, ann), 13)) (by decide)
 obtain ⟨s, hS, hk, _⟩ := h.some (x := ((aedu, krb aedu), 10)) (by decide)
 rw [show asV aedu l n qK1 5 draw1 = _ from asV_good (realm := aedu) (q := qK1) (by decide) (by kernel_rfl) hC hS rfl ⟨rfl, rfl⟩ (by decide)]
 unfold makeV
 rw [show lastE (isP qK1.sr qK1.sn) l = Option.some s from hS]
 have hP : (isPartB (asPart qK1 5 draw1) && isRptB (rptOf (asPart qK1 5 draw1) qK1.sr qK1.sn qK1.nonce)) = true := by kernel_rfl
 simp only [hP]
 exact ⟨trivial, by show (s.kv : Int) = 1; rw [hk]; rfl⟩
theorem as2 {l : List Ent} (h : Small l 5) (n : Int) : (asV aedu l n qK2 5 draw1).2 = 6 := by
 obtain ⟨c, hC, _⟩ := h.some (x := ((aedu, mail), 14)) (by decide)
 obtain ⟨s, hS, hk, _⟩ := h.some (x := ((aedu, ann), 13)) (by decide)
 unfold asV
 rw [show lateB 5 = false by decide, show qK2.ok = true by kernel_rfl, show lastE (isP qK2.cr qK2.cn) l = Option.some c from hC, show lastE (isP qK2.sr qK2.sn) l = Option.some s from hS]
 rfl
def ttKw : TT := [(3, ⟨.int .i64, 1, 8, [.int .i64 0]⟩), (4, ⟨.bool, 1, 1, [.bool false]⟩), (5, ⟨.int .u8, 1, 1, [.int .u8 0]⟩), (9, ⟨.str, 1, 16, [.str []]⟩), (22, ⟨.ptr, 1, 8, [.ptr none]⟩), (25, ⟨.strct [(9, 0), (9, 1)], 2, 32, [.str [], .str []]⟩), (26, ⟨.slice 5, 1, 24, [.slice 0 [] (some 5)]⟩), (28, ⟨.strct [(25, 0), (3, 2), (26, 3)], 4, 64, [.str [], .str [], .int .i64 0, .slice 0 [] (some 5)]⟩), (30, ⟨.strct [(25, 0), (28, 2), (26, 6)], 7, 120, [.str [], .str [], .str [], .str [], .int .i64 0, .slice 0 [] (some 5), .slice 0 [] (some 5)]⟩), (31, ⟨.int .i64, 1, 8, [.int .i64 0]⟩), (33, ⟨.ptr, 1, 8, [.ptr none]⟩), (34, ⟨.ptr, 1, 8, [.ptr none]⟩), (36, ⟨.strct [(33, 0), (34, 1)], 2, 16, [.ptr none, .ptr none]⟩), (41, ⟨.strct [(25, 0), (25, 2), (3, 4), (3, 5)], 6, 80, [.str [], .str [], .str [], .str [], .int .i64 0, .int .i64 0]⟩), (43, ⟨.arr 32 5, 32, 32, List.replicate 32 (.int .u8 0)⟩), (50, ⟨.strct [(25, 0), (43, 2), (9, 34), (3, 35), (3, 36)], 37, 96, [.str [], .str []] ++ List.replicate 32 (.int .u8 0) ++ [.str [], .int .i64 0, .int .i64 0]⟩), (54, ⟨.strct [(43, 0), (25, 32), (3, 34), (3, 35), (3, 36)], 37, 88, List.replicate 32 (.int .u8 0) ++ [.str [], .str [], .int .i64 0, .int .i64 0, .int .i64 0]⟩), (58, ⟨.slice 4, 1, 24, [.slice 0 [] (some 4)]⟩), (88, ⟨.slice 9, 1, 24, [.slice 0 [] (some 9)]⟩), (89, ⟨.slice 200, 1, 24, [.slice 0 [] (some 200)]⟩), (90, ⟨.slice 261, 1, 24, [.slice 0 [] (some 261)]⟩), (92, ⟨.strct [(88, 0), (89, 1), (90, 2)], 3, 72, [.slice 0 [] (some 9), .slice 0 [] (some 200), .slice 0 [] (some 261)]⟩), (93, ⟨.ptr, 1, 8, [.ptr none]⟩), (110, ⟨.ptr, 1, 8, [.ptr none]⟩), (113, ⟨.slice 210, 1, 24, [.slice 0 [] (some 210)]⟩), (115, ⟨.strct [(113, 0)], 1, 24, [.slice 0 [] (some 210)]⟩), (116, ⟨.slice 25, 1, 24, [.slice 0 [] (some 25)]⟩), (200, ⟨.arr 2 9, 2, 32, [.str [], .str []]⟩), (210, ⟨.strct [(25, 0), (3, 2), (43, 3)], 35, 72, [.str [], .str [], .int .i64 0] ++ List.replicate 32 (.int .u8 0)⟩), (261, ⟨.strct [(9, 0), (9, 1), (88, 2)], 3, 56, [.str [], .str [], .slice 0 [] (some 9)]⟩)]
theorem ttKw_ok : ttOk prog ttKw = true := by kernel_rfl
def imm21t : List Nat := []
def z30 : PObj := ⟨30, [.str [], .str [], .str [], .str [], .int .i64 0, .slice 0 [] (some 5), .slice 0 [] (some 5)], 0⟩
def D21 (n : Nat) : Draw := { imp := [8, 13], robs := [z30], res := [(12, 0)], base := n, win := [(9, 1, 1), (10, 1, 1), (11, 1, 2), (12, 0, 1), (13, 1, 1), (14, 2, 2)] }
theorem z30T : z30.T ≠ keyT ∧ z30.T ≠ boxT := ⟨fun h => absurd (show 30 = keyT from h) (by decide), fun h => absurd (show 30 = boxT from h) (by decide)⟩
theorem o36T (a b : PV) : (⟨36, [a, b], 0⟩ : PObj).T ≠ keyT ∧ (⟨36, [a, b], 0⟩ : PObj).T ≠ boxT := ⟨fun h => absurd (show 36 = keyT from h) (by decide), fun h => absurd (show 36 = boxT from h) (by decide)⟩
theorem c21 (H : PH) : CallOk prog 21 [] H fun r _ => r = .bool true := by
 (refine fnS (imm := imm21t) ttKw_ok func21 ?_; (conv => whnf))
 refine callK_of (c15x H) ?_
 rintro _ X ⟨kid, xid, pid, l, v, rfl, hsm, hinc, hK, hxk, hxr, hp, hev⟩
 conv => whnf
 have hlt : kid < X.length := by obtain ⟨v, hv⟩ := hK.k; exact (List.getElem?_eq_some_iff.1 hv).1
 have hlp := (List.getElem?_eq_some_iff.1 hp).1
 have hlr : H.length < X.length := by have := hK.ring.ex.choose_spec; exact (List.getElem?_eq_some_iff.1 this).1
 have hpk : pid ≠ kid := by
  rintro rfl
  obtain ⟨w, hw⟩ := hK.k
  rw [hp] at hw
  exact absurd (congrArg (fun o => o.map PObj.T) hw) (by intro h; exact absurd (Option.some.inj h) (show ¬ 36 = 134 by decide))
 have e1 : Evo (fun _ => False) X (X ++ [z30]) := Evo.app X _
 obtain ⟨X1, ⟨hK2, e2⟩, h16⟩ := c16d (hK.evo e1 id id) (by decide) (by decide) (by decide) qK1 ⟨by decide, by decide, by decide, by decide⟩ 5 draw1
 obtain ⟨hR1, hR1k⟩ := as1 hsm ((0 : Nat) : Int)
 generalize asV aedu l ((0 : Nat) : Int) qK1 5 draw1 = R1 at *
 have hb1 : ∀ m k, bump R1 m k = m + k := fun m k => if_pos hR1
 rw [hb1, hb1] at hK2
 have hp1 := e1.same _ _ hp id (o36T _ _).1 (o36T _ _).2
 have hz1 : X1[X.length]? = some z30 := e2.same _ _ (get_last X _) (by show ¬ X.length = kid; omega) z30T.1 z30T.2
 refine drawK_of2 (D21 (X).length) [X ++ [z30], X1, (X1).set (X).length (⟨30, R1.1.cells, 1⟩ : PObj)] (by kernel_rfl) ⟨rfl, rfl⟩ trivial ?_
 conv => whnf
 iterate 3 (refine dS ?_; (conv => whnf))
 apply Exists.intro
 apply And.intro
 ·conv => whnf
  ((conv in (_[_]?) => tactic => exact hp1); (conv => whnf))
  exact ⟨rfl, rfl, trivial⟩
 conv => whnf
 refine ⟨_, callK_pure c17 ⟨rfl, rfl, trivial⟩, ?_⟩
 conv => whnf
 refine ⟨_, callK_pure (c18 aedu aedu (by decide)) ⟨rfl, rfl, trivial⟩, ?_⟩
 conv => whnf
 iterate 2 (refine dS ?_; (conv => whnf))
 refine ⟨_, callK_args (args' := [.ptr (some (kid, 0)), .agg qK1.cells, .int .i64 5, .agg (keyC draw1)]) rfl (callK_of h16 (by rintro _ _ ⟨rfl, rfl⟩; exact ⟨rfl, rfl, trivial⟩)), ?_⟩
 conv => whnf
 iterate 2 (refine dS ?_; (conv => whnf))
 (refine dS2 ?_; (conv => whnf))
 refine ⟨.ptr (some ((X).length, 0)), ?_, ?_⟩
 ·conv => whnf
  refine ⟨⟨⟨rfl, rfl, trivial⟩, get_last X _⟩, ?_⟩
  conv => whnf
  exact ⟨⟨rfl, rfl, trivial⟩, hz1⟩
 conv => whnf
 apply Exists.intro
 apply And.intro
 ·conv => whnf
  ((conv in (_[_]?) => tactic => exact hz1); (conv => whnf))
  exact ⟨rfl, rfl, trivial⟩
 conv => whnf
 (refine dS ?_; (conv => whnf))
 conv => whnf
 have e3 : Evo (· = X.length) X1 (X1.set X.length ⟨30, R1.1.cells, 1⟩) := Evo.setOther hz1 rfl z30T.1 z30T.2
 have hK3 := hK2.evo e3 (by show ¬ kid = X.length; omega) (by show ¬ H.length = X.length; omega)
 have hp3 := e3.same _ _ (e2.same _ _ hp1 hpk (o36T _ _).1 (o36T _ _).2) (by show ¬ pid = X.length; omega) (o36T _ _).1 (o36T _ _).2
 have ho3 : (X1.set X.length (⟨30, R1.1.cells, 1⟩ : PObj))[X.length]? = some ⟨30, R1.1.cells, 1⟩ := get_set hz1
 have o30T : (⟨30, R1.1.cells, 1⟩ : PObj).T ≠ keyT ∧ (⟨30, R1.1.cells, 1⟩ : PObj).T ≠ boxT := z30T
 obtain ⟨Y, hY⟩ : ∃ Y, Y = X1.set X.length (⟨30, R1.1.cells, 1⟩ : PObj) := ⟨_, rfl⟩
 rw [← hY] at hK3 hp3 ho3 e3
 have hly : X.length < Y.length := (List.getElem?_eq_some_iff.1 ho3).1
 have e4 : Evo (fun _ => False) Y (Y ++ [z30]) := Evo.app Y _
 obtain ⟨Y1, ⟨hK5, e5⟩, h17⟩ := c16d (hK3.evo e4 id id) (by decide) (by decide) (by decide) qK2 ⟨by decide, by decide, by decide, by decide⟩ 5 draw1
 have hR2 := as2 hsm ((0 + 2 : Nat) : Int)
 generalize asV aedu l ((0 + 2 : Nat) : Int) qK2 5 draw1 = R2 at *
 have hb2 : ∀ m k, bump R2 m k = m := fun m k => if_neg (by rw [hR2]; decide)
 rw [hb2, hb2] at hK5
 have hp4 := e4.same _ _ hp3 id (o36T _ _).1 (o36T _ _).2
 have hz2 : Y1[Y.length]? = some z30 := e5.same _ _ (get_last Y _) (by show ¬ Y.length = kid; omega) z30T.1 z30T.2
 have e6 : Evo (· = Y.length) Y1 (Y1.set Y.length ⟨30, R2.1.cells, 1⟩) := Evo.setOther hz2 rfl z30T.1 z30T.2
 have hK6 := hK5.evo e6 (by show ¬ kid = Y.length; omega) (by show ¬ H.length = Y.length; omega)
 have hp6 := e6.same _ _ (e5.same _ _ hp4 hpk (o36T _ _).1 (o36T _ _).2) (by show ¬ pid = Y.length; omega) (o36T _ _).1 (o36T _ _).2
 have ho6 := e6.same _ _ (e5.same _ _ (e4.same _ _ ho3 id o30T.1 o30T.2) (by show ¬ X.length = kid; omega) o30T.1 o30T.2) (by show ¬ X.length = Y.length; omega) o30T.1 o30T.2
 refine drawK_of2 (D21 (Y).length) [Y ++ [z30], Y1, (Y1).set (Y).length (⟨30, R2.1.cells, 1⟩ : PObj)] (by kernel_rfl) ⟨by rw [hY]; rfl, by rw [hY]; rfl⟩ trivial ?_
 conv => whnf
 iterate 3 (refine dS ?_; (conv => whnf))
 apply Exists.intro
 apply And.intro
 ·conv => whnf
  ((conv in (_[_]?) => tactic => exact hp4); (conv => whnf))
  exact ⟨rfl, rfl, trivial⟩
 conv => whnf
 refine ⟨_, callK_pure c27 ⟨rfl, rfl, trivial⟩, ?_⟩
 conv => whnf
 refine ⟨_, callK_pure c17 ⟨rfl, rfl, trivial⟩, ?_⟩
 conv => whnf
 iterate 2 (refine dS ?_; (conv => whnf))
 refine ⟨_, callK_args (args' := [.ptr (some (kid, 0)), .agg qK2.cells, .int .i64 5, .agg (keyC draw1)]) rfl (callK_of h17 (by rintro _ _ ⟨rfl, rfl⟩; exact ⟨rfl, rfl, trivial⟩)), ?_⟩
 conv => whnf
 iterate 2 (refine dS ?_; (conv => whnf))
 (refine dS2 ?_; (conv => whnf))
 refine ⟨.ptr (some ((Y).length, 0)), ?_, ?_⟩
 ·conv => whnf
  refine ⟨⟨⟨rfl, rfl, trivial⟩, get_last Y _⟩, ?_⟩
  conv => whnf
  exact ⟨⟨rfl, rfl, trivial⟩, hz2⟩
 conv => whnf
 apply Exists.intro
 apply And.intro
 ·conv => whnf
  ((conv in (_[_]?) => tactic => exact hz2); (conv => whnf))
  exact ⟨rfl, rfl, trivial⟩
 conv => whnf
 (refine dS ?_; (conv => whnf))
 conv => whnf
 refine ⟨fun _ => ?_, fun h => absurd hR1 h⟩
 conv => whnf
 refine ⟨fun _ => ?_, fun h => absurd hR2 h⟩
 conv => whnf
 ((conv in (_[_]?) => tactic => exact ho6); (conv => whnf))
 refine ⟨fun _ => ?_, fun h => absurd hR1k h⟩
 conv => whnf
 ((conv in (_[_]?) => tactic => exact hp6); (conv => whnf))
 obtain ⟨w, hw⟩ := hK6.k
 refine callK_of (c20 hw) ?_
 rintro _ _ ⟨hx7, hH7⟩
 rw [hx7, hH7]; clear hx7 hH7
 conv => whnf
 refine ⟨fun _ => ?_, fun h => absurd rfl h⟩
 conv => whnf
 rfl
set_option maxHeartbeats 1000000
def KnownP (r n : List UInt8) : Prop := r = aedu ∧ (n = ann ∨ n = mail ∨ n = krb aedu ∨ n = krb edu)
instance (r n : List UInt8) : Decidable (KnownP r n) := by unfold KnownP; exact inferInstance
set_option maxHeartbeats 4000000
theorem AsQ.fits {q : AsQ} (hf : q.fit) : (asMsg q).fits := by
 obtain ⟨f1, f2, f3, f4⟩ := hf
 unfold Msg.fits asMsg mZ
 exact ⟨by show q.cr.length ≤ _; omega, by show q.cn.length ≤ _; omega, by show q.sr.length ≤ _; omega, by show q.sn.length ≤ _; omega, Nat.zero_le _, Nat.zero_le _, Nat.zero_le _, Nat.zero_le _, Nat.zero_le _, Nat.zero_le _, Nat.zero_le _, Nat.zero_le _, Nat.zero_le _, Nat.zero_le _⟩
set_option maxHeartbeats 2000000
def oldH : PH := [ringO [] 0, ⟨25, [.str [65], .str [120]], 1⟩]
theorem oldR : RingAt oldH 0 [] := (newRing (H := [])).evo (S := fun _ => False) (Evo.app [ringO [] 0] [_]) id
set_option maxHeartbeats 4000000
def ttN0 : TT := [(2, ⟨.int .i64, 1, 8, [.int .i64 0]⟩), (3, ⟨.int .i64, 1, 8, [.int .i64 0]⟩), (4, ⟨.bool, 1, 1, [.bool false]⟩), (5, ⟨.int .u8, 1, 1, [.int .u8 0]⟩), (9, ⟨.str, 1, 16, [.str []]⟩), (25, ⟨.strct [(9, 0), (9, 1)], 2, 32, [.str [], .str []]⟩), (26, ⟨.slice 5, 1, 24, [.slice 0 [] (some 5)]⟩), (28, ⟨.strct [(25, 0), (3, 2), (26, 3)], 4, 64, [.str [], .str [], .int .i64 0, .slice 0 [] (some 5)]⟩), (30, ⟨.strct [(25, 0), (28, 2), (26, 6)], 7, 120, [.str [], .str [], .str [], .str [], .int .i64 0, .slice 0 [] (some 5), .slice 0 [] (some 5)]⟩), (31, ⟨.int .i64, 1, 8, [.int .i64 0]⟩), (33, ⟨.ptr, 1, 8, [.ptr none]⟩), (41, ⟨.strct [(25, 0), (25, 2), (3, 4), (3, 5)], 6, 80, [.str [], .str [], .str [], .str [], .int .i64 0, .int .i64 0]⟩), (43, ⟨.arr 32 5, 32, 32, List.replicate 32 (.int .u8 0)⟩), (50, ⟨.strct [(25, 0), (43, 2), (9, 34), (3, 35), (3, 36)], 37, 96, [.str [], .str []] ++ List.replicate 32 (.int .u8 0) ++ [.str [], .int .i64 0, .int .i64 0]⟩), (64, ⟨.strct [(28, 0), (26, 4), (25, 5), (3, 7), (3, 8)], 9, 136, [.str [], .str [], .int .i64 0, .slice 0 [] (some 5), .slice 0 [] (some 5), .str [], .str [], .int .i64 0, .int .i64 0]⟩), (88, ⟨.slice 9, 1, 24, [.slice 0 [] (some 9)]⟩), (89, ⟨.slice 200, 1, 24, [.slice 0 [] (some 200)]⟩), (90, ⟨.slice 261, 1, 24, [.slice 0 [] (some 261)]⟩), (92, ⟨.strct [(88, 0), (89, 1), (90, 2)], 3, 72, [.slice 0 [] (some 9), .slice 0 [] (some 200), .slice 0 [] (some 261)]⟩), (98, ⟨.strct [(28, 0), (26, 4)], 5, 88, [.str [], .str [], .int .i64 0, .slice 0 [] (some 5), .slice 0 [] (some 5)]⟩), (100, ⟨.strct [(31, 0), (3, 1)], 2, 16, [.int .i64 0, .int .i64 0]⟩), (102, ⟨.strct [(3, 0), (41, 1), (64, 7), (30, 16), (98, 23), (100, 28)], 30, 448, [.int .i64 0, .str [], .str [], .str [], .str [], .int .i64 0, .int .i64 0, .str [], .str [], .int .i64 0, .slice 0 [] (some 5), .slice 0 [] (some 5), .str [], .str [], .int .i64 0, .int .i64 0, .str [], .str [], .str [], .str [], .int .i64 0, .slice 0 [] (some 5), .slice 0 [] (some 5), .str [], .str [], .int .i64 0, .slice 0 [] (some 5), .slice 0 [] (some 5), .int .i64 0, .int .i64 0]⟩), (110, ⟨.ptr, 1, 8, [.ptr none]⟩), (126, ⟨.ptr, 1, 8, [.ptr none]⟩), (132, ⟨.strB [(129, 0), (130, 0), (2, 0)], 1, 8, [.int .i64 0]⟩), (134, ⟨.strct [(9, 0), (92, 1), (110, 4), (132, 5), (132, 6)], 7, 112, [.str [], .slice 0 [] (some 9), .slice 0 [] (some 200), .slice 0 [] (some 261), .ptr none, .int .i64 0, .int .i64 0]⟩), (139, ⟨.strct [(25, 0), (50, 2), (3, 39), (126, 40), (3, 41)], 42, 152, [.str [], .str [], .str [], .str []] ++ List.replicate 32 (.int .u8 0) ++ [.str [], .int .i64 0, .int .i64 0, .int .i64 0, .ptr none, .int .i64 0]⟩), (200, ⟨.arr 2 9, 2, 32, [.str [], .str []]⟩), (261, ⟨.strct [(9, 0), (9, 1), (88, 2)], 3, 56, [.str [], .str [], .slice 0 [] (some 9)]⟩)]
theorem ttN0_ok : ttOk prog ttN0 = true := by kernel_rfl
def imm14t : List Nat := []
def imm16n : List Nat := [5, 7]
def imm29n : List Nat := [5, 7]
def imm37n : List Nat := [7]
def imm41n : List Nat := [4]
def zkey : List PV := List.replicate 32 (.int .u8 0)
def q0 : AsQ := ⟨[], [], [], [], 0, 0⟩
theorem c16z (H : PH) : CallOk prog 16 [.ptr none, .agg q0.cells, .int .i64 1, .agg zkey] H fun r H' => r = .tup [.agg repZ.cells, .int .i64 1] ∧ ∃ ext, H' = H ++ ext := by
 have h47 := (c47 (asMsg q0) (AsQ.fits ⟨by decide, by decide, by decide, by decide⟩)).of_eq (encAs_no q0 (by decide))
 (refine fnS (imm := imm16n) ttN0_ok func16 ?_; (conv => whnf))
 refine callK_pure h47 ?_
 conv => whnf
 (repeat (first | ((first | (apply exA; (focus exact oN)) | refine ⟨fun _ => ?_, fun h => absurd (by first | assumption | rfl | decide | omega) h⟩ | refine ⟨fun h => absurd h (by first | assumption | rfl | decide | omega), fun _ => ?_⟩ | refine And.intro ⟨by exact fitS, by exact fitS⟩ ⟨fun _ => ?_, fun h => absurd (by first | assumption | rfl | decide | omega) h⟩ | refine And.intro ⟨by exact fitS, by exact fitS⟩ ⟨fun h => absurd h (by first | assumption | rfl | decide | omega), fun _ => ?_⟩ | (apply callK_pure; (focus assumption)) | (apply callK_eq; (focus assumption)) | refine ⟨by first | decide | omega, ?_⟩); ((conv => whnf))) | ((conv in (_[_]?) => tactic => first | exact oL | exact get_set (by assumption)); (conv => whnf))))
 exact ⟨rfl, _, set_last H _ _⟩
def mTz : Msg := { mZ with kind := 2, tBo := none, tAuo := none }
theorem c29z (H : PH) : CallOk prog 29 [.ptr none, .agg mZ.tgs, .int .i64 1, .agg zkey] H fun r H' => r = .tup [.agg repZ.cells, .int .i64 1] ∧ ∃ ext, H' = H ++ ext := by
 have h47 := (c47 mTz ⟨by decide, by decide, by decide, by decide, by decide, by decide, by decide, by decide, by decide, by decide, by decide, by decide, by decide, by decide⟩).of_eq (encV_no (fun hh => absurd hh.1 (by decide)))
 (refine fnS (imm := imm29n) ttN0_ok func29 ?_; (conv => whnf))
 refine callK_pure h47 ?_
 conv => whnf
 (repeat (first | ((first | (apply exA; (focus exact oN)) | refine ⟨fun _ => ?_, fun h => absurd (by first | assumption | rfl | decide | omega) h⟩ | refine ⟨fun h => absurd h (by first | assumption | rfl | decide | omega), fun _ => ?_⟩ | refine And.intro ⟨by exact fitS, by exact fitS⟩ ⟨fun _ => ?_, fun h => absurd (by first | assumption | rfl | decide | omega) h⟩ | refine And.intro ⟨by exact fitS, by exact fitS⟩ ⟨fun h => absurd h (by first | assumption | rfl | decide | omega), fun _ => ?_⟩ | (apply callK_pure; (focus assumption)) | (apply callK_eq; (focus assumption)) | refine ⟨by first | decide | omega, ?_⟩); ((conv => whnf))) | ((conv in (_[_]?) => tactic => first | exact oL | exact get_set (by assumption)); (conv => whnf))))
 exact ⟨rfl, _, set_last H _ _⟩
theorem repZ_old : Ps.oldR (.tup [.agg repZ.cells, .int .i64 1]) = true := rfl
theorem c16zp : Pure prog 16 [.ptr none, .agg q0.cells, .int .i64 1, .agg zkey] (.tup [.agg repZ.cells, .int .i64 1]) := Pure.of_gc repZ_old fun H => c16z H
theorem c29zp : Pure prog 29 [.ptr none, .agg mZ.tgs, .int .i64 1, .agg zkey] (.tup [.agg repZ.cells, .int .i64 1]) := Pure.of_gc repZ_old fun H => c29z H
theorem c20z : Pure prog 20 [.ptr none] (.int .i64 0) := by
 intro H
 (refine fnS (imm := imm14t) ttN0_ok func20 ?_; (conv => whnf))
 exact ⟨rfl, rfl⟩
theorem c41z (H : PH) : CallOk prog 41 [.str edu, .agg (treeC rs0 ls0 none none none), .ptr none] H fun r H' => r = .tup [.ptr none, .int .i64 1] ∧ H' = H := by
 (refine fnS (imm := imm41n) ttN0_ok func41 ?_; (conv => whnf))
 refine callK_of (c94x tree0 none none none H) ?_
 rintro _ _ ⟨rfl, rfl⟩
 conv => whnf
 refine callK_pure ((c95 rs0 edu _ (by decide)).of_eq (congrArg PV.bool (decide_eq_true (show edu ∈ rs0 by decide)))) ?_
 conv => whnf
 exact ⟨rfl, rfl⟩
theorem c41n (r : List UInt8) (hr : ¬ r ∈ rs0) (rid off : Nat) (H : PH) : CallOk prog 41 [.str r, .agg (treeC rs0 ls0 none none none), .ptr (some (rid, off))] H fun x H' => x = .tup [.ptr none, .int .i64 1] ∧ H' = H := by
 (refine fnS (imm := imm41n) ttN0_ok func41 ?_; (conv => whnf))
 refine callK_of (c94x tree0 none none none H) ?_
 rintro _ _ ⟨rfl, rfl⟩
 conv => whnf
 refine callK_pure ((c95 rs0 r _ (by decide)).of_eq (congrArg PV.bool (decide_eq_false hr))) ?_
 conv => whnf
 exact ⟨rfl, rfl⟩
theorem decV_form (b : List UInt8) : ∃ (m : Msg) (e : Int), decV b = .tup [.agg m.cells, .int .i64 e] := by
 unfold decV
 cases h : okM (takenB b) b
 ·rw [agM_no h]; exact ⟨_, _, rfl⟩
 ·rw [agM_yes h]; exact ⟨_, _, rfl⟩
theorem c37z (b : List UInt8) (hb : b.length ≤ 1000000) (H : PH) : CallOk prog 37 [.ptr none, sl b, .int .i64 1, .agg zkey] H fun r H' => r = .slice 0 [] (some 5) ∧ ∃ ext, H' = H ++ ext := by
 obtain ⟨m, e, hm⟩ := decV_form b
 have h87 := (c87 b (by omega)).of_eq hm
 (refine fnS (imm := imm37n) ttN0_ok func37 ?_; (conv => whnf))
 refine callK_pure h87 ?_
 conv => whnf
 (repeat (first | ((first | (apply exA; (focus exact oN)) | refine ⟨fun _ => ?_, fun h => absurd (by first | assumption | rfl | decide | omega) h⟩ | refine ⟨fun h => absurd h (by first | assumption | rfl | decide | omega), fun _ => ?_⟩ | refine And.intro ⟨by exact fitS, by exact fitS⟩ ⟨fun _ => ?_, fun h => absurd (by first | assumption | rfl | decide | omega) h⟩ | refine And.intro ⟨by exact fitS, by exact fitS⟩ ⟨fun h => absurd h (by first | assumption | rfl | decide | omega), fun _ => ?_⟩ | (apply callK_pure; (focus assumption)) | (apply callK_eq; (focus assumption)) | refine ⟨by first | decide | omega, ?_⟩); ((conv => whnf))) | ((conv in (_[_]?) => tactic => first | exact oL | exact get_set (by assumption)); (conv => whnf))))
 exact ⟨rfl, _, set_last H _ _⟩
theorem c14o (realm b : List UInt8) (h1 : realm.length ≤ 140737488351232) (h2 : b.length ≤ 140737488351232) (H : PH) : CallOk prog 14 [.str realm, sl b] H fun r _ => r = .bool true := by
 have last : ∀ (H : PH) (K : PV → PH → Prop), (∀ H', K (.bool true) H') → callK prog 21 [] H K := fun H K h => callK_of (c21 H) fun r H' hr => by rw [hr]; exact h H'
 (refine fnS (imm := imm14t) ttN0_ok func14 ?_; (conv => whnf))
 by_cases h3 : (60 : Int) < (realm.length : Int)
 ·(repeat (first | ((first | (apply exA; (focus exact oN)) | refine ⟨fun _ => ?_, fun h => absurd (by first | assumption | rfl | decide | omega) h⟩ | refine ⟨fun h => absurd h (by first | assumption | rfl | decide | omega), fun _ => ?_⟩ | refine And.intro ⟨by exact fitS, by exact fitS⟩ ⟨fun _ => ?_, fun h => absurd (by first | assumption | rfl | decide | omega) h⟩ | refine And.intro ⟨by exact fitS, by exact fitS⟩ ⟨fun h => absurd h (by first | assumption | rfl | decide | omega), fun _ => ?_⟩ | (apply callK_pure; (focus assumption)) | (apply callK_eq; (focus assumption)) | refine ⟨by first | decide | omega, ?_⟩); ((conv => whnf))) | ((conv in (_[_]?) => tactic => first | exact oL | exact get_set (by assumption)); (conv => whnf)))); rfl
 by_cases h4 : (500 : Int) < (b.length : Int)
 ·(repeat (first | ((first | (apply exA; (focus exact oN)) | refine ⟨fun _ => ?_, fun h => absurd (by first | assumption | rfl | decide | omega) h⟩ | refine ⟨fun h => absurd h (by first | assumption | rfl | decide | omega), fun _ => ?_⟩ | refine And.intro ⟨by exact fitS, by exact fitS⟩ ⟨fun _ => ?_, fun h => absurd (by first | assumption | rfl | decide | omega) h⟩ | refine And.intro ⟨by exact fitS, by exact fitS⟩ ⟨fun h => absurd h (by first | assumption | rfl | decide | omega), fun _ => ?_⟩ | (apply callK_pure; (focus assumption)) | (apply callK_eq; (focus assumption)) | refine ⟨by first | decide | omega, ?_⟩); ((conv => whnf))) | ((conv in (_[_]?) => tactic => first | exact oL | exact get_set (by assumption)); (conv => whnf)))); rfl
 have k16 := c16zp
 have k29 := c29zp
 have k42 := c42
 have k20 := c20z
 have k37 : ∀ (X : PH) (K : PV → PH → Prop), (∀ H', K (.slice 0 [] (some 5)) H') → callK prog 37 [.ptr none, sl b, .int .i64 1, .agg zkey] X K := fun X K h => callK_of (c37z b (by omega) X) fun r H' hr => by rw [hr.1]; exact h H'
 (repeat (first | ((first | (apply exA; (focus exact oN)) | refine ⟨fun _ => ?_, fun h => absurd (by first | assumption | rfl | decide | omega) h⟩ | refine ⟨fun h => absurd h (by first | assumption | rfl | decide | omega), fun _ => ?_⟩ | refine And.intro ⟨by exact fitS, by exact fitS⟩ ⟨fun _ => ?_, fun h => absurd (by first | assumption | rfl | decide | omega) h⟩ | refine And.intro ⟨by exact fitS, by exact fitS⟩ ⟨fun h => absurd h (by first | assumption | rfl | decide | omega), fun _ => ?_⟩ | (apply callK_pure; (focus assumption)) | (apply callK_eq; (focus assumption)) | refine ⟨by first | decide | omega, ?_⟩); ((conv => whnf))) | ((conv in (_[_]?) => tactic => first | exact oL | exact get_set (by assumption)); (conv => whnf))))
 refine callK_of (c41z _) ?_
 rintro _ _ ⟨rfl, rfl⟩
 conv => whnf
 (repeat (first | ((first | (apply exA; (focus exact oN)) | refine ⟨fun _ => ?_, fun h => absurd (by first | assumption | rfl | decide | omega) h⟩ | refine ⟨fun h => absurd h (by first | assumption | rfl | decide | omega), fun _ => ?_⟩ | refine And.intro ⟨by exact fitS, by exact fitS⟩ ⟨fun _ => ?_, fun h => absurd (by first | assumption | rfl | decide | omega) h⟩ | refine And.intro ⟨by exact fitS, by exact fitS⟩ ⟨fun h => absurd h (by first | assumption | rfl | decide | omega), fun _ => ?_⟩ | (apply callK_pure; (focus assumption)) | (apply callK_eq; (focus assumption)) | refine ⟨by first | decide | omega, ?_⟩); ((conv => whnf))) | ((conv in (_[_]?) => tactic => first | exact oL | exact get_set (by assumption)); (conv => whnf))))
 refine callK_of (c43 _) ?_
 rintro _ X ⟨rfl, hX⟩
 conv => whnf
 by_cases hr : realm ∈ rs0
 ·refine callK_of (c41 tree0 realm hr _ 0 _) ?_
  rintro _ _ ⟨rfl, rfl⟩
  conv => whnf
  have hr' : realm = aedu ∨ realm = edu ∨ realm = bedu := by simpa [rs0] using hr
  rcases hr' with rfl | rfl | rfl
  ·have n1 : ¬ aedu = [69, 68, 85] := by decide
   (repeat (first | ((first | (apply exA; (focus exact oN)) | refine ⟨fun _ => ?_, fun h => absurd (by first | assumption | rfl | decide | omega) h⟩ | refine ⟨fun h => absurd h (by first | assumption | rfl | decide | omega), fun _ => ?_⟩ | refine And.intro ⟨by exact fitS, by exact fitS⟩ ⟨fun _ => ?_, fun h => absurd (by first | assumption | rfl | decide | omega) h⟩ | refine And.intro ⟨by exact fitS, by exact fitS⟩ ⟨fun h => absurd h (by first | assumption | rfl | decide | omega), fun _ => ?_⟩ | (apply callK_pure; (focus assumption)) | (apply callK_eq; (focus assumption)) | refine ⟨by first | decide | omega, ?_⟩); ((conv => whnf))) | ((conv in (_[_]?) => tactic => first | exact oL | exact get_set (by assumption)); (conv => whnf))))
   refine k37 _ _ fun H' => ?_
   conv => whnf
   (repeat (first | ((first | (apply exA; (focus exact oN)) | refine ⟨fun _ => ?_, fun h => absurd (by first | assumption | rfl | decide | omega) h⟩ | refine ⟨fun h => absurd h (by first | assumption | rfl | decide | omega), fun _ => ?_⟩ | refine And.intro ⟨by exact fitS, by exact fitS⟩ ⟨fun _ => ?_, fun h => absurd (by first | assumption | rfl | decide | omega) h⟩ | refine And.intro ⟨by exact fitS, by exact fitS⟩ ⟨fun h => absurd h (by first | assumption | rfl | decide | omega), fun _ => ?_⟩ | (apply callK_pure; (focus assumption)) | (apply callK_eq; (focus assumption)) | refine ⟨by first | decide | omega, ?_⟩); ((conv => whnf))) | ((conv in (_[_]?) => tactic => first | exact oL | exact get_set (by assumption)); (conv => whnf))))
   refine last _ _ fun H' => ?_
   conv => whnf
   rfl
  ·(repeat (first | ((first | (apply exA; (focus exact oN)) | refine ⟨fun _ => ?_, fun h => absurd (by first | assumption | rfl | decide | omega) h⟩ | refine ⟨fun h => absurd h (by first | assumption | rfl | decide | omega), fun _ => ?_⟩ | refine And.intro ⟨by exact fitS, by exact fitS⟩ ⟨fun _ => ?_, fun h => absurd (by first | assumption | rfl | decide | omega) h⟩ | refine And.intro ⟨by exact fitS, by exact fitS⟩ ⟨fun h => absurd h (by first | assumption | rfl | decide | omega), fun _ => ?_⟩ | (apply callK_pure; (focus assumption)) | (apply callK_eq; (focus assumption)) | refine ⟨by first | decide | omega, ?_⟩); ((conv => whnf))) | ((conv in (_[_]?) => tactic => first | exact oL | exact get_set (by assumption)); (conv => whnf))))
   refine k37 _ _ fun H' => ?_
   conv => whnf
   (repeat (first | ((first | (apply exA; (focus exact oN)) | refine ⟨fun _ => ?_, fun h => absurd (by first | assumption | rfl | decide | omega) h⟩ | refine ⟨fun h => absurd h (by first | assumption | rfl | decide | omega), fun _ => ?_⟩ | refine And.intro ⟨by exact fitS, by exact fitS⟩ ⟨fun _ => ?_, fun h => absurd (by first | assumption | rfl | decide | omega) h⟩ | refine And.intro ⟨by exact fitS, by exact fitS⟩ ⟨fun h => absurd h (by first | assumption | rfl | decide | omega), fun _ => ?_⟩ | (apply callK_pure; (focus assumption)) | (apply callK_eq; (focus assumption)) | refine ⟨by first | decide | omega, ?_⟩); ((conv => whnf))) | ((conv in (_[_]?) => tactic => first | exact oL | exact get_set (by assumption)); (conv => whnf))))
   refine last _ _ fun H' => ?_
   conv => whnf
   rfl
  ·have n1 : ¬ bedu = [69, 68, 85] := by decide
   have n2 : ¬ bedu = [65, 46, 69, 68, 85] := by decide
   (repeat (first | ((first | (apply exA; (focus exact oN)) | refine ⟨fun _ => ?_, fun h => absurd (by first | assumption | rfl | decide | omega) h⟩ | refine ⟨fun h => absurd h (by first | assumption | rfl | decide | omega), fun _ => ?_⟩ | refine And.intro ⟨by exact fitS, by exact fitS⟩ ⟨fun _ => ?_, fun h => absurd (by first | assumption | rfl | decide | omega) h⟩ | refine And.intro ⟨by exact fitS, by exact fitS⟩ ⟨fun h => absurd h (by first | assumption | rfl | decide | omega), fun _ => ?_⟩ | (apply callK_pure; (focus assumption)) | (apply callK_eq; (focus assumption)) | refine ⟨by first | decide | omega, ?_⟩); ((conv => whnf))) | ((conv in (_[_]?) => tactic => first | exact oL | exact get_set (by assumption)); (conv => whnf))))
   refine k37 _ _ fun H' => ?_
   conv => whnf
   (repeat (first | ((first | (apply exA; (focus exact oN)) | refine ⟨fun _ => ?_, fun h => absurd (by first | assumption | rfl | decide | omega) h⟩ | refine ⟨fun h => absurd h (by first | assumption | rfl | decide | omega), fun _ => ?_⟩ | refine And.intro ⟨by exact fitS, by exact fitS⟩ ⟨fun _ => ?_, fun h => absurd (by first | assumption | rfl | decide | omega) h⟩ | refine And.intro ⟨by exact fitS, by exact fitS⟩ ⟨fun h => absurd h (by first | assumption | rfl | decide | omega), fun _ => ?_⟩ | (apply callK_pure; (focus assumption)) | (apply callK_eq; (focus assumption)) | refine ⟨by first | decide | omega, ?_⟩); ((conv => whnf))) | ((conv in (_[_]?) => tactic => first | exact oL | exact get_set (by assumption)); (conv => whnf))))
   refine last _ _ fun H' => ?_
   conv => whnf
   rfl
 ·refine callK_of (c41n realm hr _ 0 _) ?_
  rintro _ _ ⟨rfl, rfl⟩
  conv => whnf
  have n1 : ¬ realm = [69, 68, 85] := fun h => hr (by rw [h]; decide)
  have n2 : ¬ realm = [65, 46, 69, 68, 85] := fun h => hr (by rw [h]; decide)
  have n3 : ¬ realm = [66, 46, 69, 68, 85] := fun h => hr (by rw [h]; decide)
  (repeat (first | ((first | (apply exA; (focus exact oN)) | refine ⟨fun _ => ?_, fun h => absurd (by first | assumption | rfl | decide | omega) h⟩ | refine ⟨fun h => absurd h (by first | assumption | rfl | decide | omega), fun _ => ?_⟩ | refine And.intro ⟨by exact fitS, by exact fitS⟩ ⟨fun _ => ?_, fun h => absurd (by first | assumption | rfl | decide | omega) h⟩ | refine And.intro ⟨by exact fitS, by exact fitS⟩ ⟨fun h => absurd h (by first | assumption | rfl | decide | omega), fun _ => ?_⟩ | (apply callK_pure; (focus assumption)) | (apply callK_eq; (focus assumption)) | refine ⟨by first | decide | omega, ?_⟩); ((conv => whnf))) | ((conv in (_[_]?) => tactic => first | exact oL | exact get_set (by assumption)); (conv => whnf))))
  refine k37 _ _ fun H' => ?_
  conv => whnf
  (repeat (first | ((first | (apply exA; (focus exact oN)) | refine ⟨fun _ => ?_, fun h => absurd (by first | assumption | rfl | decide | omega) h⟩ | refine ⟨fun h => absurd h (by first | assumption | rfl | decide | omega), fun _ => ?_⟩ | refine And.intro ⟨by exact fitS, by exact fitS⟩ ⟨fun _ => ?_, fun h => absurd (by first | assumption | rfl | decide | omega) h⟩ | refine And.intro ⟨by exact fitS, by exact fitS⟩ ⟨fun h => absurd h (by first | assumption | rfl | decide | omega), fun _ => ?_⟩ | (apply callK_pure; (focus assumption)) | (apply callK_eq; (focus assumption)) | refine ⟨by first | decide | omega, ?_⟩); ((conv => whnf))) | ((conv in (_[_]?) => tactic => first | exact oL | exact get_set (by assumption)); (conv => whnf))))
  refine last _ _ fun H' => ?_
  conv => whnf
  rfl
end Go.Proofs.Tryz
namespace Go.Proofs.YtdnggpdgijobfaaGreatDoor
open Go Go.RowKit Ps
theorem rows_ints {k : IntKind} : ∀ {rs : List (List PV)}, (∀ r ∈ rs, ∃ x, r = [.int k x] ∧ (Lit.int k x).wf = true) → ∃ xs : List Int, rs.length = xs.length ∧ rs.flatten = xs.map (.int k) ∧ ∀ x ∈ xs, (Lit.int k x).wf = true
 | [], _ => ⟨[], rfl, rfl, fun x h => by cases h⟩
 | r :: rs, h => by
  obtain ⟨x, rfl, hx⟩ := h r List.mem_cons_self
  obtain ⟨xs, h1, h2, h3⟩ := rows_ints fun r hr => h r (List.mem_cons_of_mem _ hr)
  exact ⟨x :: xs, by simp [h1], by simp [h2], fun y hy => by
   rcases List.mem_cons.1 hy with rfl | hy
   ·exact hx
   ·exact h3 y hy⟩
theorem bytes_of : ∀ {xs : List Int}, (∀ x ∈ xs, (Lit.int .u8 x).wf = true) → ∃ bs : List UInt8, xs.length = bs.length ∧ xs.map (PV.int .u8) = bs.map byteC
 | [], _ => ⟨[], rfl, rfl⟩
 | x :: xs, h => by
  obtain ⟨bs, h1, h2⟩ := bytes_of fun y hy => h y (List.mem_cons_of_mem _ hy)
  have hx := bounds_u8 (h x List.mem_cons_self)
  refine ⟨UInt8.ofNat x.toNat :: bs, by simp [h1], ?_⟩
  rw [List.map_cons, List.map_cons, h2]
  congr 1
  show PV.int .u8 x = .int .u8 _
  rw [UInt8.toNat_ofNat']
  congr 1; omega
theorem own : ownKnob Tryz.prog.godebug = none := by kernel_rfl
theorem laidOut : laidOutB Tryz.prog = true := by kernel_rfl
def litV : DataW Unit → Value
 | .lit (.int k n) => .int k n
 | _ => Go.undef
def litVs : DataW Unit → List Value
 | .agg l => l.map litV
 | d => [litV d]
def tabVs : DataW Unit → List Value
 | .agg l => l.flatMap litVs
 | _ => []
def fillTab (l : List Value) : Obj → Obj
 | .cells _ t frozen => .cells l.toArray t frozen
 | o => o
noncomputable def laidWorld (os : Os) : World :=
 { World.holding Tryz.prog os ⟨#[], #[], []⟩ with heap := ((World.holding Tryz.prog os ⟨#[], #[], []⟩).heap.modify 0 (fillTab (tabVs Rows.laid_unicode_utf8_first))).modify 1 (fillTab (tabVs Rows.laid_unicode_utf8_acceptRanges)) }
theorem laid_met (os : Os) (args : Array Value) : laidMet Tryz.prog [("unicode/utf8.acceptRanges", Rows.laid_unicode_utf8_acceptRanges), ("unicode/utf8.first", Rows.laid_unicode_utf8_first)] ((laidWorld os).forCall (fun _ _ => 0) ⟨#[], args, []⟩).memory :=
 laidMet_of_run' 8 (by kernel_rfl) (by kernel_rfl)
theorem varsB (os : Os) (args : Array Value) : ((laidWorld os).forCall (fun _ _ => 0) ⟨#[], args, []⟩).variablesB Tryz.checked.prog = true := by kernel_rfl
theorem heapB (os : Os) (args : Array Value) : (((laidWorld os).forCall (fun _ _ => 0) ⟨#[], args, []⟩).heap.toList.drop Tryz.checked.prog.globals.size).take ((begin Tryz.checked.prog (fun _ _ => 0) default).world.heap.size - Tryz.checked.prog.globals.size) =
      (begin Tryz.checked.prog (fun _ _ => 0) default).world.heap.toList.drop Tryz.checked.prog.globals.size := by kernel_rfl
theorem noLooks : false = Tryz.prog.looks [] := by kernel_rfl
theorem plainOf {name : String} {k : Nat} {g : Func} (hn : Tryz.prog.funcNamed name = some k) (hg : Tryz.prog.funcs[k]? = some g) (hall : (g.params.toList.all fun t => Tryz.prog.wantsStandIn t == false) = true)
  (f : FuncId) (fn : Func) (hf : Tryz.pinned.checked.prog.funcNamed name = some f) (hfn : Tryz.pinned.checked.prog.funcs[f]? = some fn) :
  false = Tryz.pinned.checked.prog.looks [] ∧ ∀ (j : Nat) t, fn.params[j]? = some t → Tryz.pinned.checked.prog.wantsStandIn t = false := by
 obtain rfl : f = k := Option.some.inj (hn.symm.trans hf) |>.symm
 obtain rfl : fn = g := (Option.some.inj (hg.symm.trans hfn)).symm
 refine ⟨noLooks, fun j t ht => ?_⟩
 have h : Tryz.prog.wantsStandIn t = false := by simpa using List.all_eq_true.1 hall t (Array.mem_toList_iff.2 (Array.mem_of_getElem? ht))
 exact h
end Go.Proofs.YtdnggpdgijobfaaGreatDoor
namespace Go.Proofs.Tryz
open Go Ps
open Go.Proofs.YtdnggpdgijobfaaGreatDoor (rows_ints bytes_of)
theorem rdStr {B n : Nat} {ps : List PV} (h : RdP prog B (n + 1) 9 ps) : ∃ s : List UInt8, ps = [.str s] ∧ s.length ≤ B := h
open Go Ps
open Go.Proofs.YtdnggpdgijobfaaGreatDoor (rows_ints bytes_of)
theorem rdBytes1 {B n : Nat} {ps : List PV} (h : RdP prog B (n + 2) 26 ps) : ∃ b : List UInt8, ps = [sl b] ∧ b.length ≤ B := by
 obtain ⟨rs, rfl, hb, _, hr⟩ : ∃ rs : List (List PV), ps = [.slice rs.length rs.flatten none] ∧ rs.length * prog.bytesOf 5 ≤ B ∧ rs.length ≤ 9223372036854775807 ∧ ∀ r ∈ rs, r.length = prog.cellsOf 5 ∧ RdP prog B (n + 1) 5 r := h
 obtain ⟨xs, e1, e2, e3⟩ := rows_ints (k := .u8) fun r hr' => (hr r hr').2
 obtain ⟨bs, e4, e5⟩ := bytes_of e3
 refine ⟨bs, by unfold sl; rw [e1, e2, e4, e5], ?_⟩
 have hb : rs.length * 1 ≤ B := hb
 omega
end Go.Proofs.Tryz
