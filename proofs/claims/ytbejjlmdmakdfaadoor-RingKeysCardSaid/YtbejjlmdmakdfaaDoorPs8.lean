/- PSem, part 8: operations, second part: places, cuts, calls of the built-in functions that write nothing. -/
import Derived.Test.YtbejjlmdmakdfaaDoorPs7
set_option linter.all false
set_option linter.unusedVariables false
set_option linter.unusedSimpArgs false
set_option linter.unnecessarySimpa false
set_option linter.unusedSimpArgs false
set_option linter.unusedVariables false
namespace Ps
open Go
section
variable {P : Program} {tt : TT} {imm : List Nat} {g0 : Gh} {w0 : World} {H0 : PH} {F0 : Nat → Prop} {N : Nat} {g : Gh} {w : World} {a : Act} {E : Env} {H : PH} {q : Q}

theorem opnd_int (inv : Inv P g0 w0 H0 F0 N g w a E H) {x : Operand} {k : IntKind} {n : Int} (h : opnd E x = .int k n) : a.eval x = .int k n := by
  have := opnd_VC inv.rel x; rw [h] at this; exact this.int

theorem op_indexAddr {T : Nat} {x ix : Operand} {o : Oper} {K : KK} (hT : ttOk P tt = true) (ho : o.op = .indexAddr T x ix) (inv : Inv P g0 w0 H0 F0 N g w a E H) (hq : QRel a g w q) (hp : pOp P tt imm E q H o K) :
    OpS P g0 w0 H0 F0 N a w o K := by
  simp only [pOp, ho, pIndexAddr] at hp
  have hx := opnd_VC inv.rel x
  split at hp
  · rename_i i hi
    split at hp
    · rename_i k j hj
      have hj := opnd_int inv hj
      split at hp
      · rename_i n cs ow hb
        rw [hb] at hx
        split at hp
        · rename_i e hk
          split at hp
          · rename_i ei hei
            obtain ⟨⟨h0, h1⟩, ds, hds, hp⟩ := hp
            rcases hx.slice.inv_slice with ⟨_, hn, _⟩ | ⟨b, off, cap, hvb, hle, himm⟩
            · omega
            · exact OpS.val inv hq (by simp [execOp, ho, hvb, hj, run_indexAt_slice (tis hT hi) hk (tis hT hei) k j h0 h1]) (himm.sub hds).velem hp
          · exact hp.elim
        · exact hp.elim
      · rename_i id off n cap hb
        rw [hb] at hx
        split at hp
        · rename_i e hk
          split at hp
          · rename_i ei hei
            obtain ⟨⟨h0, h1⟩, hp⟩ := hp
            obtain ⟨b, hvb, hib, hle⟩ := (plain_of hx (by simp) (by simp)).inv_sref
            exact OpS.val inv hq (by simp [execOp, ho, hvb, hj, run_indexAt_slice (tis hT hi) hk (tis hT hei) k j h0 h1]) (.ptr id b _ hib) hp
          · exact hp.elim
        · exact hp.elim
      · rename_i cs hb
        rw [hb] at hx
        split at hp
        · rename_i n e hk
          split at hp
          · rename_i ei hei
            obtain ⟨⟨h0, h1⟩, ds, hds, hp⟩ := hp
            obtain ⟨b, off, hvb, himm⟩ := (plain_of hx (by simp) (by simp)).inv_elem
            exact OpS.val inv hq (by simp [execOp, ho, hvb, hj, run_indexAt_arr (tis hT hi) hk (tis hT hei) k j h0 h1]) (himm.sub hds).velem hp
          · exact hp.elim
        · exact hp.elim
      · rename_i id off hb
        rw [hb] at hx
        split at hp
        · rename_i n e hk
          split at hp
          · rename_i ei hei
            obtain ⟨⟨h0, h1⟩, hp⟩ := hp
            obtain ⟨b, hvb, hib⟩ := (plain_of hx (by simp) (by simp)).inv_ptr
            exact OpS.val inv hq (by simp [execOp, ho, hvb, hj, run_indexAt_arr (tis hT hi) hk (tis hT hei) k j h0 h1]) (.ptr id b _ hib) hp
          · exact hp.elim
        · exact hp.elim
      · exact hp.elim
    · exact hp.elim
  · exact hp.elim

theorem op_index {T : Nat} {x ix : Operand} {o : Oper} {K : KK} (hT : ttOk P tt = true) (ho : o.op = .index T x ix) (inv : Inv P g0 w0 H0 F0 N g w a E H) (hq : QRel a g w q) (hp : pOp P tt imm E q H o K) :
    OpS P g0 w0 H0 F0 N a w o K := by
  simp only [pOp, ho, pIndex] at hp
  have hx := opnd_VC inv.rel x
  split at hp
  · rename_i k j hj
    have hj := opnd_int inv hj
    split at hp
    · rename_i s hb
      rw [hb] at hx
      split at hp
      · rename_i i hi
        split at hp
        · rename_i hk
          have hu := (tis hT hi).str hk
          obtain ⟨⟨h0, h1⟩, b, hb', hp⟩ := hp
          have hs : (⟨⟨s⟩⟩ : ByteArray)[j.toNat]? = some b := by
            have hl : j.toNat < s.length := by omega
            rw [getElem?_pos (⟨⟨s⟩⟩ : ByteArray) j.toNat hl]
            rw [List.getElem?_eq_getElem hl] at hb'
            exact hb'
          refine OpS.val (v := .int .u8 b.toNat) inv hq ?_ (.int _ _) hp
          simp [execOp, ho, hx.str, strV_eq, hj, Instr.index, asIntOf, run_underlying hu, h0, hs]
        · exact hp.elim
      · exact hp.elim
    · rename_i cs hb
      rw [hb] at hx
      split at hp
      · rename_i i hi
        split at hp
        · rename_i n e hk
          split at hp
          · rename_i ei hei
            obtain ⟨⟨h0, h1⟩, hp⟩ := hp
            obtain ⟨vs, hvb, hs, hv⟩ := (plain_of hx (by simp) (by simp)).inv_agg
            obtain ⟨u, p, h2, h3, h4⟩ := run_part (tis hT hei) hs hv hp
            exact OpS.val inv hq (by simp [execOp, ho, hvb, hj, Instr.index, asIntOf, run_underlying ((tis hT hi).arr hk), h0, h1, (tis hT hei).run_sizeOf, h2]) h3 h4
          · exact hp.elim
        · exact hp.elim
      · exact hp.elim
    · exact hp.elim
  · exact hp.elim

theorem op_len {c : Call} {o : Oper} {K : KK} (hT : ttOk P tt = true) (ho : o.op = .call c) (hc : c.callee = .builtin .len) (inv : Inv P g0 w0 H0 F0 N g w a E H) (hq : QRel a g w q) (hp : pOp P tt imm E q H o K) :
    OpS P g0 w0 H0 F0 N a w o K := by
  simp only [pOp, ho, hc] at hp
  split at hp
  · rename_i x hx'
    have hargs : c.args = #[x] := by rw [← Array.toList_inj]; exact hx'
    have hx := opnd_VC inv.rel x
    split at hp
    · rename_i T hT'
      have htys : c.argTypes = #[T] := by rw [← Array.toList_inj]; exact hT'
      split at hp
      · rename_i i hi
        split at hp
        · rename_i n cs ow hb
          rw [hb] at hx
          split at hp
          · rename_i e hk
            have hu := (tis hT hi).slice hk
            rcases hx.slice.inv_slice with ⟨hvb, hn, _⟩ | ⟨b, off, cap, hvb, hle, himm⟩
            · exact OpS.val inv hq (by simp [execOp, ho, resolve, hc, hargs, htys, invoke, builtin, Builtin.len_, run_underlying hu, hvb, hn, goInt]) (.int _ _) hp
            · exact OpS.val inv hq (by simp [execOp, ho, resolve, hc, hargs, htys, invoke, builtin, Builtin.len_, run_underlying hu, hvb, goInt]) (.int _ _) hp
          · exact hp.elim
        · rename_i id off n cap hb
          rw [hb] at hx
          split at hp
          · rename_i e hk
            have hu := (tis hT hi).slice hk
            obtain ⟨b, hvb, hib, hle⟩ := (plain_of hx (by simp) (by simp)).inv_sref
            exact OpS.val inv hq (by simp [execOp, ho, resolve, hc, hargs, htys, invoke, builtin, Builtin.len_, run_underlying hu, hvb, goInt]) (.int _ _) hp
          · exact hp.elim
        · rename_i hb
          rw [hb] at hx
          split at hp
          · rename_i e hk
            have hu := (tis hT hi).slice hk
            have hvb := (plain_of hx (by simp) (by simp)).inv_nilS
            exact OpS.val inv hq (by simp [execOp, ho, resolve, hc, hargs, htys, invoke, builtin, Builtin.len_, run_underlying hu, hvb, goInt]) (.int _ _) hp
          · exact hp.elim
        · rename_i s hb
          rw [hb] at hx
          split at hp
          · rename_i hk
            have hu := (tis hT hi).str hk
            have : ((⟨⟨s⟩⟩ : ByteArray).size : Int) = s.length := rfl
            exact OpS.val inv hq (by simp [execOp, ho, resolve, hc, hargs, htys, invoke, builtin, Builtin.len_, run_underlying hu, hx.str, strV_eq, goInt, this]) (.int _ _) hp
          · exact hp.elim
        · exact hp.elim
      · exact hp.elim
    · exact hp.elim
  · exact hp.elim

theorem op_cap {c : Call} {o : Oper} {K : KK} (hT : ttOk P tt = true) (ho : o.op = .call c) (hc : c.callee = .builtin .cap) (inv : Inv P g0 w0 H0 F0 N g w a E H) (hq : QRel a g w q) (hp : pOp P tt imm E q H o K) :
    OpS P g0 w0 H0 F0 N a w o K := by
  simp only [pOp, ho, hc] at hp
  split at hp
  · rename_i x hx'
    have hargs : c.args = #[x] := by rw [← Array.toList_inj]; exact hx'
    have hx := opnd_VC inv.rel x
    split at hp
    · rename_i T hT'
      have htys : c.argTypes = #[T] := by rw [← Array.toList_inj]; exact hT'
      split at hp
      · rename_i i hi
        split at hp
        · rename_i e hk
          have hu := (tis hT hi).slice hk
          split at hp
          · rename_i id off n cap hb
            rw [hb] at hx
            obtain ⟨b, hvb, hib, hle⟩ := (plain_of hx (by simp) (by simp)).inv_sref
            exact OpS.val inv hq (by simp [execOp, ho, resolve, hc, hargs, htys, invoke, builtin, Builtin.cap_, run_underlying hu, hvb, goInt]) (.int _ _) hp
          · rename_i hb
            rw [hb] at hx
            have hvb := (plain_of hx (by simp) (by simp)).inv_nilS
            exact OpS.val inv hq (by simp [execOp, ho, resolve, hc, hargs, htys, invoke, builtin, Builtin.cap_, run_underlying hu, hvb, goInt]) (.int _ _) hp
          · exact hp.elim
        · exact hp.elim
      · exact hp.elim
    · exact hp.elim
  · exact hp.elim

theorem op_min {c : Call} {o : Oper} {K : KK} (ho : o.op = .call c) (hc : c.callee = .builtin .min) (inv : Inv P g0 w0 H0 F0 N g w a E H) (hq : QRel a g w q) (hp : pOp P tt imm E q H o K) :
    OpS P g0 w0 H0 F0 N a w o K := by
  simp only [pOp, ho, hc] at hp
  split at hp
  · rename_i x y hx'
    have hargs : c.args = #[x, y] := by rw [← Array.toList_inj]; exact hx'
    split at hp
    · rename_i k m hm
      have hm := opnd_int inv hm
      split at hp
      · rename_i k' n hn
        have hn := opnd_int inv hn
        obtain ⟨rfl, hp'⟩ := ikeq_eq _ _ _ hp
        refine OpS.val (v := .int k (min m n)) inv hq ?_ (.int _ _) hp'
        have : (if n < m then n else m) = min m n := by omega
        simp [execOp, ho, resolve, hc, hargs, invoke, builtin, Builtin.min_, Builtin.min2, hm, hn, this]
      · exact hp.elim
    · exact hp.elim
  · exact hp.elim
theorem op_max {c : Call} {o : Oper} {K : KK} (ho : o.op = .call c) (hc : c.callee = .builtin .max) (inv : Inv P g0 w0 H0 F0 N g w a E H) (hq : QRel a g w q) (hp : pOp P tt imm E q H o K) :
    OpS P g0 w0 H0 F0 N a w o K := by
  simp only [pOp, ho, hc] at hp
  split at hp
  · rename_i x y hx'
    have hargs : c.args = #[x, y] := by rw [← Array.toList_inj]; exact hx'
    split at hp
    · rename_i k m hm
      have hm := opnd_int inv hm
      split at hp
      · rename_i k' n hn
        have hn := opnd_int inv hn
        obtain ⟨rfl, hp'⟩ := ikeq_eq _ _ _ hp
        refine OpS.val (v := .int k (max m n)) inv hq ?_ (.int _ _) hp'
        have : (if n > m then n else m) = max m n := by omega
        simp [execOp, ho, resolve, hc, hargs, invoke, builtin, Builtin.max_, Builtin.max2, hm, hn]
        omega
      · exact hp.elim
    · exact hp.elim
  · exact hp.elim

theorem frcs_spec : ∀ {xs : List Operand} {K : List PV → Prop}, (∀ x ∈ xs, VC P g w (a.eval x) (opnd E x)) → frcs (opnds E xs) K → ∃ ps, ps.length = xs.length ∧ (∀ (j : Nat) (c : PV), ps[j]? = some c → ∃ x, xs[j]? = some x ∧ V g w (a.eval x) c) ∧ K ps
  | [], K, _, h => ⟨[], rfl, fun j c hj => by simp at hj, h⟩
  | x :: xs, K, hv, h => by
    simp only [opnds, frcs, frc_eq] at h
    obtain ⟨ps, h1, h2, h3⟩ := frcs_spec (fun y hy => hv y (List.mem_cons_of_mem _ hy)) h
    refine ⟨_, by simp [h1], fun j c hj => ?_, h3⟩
    cases j with
    | zero => simp at hj; subst hj; exact ⟨x, rfl, (hv x List.mem_cons_self).dem⟩
    | succ j => simpa using h2 j c (by simpa using hj)

theorem op_makeFunc {f : Nat} {x y : Array Operand} {o : Oper} {K : KK} (ho : o.op = .makeFunc (.func f) x y) (inv : Inv P g0 w0 H0 F0 N g w a E H) (hq : QRel a g w q) (hp : pOp P tt imm E q H o K) :
    OpS P g0 w0 H0 F0 N a w o K := by
  simp only [pOp, ho] at hp
  obtain ⟨ps, h1, h2, hp⟩ := frcs_spec (fun x _ => opnd_VC inv.rel x) hp
  obtain ⟨qs, h3, h4, hp⟩ := frcs_spec (fun x _ => opnd_VC inv.rel x) hp
  refine OpS.val (v := .func (.func f) (x.map a.eval) (y.map a.eval)) inv hq (by simp [execOp, ho, Instr.makeFunc]) (.func f _ _ ps qs (by simp [h1]) (by simp [h3]) (fun j c hj => ?_) (fun j c hj => ?_)) hp
  · obtain ⟨z, hz, hv⟩ := h2 j c hj
    rw [Array.getElem?_toList] at hz
    rw [Array.getD_eq_getD_getElem?]; simp [hz, hv]
  · obtain ⟨z, hz, hv⟩ := h4 j c hj
    rw [Array.getElem?_toList] at hz
    rw [Array.getD_eq_getD_getElem?]; simp [hz, hv]

theorem op_extract {x : Operand} {j : Nat} {o : Oper} {K : KK} (ho : o.op = .extract x j) (inv : Inv P g0 w0 H0 F0 N g w a E H) (hq : QRel a g w q) (hp : pOp P tt imm E q H o K) :
    OpS P g0 w0 H0 F0 N a w o K := by
  simp only [pOp, ho] at hp
  split at hp
  · rename_i t
    have hx := inv.rel.e t
    split at hp
    · rename_i cs hb
      rw [hb] at hx
      obtain ⟨vs, hvs, hs, hv⟩ := hx
      have hrun : ∀ c, cs[j]? = some c → (execOp a.eval o).run P w = .ok (.value (vs.getD j undef)) w := fun c hc => by
        have hlt : j < vs.size := by rw [hs]; exact (List.getElem?_eq_some_iff.1 hc).1
        have he : a.eval (.tmp t) = .tuple vs := hvs
        simp [execOp, ho, Instr.extract, he, Array.getElem?_eq_getElem hlt, Array.getD_eq_getD_getElem?]
      split at hp
      · rename_i n ds e hc
        intro next Q' hn
        refine wp_value (hrun _ hc) (hn g w _ _ _ _ _ _ ?_ hp)
        have hdem : V g w (vs.getD j undef) (.slice n ds none) := (hv j _ hc).dem
        have hset : VC P g w (vals a t) (.tup (cs.set j (.slice n ds none))) := by
          refine ⟨vs, hvs, by simp [hs], fun i c hi => ?_⟩
          rw [List.getElem?_set] at hi
          split at hi
          · rename_i e'; subst e'
            split at hi
            · cases hi; exact .inl hdem
            · cases hi
          · exact hv i c hi
        have hsub : ∀ i b, ownAt (vals a t) (.tup (cs.set j (.slice n ds none))) i b → i ≠ j ∧ ownAt (vals a t) (E.get t) i b := by
          rintro i b ⟨c, h1, h2, h3⟩
          rw [List.getElem?_set] at h1
          split at h1
          · split at h1
            · cases h1; cases h2
            · cases h1
          · rename_i e'
            rw [hb]
            exact ⟨fun e'' => e' e''.symm, c, h1, h2, h3⟩
        have hthis : ∀ i b, ownAt (vs.getD j undef) (.slice n ds (some e)) i b → ownAt (vals a t) (E.get t) j b := fun i b ho' => by
          rw [hb]; exact ⟨_, hc, rfl, vs, hvs, ho'.2.2⟩
        refine ⟨inv.weaken hset (fun i b h => (hsub i b h).2), hv j _ hc, fun i b ho' => ⟨fun t' i' ht => ?_, inv.rel.sc t j b (hthis i b ho'), inv.own t j b (hthis i b ho')⟩,
          fun i i' b h1 h2 => h1.1.trans h2.1.symm, hq.del t, fun _ h => by cases h⟩
        rw [Env.get_cons] at ht
        by_cases e' : t = t'
        · rw [if_pos e'] at ht
          subst e'
          obtain ⟨h1, h2⟩ := hsub i' b ht
          exact h1 (inv.rel.ss t j t i' b (hthis i b ho') h2).2.symm
        · rw [if_neg e'] at ht
          exact e' (inv.rel.ss t j t' i' b (hthis i b ho') ht).1
      · rename_i c hc hcs
        rw [frc_eq] at hp
        exact OpS.val inv hq (hrun _ hcs) (hv j _ hcs).dem hp
      · exact hp.elim
    · exact hp.elim
  · exact hp.elim
end
end Ps
