/- PSem, part 9: cuts, conversions, two operands. -/
import Derived.Test.YtbejjlmdmakdfaaDoorPs8
set_option linter.all false
set_option linter.unusedVariables false
set_option linter.unusedSimpArgs false
set_option linter.unnecessarySimpa false
set_option linter.unusedSimpArgs false
set_option linter.unusedVariables false
namespace Ps
open Go
section
variable {P : Program} {tt : TT} {imm : List Nat} {g0 : Gh} {w0 : World} {H0 : PH} {F0 : Nat → Prop} {N : Nat} {g : Gh} {w : World} {a : Act} {E : Env} {H : PH} {q : Q}

theorem low_int (inv : Inv P g0 w0 H0 F0 N g w a E H) {lo : Option Operand} {d : Int} {K : Int → Prop} (h : lowOf E lo d K) :
    ∃ l, K l ∧ ((lo = none ∧ l = d) ∨ ∃ x k, lo = some x ∧ a.eval x = .int k l) := by
  cases lo with
  | none => exact ⟨d, h, .inl ⟨rfl, rfl⟩⟩
  | some x =>
    simp only [lowOf] at h
    split at h
    · rename_i k i hi
      exact ⟨i, h, .inr ⟨x, k, rfl, opnd_int inv hi⟩⟩
    · exact h.elim

/-- Bounds that are in order. -/
theorem run_bounds {lo hi : Option Operand} {isS : Bool} {n cap : Nat} {l h : Int} (hl : (lo = none ∧ l = 0) ∨ ∃ x k, lo = some x ∧ a.eval x = .int k l)
    (hh : (hi = none ∧ h = n) ∨ ∃ x k, hi = some x ∧ a.eval x = .int k h) (h0 : 0 ≤ l ∧ l ≤ h ∧ h ≤ n) (hc : n ≤ cap) :
    (Instr.sliceBounds isS n cap (lo.map a.eval) (hi.map a.eval) none).run P w = .ok (l.toNat, h.toNat, cap) w := by
  obtain ⟨h0, h1, h2⟩ := h0
  have e1 : h ≤ (cap : Int) := by omega
  have e2 : 0 ≤ h := by omega
  rcases hl with ⟨rfl, rfl⟩ | ⟨x, k, rfl, hx⟩ <;> rcases hh with ⟨rfl, rfl⟩ | ⟨y, k', rfl, hy⟩
  · simp [Instr.sliceBounds]
  · simp [Instr.sliceBounds, hy, Instr.sliceBound, asIntOf, e1, e2]
  · simp [Instr.sliceBounds, hx, Instr.sliceBound, asIntOf, h0, h1]
  · have e3 : l ≤ ((h.toNat : Nat) : Int) := by omega
    simp [Instr.sliceBounds, hx, hy, Instr.sliceBound, asIntOf, h0, e1, e2, e3]
    intro h'; omega

theorem Imm.cut {b off : Nat} {cs : List PV} (h : Imm g w b off cs) (m k : Nat) : Imm g w b (off + k) ((cs.take m).drop k) :=
  h.sub fun j c hj => by
    rw [List.getElem?_drop, List.getElem?_take] at hj
    split at hj
    · exact hj
    · cases hj
theorem Imm.nil {b off : Nat} : Imm g w b off [] := ⟨fun _ => undef, fun j c h => by simp at h, fun j c h => by simp at h⟩

theorem op_slice {T : Nat} {x : Operand} {lo hi : Option Operand} {o : Oper} {K : KK} (hT : ttOk P tt = true) (ho : o.op = .slice T x lo hi none) (inv : Inv P g0 w0 H0 F0 N g w a E H) (hq : QRel a g w q) (hp : pOp P tt imm E q H o K) :
    OpS P g0 w0 H0 F0 N a w o K := by
  simp only [pOp, ho, pSlice] at hp
  have hx := opnd_VC inv.rel x
  split at hp
  · rename_i s hb
    rw [hb] at hx
    split at hp
    · rename_i i hi'
      split at hp
      · rename_i hk
        obtain ⟨l, hp1, hl⟩ := low_int inv hp
        obtain ⟨h, hp2, hh⟩ := low_int inv hp1
        obtain ⟨h0, hp3⟩ := hp2
        have hu := (tis hT hi').str hk
        have hs : (⟨⟨s⟩⟩ : ByteArray).size = s.length := rfl
        have hb0 := run_bounds (P := P) (w := w) (isS := false) (n := s.length) (cap := s.length) hl hh h0 (Nat.le_refl _)
        refine OpS.val (v := strV ((s.take h.toNat).drop l.toNat)) inv hq ?_ (.str _) hp3
        have he : (⟨⟨s⟩⟩ : ByteArray).extract l.toNat h.toNat = ⟨⟨(s.take h.toNat).drop l.toNat⟩⟩ := by
          apply ByteArray.ext
          apply Array.ext'
          rw [ByteArray.data_extract]
          simp [List.extract_eq_take_drop, List.drop_take]
        simp [execOp, ho, hx.str, strV_eq, Instr.sliceAt, Instr.slice, run_underlying hu, hs, hb0, he]
      · exact hp.elim
    · exact hp.elim
  · rename_i n cs ow hb
    rw [hb] at hx
    split at hp
    · rename_i i hi'
      split at hp
      · rename_i e hk
        split at hp
        · rename_i ei hei
          obtain ⟨l, hp1, hl⟩ := low_int inv hp
          obtain ⟨h, hp2, hh⟩ := low_int inv hp1
          obtain ⟨h0, hp3⟩ := hp2
          have hu := (tis hT hi').slice hk
          rcases hx.slice.inv_slice with ⟨hvb, hn, hcs⟩ | ⟨b, off, cap, hvb, hle, himm⟩
          · subst hn
            have hb0 := run_bounds (P := P) (w := w) (isS := true) (n := 0) (cap := 0) hl hh h0 (Nat.le_refl _)
            have e1 : l.toNat = 0 := by omega
            have e2 : h.toNat = 0 := by omega
            rw [e1, e2] at hb0
            refine OpS.val (v := .slice none 0 0) inv hq ?_ ?_ hp3
            · simp [execOp, ho, hvb, Instr.sliceAt, Instr.slice, run_underlying hu, hb0, (tis hT hei).run_sizeOf]
            · rw [e1, e2, hcs]; simpa using V.snil none
          · have hb0 := run_bounds (P := P) (w := w) (isS := true) (n := n) (cap := cap) hl hh h0 hle
            refine OpS.val (v := .slice (some (if cap = l.toNat then ⟨b, off, none⟩ else ⟨b, off + l.toNat * ei.sz, none⟩)) (h.toNat - l.toNat) (cap - l.toNat)) inv hq ?_ ?_ hp3
            · simp [execOp, ho, hvb, Instr.sliceAt, Instr.slice, run_underlying hu, hb0, (tis hT hei).run_sizeOf, Addr.add_plain]
              split <;> rfl
            · have hcut := himm.cut (h.toNat * ei.sz) (l.toNat * ei.sz)
              have hle' : h.toNat - l.toNat ≤ cap - l.toNat := by omega
              split
              · rename_i e'
                have : (cs.take (h.toNat * ei.sz)).drop (l.toNat * ei.sz) = [] := by
                  apply List.drop_eq_nil_of_le
                  rw [List.length_take]
                  have : h.toNat = l.toNat := by omega
                  rw [this]; exact Nat.min_le_left _ _
                rw [this]
                exact Imm.nil.vslice hle'
              · exact hcut.vslice hle'
        · exact hp.elim
      · exact hp.elim
    · exact hp.elim
  · rename_i id off n cap hb
    rw [hb] at hx
    split at hp
    · rename_i i hi'
      split at hp
      · rename_i e hk
        split at hp
        · rename_i ei hei
          obtain ⟨l, hp1, hl⟩ := low_int inv hp
          obtain ⟨h, hp2, hh⟩ := low_int inv hp1
          obtain ⟨h0, hp3, hp4⟩ := hp2
          have hu := (tis hT hi').slice hk
          obtain ⟨b, hvb, hib, hle⟩ := (plain_of hx (by simp) (by simp)).inv_sref
          have hb0 := run_bounds (P := P) (w := w) (isS := true) (n := n) (cap := cap) hl hh h0 hle
          have hrun : (execOp a.eval o).run P w = .ok (.value (.slice (some (if cap = l.toNat then ⟨b, off, none⟩ else ⟨b, off + l.toNat * ei.sz, none⟩)) (h.toNat - l.toNat) (cap - l.toNat))) w := by
            simp [execOp, ho, hvb, Instr.sliceAt, Instr.slice, run_underlying hu, hb0, (tis hT hei).run_sizeOf, Addr.add_plain]
            split <;> rfl
          by_cases hln : l < n
          · refine OpS.val inv hq hrun ?_ (hp3 hln)
            rw [if_neg (by omega)]
            exact .sref id b _ _ _ hib (by omega)
          · refine OpS.val inv hq hrun ?_ (hp4 hln)
            have e2 : h.toNat - l.toNat = 0 := by omega
            rw [e2]
            split
            · exact Imm.nil.vslice (Nat.zero_le _)
            · exact Imm.nil.vslice (Nat.zero_le _)
        · exact hp.elim
      · exact hp.elim
    · exact hp.elim
  · rename_i hb
    rw [hb] at hx
    split at hp
    · rename_i i hi'
      split at hp
      · rename_i e hk
        split at hp
        · rename_i ei hei
          obtain ⟨l, hp1, hl⟩ := low_int inv hp
          obtain ⟨h, hp2, hh⟩ := low_int inv hp1
          obtain ⟨h0, hp3⟩ := hp2
          have hu := (tis hT hi').slice hk
          have hvb := (plain_of hx (by simp) (by simp)).inv_nilS
          have hb0 := run_bounds (P := P) (w := w) (isS := true) (n := 0) (cap := 0) hl hh h0 (Nat.le_refl _)
          have e1 : l.toNat = 0 := by omega
          have e2 : h.toNat = 0 := by omega
          rw [e1, e2] at hb0
          refine OpS.val (v := .slice none 0 0) inv hq ?_ .nilS hp3
          simp [execOp, ho, hvb, Instr.sliceAt, Instr.slice, run_underlying hu, hb0, (tis hT hei).run_sizeOf]
        · exact hp.elim
      · exact hp.elim
    · exact hp.elim
  · rename_i cs hb
    rw [hb] at hx
    split at hp
    · rename_i i hi'
      split at hp
      · rename_i n e hk
        split at hp
        · rename_i ei hei
          obtain ⟨l, hp1, hl⟩ := low_int inv hp
          obtain ⟨h, hp2, hh⟩ := low_int inv hp1
          obtain ⟨h0, hp3⟩ := hp2
          have hu := (tis hT hi').arr hk
          obtain ⟨b, off, hvb, himm⟩ := (plain_of hx (by simp) (by simp)).inv_elem
          have hb0 := run_bounds (P := P) (w := w) (isS := false) (n := n) (cap := n) hl hh h0 (Nat.le_refl _)
          refine OpS.val (v := .slice (some (if n = l.toNat then ⟨b, off, none⟩ else ⟨b, off + l.toNat * ei.sz, none⟩)) (h.toNat - l.toNat) (n - l.toNat)) inv hq ?_ ?_ hp3
          · simp [execOp, ho, hvb, Instr.sliceAt, run_underlying hu, Instr.sureAddr, hb0, (tis hT hei).run_sizeOf, Addr.add_plain]
          · have hcut := himm.cut (h.toNat * ei.sz) (l.toNat * ei.sz)
            have hle' : h.toNat - l.toNat ≤ n - l.toNat := by omega
            split
            · rename_i e'
              have : (cs.take (h.toNat * ei.sz)).drop (l.toNat * ei.sz) = [] := by
                apply List.drop_eq_nil_of_le
                rw [List.length_take]
                have : h.toNat = l.toNat := by omega
                rw [this]; exact Nat.min_le_left _ _
              rw [this]
              exact Imm.nil.vslice hle'
            · exact hcut.vslice hle'
        · exact hp.elim
      · exact hp.elim
    · exact hp.elim
  · exact hp.elim

theorem op_toArr {T : Nat} {x : Operand} {o : Oper} {K : KK} (hT : ttOk P tt = true) (ho : o.op = .sliceToArrayPointer T x) (inv : Inv P g0 w0 H0 F0 N g w a E H) (hq : QRel a g w q) (hp : pOp P tt imm E q H o K) :
    OpS P g0 w0 H0 F0 N a w o K := by
  simp only [pOp, ho] at hp
  have hx := opnd_VC inv.rel x
  split at hp
  · rename_i n cs ow hb
    rw [hb] at hx
    split at hp
    · rename_i i hi
      split at hp
      · rename_i m e hk
        obtain ⟨⟨h1, h2⟩, hp⟩ := hp
        have hu := (tis hT hi).arr hk
        rcases hx.slice.inv_slice with ⟨hvb, hn, hcs⟩ | ⟨b, off, cap, hvb, hle, himm⟩
        · omega
        · have : ¬ n < m := by omega
          exact OpS.val inv hq (by simp [execOp, ho, hvb, Instr.arrayAt, run_underlying hu, this]) himm.velem hp
      · exact hp.elim
    · exact hp.elim
  · exact hp.elim
end
end Ps
