/- PSem, part 7: one operation (those that make or write nothing, and those that lay data). -/
import Derived.Test.YtbejjlmdmakdfaaDoorPs6
set_option linter.all false
set_option linter.unusedVariables false
set_option linter.unusedSimpArgs false
set_option linter.unnecessarySimpa false
set_option linter.unusedSimpArgs false
set_option linter.unusedVariables false
namespace Ps
open Go
section
variable {P : Program} {tt : TT} {imm : List Nat} {g0 : Gh} {w0 : World} {H0 : PH} {F0 : Nat → Prop} {N : Nat} {g : Gh} {w : World} {a : Act} {E : Env} {H : PH} {q : Q}

/-- What is shown of an operation. -/
def OpS (P : Program) (g0 : Gh) (w0 : World) (H0 : PH) (F0 : Nat → Prop) (N : Nat) (a : Act) (w : World) (o : Oper) (K : KK) : Prop :=
  ∀ (next : Act → World → Prop) (Q' : Exit → Act → World → Prop), (∀ g' w' v p s E' q' H', Post P g0 w0 H0 F0 N a g' w' E' q' H' v p s → K p s E' q' H' → next (a.put o.dst v) w') → o.wp P a w next Q'

theorem OpS.val {o : Oper} {K : KK} {v : Value} {p : PV} (inv : Inv P g0 w0 H0 F0 N g w a E H) (hq : QRel a g w q) (h : (execOp a.eval o).run P w = .ok (.value v) w) (hv : V g w v p) (hk : K p none E q H) :
    OpS P g0 w0 H0 F0 N a w o K := fun next Q' hn => wp_value h (hn _ _ _ _ _ _ _ _ (Post.ofV inv hv hq) hk)

theorem opnd_V (inv : Inv P g0 w0 H0 F0 N g w a E H) {x : Operand} {p : PV} (h : opnd E x = p) (hp : ∀ cs, p ≠ .tup cs) (ho : isOwn p = false) : V g w (a.eval x) p := by
  have := opnd_VC inv.rel x
  rw [h] at this
  exact this.V' hp ho
theorem opnd_dem (inv : Inv P g0 w0 H0 F0 N g w a E H) {x : Operand} {p : PV} (h : opnd E x = p) (hp : ∀ cs, p ≠ .tup cs) : V g w (a.eval x) (dem p) := by
  have := opnd_VC inv.rel x
  rw [h] at this
  exact this.dem' hp

theorem vals_own_put {s n : Nat} {cs : List PV} {e : Nat} (inv : Inv P g0 w0 H0 F0 N g w a E H) (h : E.get s = .slice n cs (some e)) :
    Post P g0 w0 H0 F0 N a g w ((s, .slice n cs none) :: E) q H (vals a s) (.slice n cs (some e)) none ↔ QRel a g w q := by
  refine ⟨fun h => h.qr, fun hq => ⟨inv.demote h, ?_, ?_, ?_, hq, fun _ h => by cases h⟩⟩
  · have := inv.rel.e s; rw [h] at this; exact this
  · intro i b ho
    have ho' : ownAt (vals a s) (E.get s) i b := by rw [h]; exact ho
    refine ⟨fun t i' ht => ?_, inv.rel.sc s i b ho', inv.own s i b ho'⟩
    rw [Env.get_cons] at ht
    by_cases e' : s = t
    · rw [if_pos e'] at ht; exact absurd ht.2.1 (by simp [isOwn])
    · rw [if_neg e'] at ht
      exact e' (inv.rel.ss s i t i' b ho' ht).1
  · intro i i' b h1 h2
    exact h1.1.trans h2.1.symm


theorem plain_of {v : Value} {p : PV} (h : VC P g w v p) (h1 : ∀ n cs e, p ≠ .slice n cs (some e)) (h2 : ∀ cs, p ≠ .tup cs) : V g w v p := by
  cases p with
  | tup cs => exact absurd rfl (h2 cs)
  | slice n cs o => cases o with
    | none => exact VC.slice h
    | some e => exact absurd rfl (h1 n cs e)
  | _ => exact h.dem
theorem dem_plain {p : PV} (h1 : ∀ n cs e, p ≠ .slice n cs (some e)) (h2 : ∀ cs, p ≠ .tup cs) : dem p = p := by
  cases p with
  | tup cs => exact absurd rfl (h2 cs)
  | slice n cs o => cases o with
    | none => rfl
    | some e => exact absurd rfl (h1 n cs e)
  | _ => rfl
theorem ofC_plain (v : Value) : dem (ofC v) = ofC v := by
  cases v with
  | slice b n c =>
    cases b with
    | some b => rfl
    | none => cases n with
      | zero => cases c <;> rfl
      | succ n => rfl
  | pointer p => cases p <;> rfl
  | _ => rfl

theorem Inv.moveTup (inv : Inv P g0 w0 H0 F0 N g w a E H) (hq : QRel a g w q) {s : Nat} {cs : List PV} (hs : E.get s = .tup cs) :
    Post P g0 w0 H0 F0 N a g w ((s, .undef) :: E) (qdel s q) H (vals a s) (.tup cs) none := by
  have hvc := inv.rel.e s
  rw [hs] at hvc
  refine ⟨inv.weaken (V.vc (.undef _)) (fun i b h => absurd h (no_own (.undef _ : V g w _ _) i b)), hvc, fun i b ho => ?_, fun i i' b h1 h2 => ?_, hq.del s, fun _ h => by cases h⟩
  · have ho' : ownAt (vals a s) (E.get s) i b := by rw [hs]; exact ho
    refine ⟨fun t i' ht => ?_, inv.rel.sc s i b ho', inv.own s i b ho'⟩
    rw [Env.get_cons] at ht
    by_cases e' : s = t
    · rw [if_pos e'] at ht; exact no_own (.undef (vals a t) : V g w _ _) _ _ ht
    · rw [if_neg e'] at ht
      exact e' (inv.rel.ss s i t i' b ho' ht).1
  · have h1' : ownAt (vals a s) (E.get s) i b := by rw [hs]; exact h1
    have h2' : ownAt (vals a s) (E.get s) i' b := by rw [hs]; exact h2
    exact (inv.rel.ss s i s i' b h1' h2').2

theorem opnd_nt {x : Operand} (hx : ∀ t, x ≠ .tmp t) : V g w (a.eval x) (opnd E x) := by
  cases x with
  | tmp t => exact absurd rfl (hx t)
  | const v => exact ofC_V v
  | func f => exact .func f #[] #[] [] [] rfl rfl (fun j c h => by simp at h) (fun j c h => by simp at h)
  | global _ => exact .undef _

theorem op_move {x : Operand} {o : Oper} {K : KK} (ho : o.op = .move x) (inv : Inv P g0 w0 H0 F0 N g w a E H) (hq : QRel a g w q) (hp : pOp P tt imm E q H o K) : OpS P g0 w0 H0 F0 N a w o K := by
  have hrun : (execOp a.eval o).run P w = .ok (.value (a.eval x)) w := by simp [execOp, ho]
  simp only [pOp, ho] at hp
  split at hp
  · rename_i s
    split at hp
    · rename_i n cs e hs
      intro next Q' hn
      have hv : V g w (vals a s) (.slice n cs none) := by
        have := inv.rel.e s; rw [hs] at this; exact this.slice
      refine wp_value hrun (hn g w _ _ _ _ _ _ ⟨inv, hv.vc, fun i b h => absurd h (no_own hv i b), fun i _ b h => absurd h (no_own hv i b), hq, fun y hy => ?_⟩ hp)
      cases hy; rfl
    · rename_i cs hs
      exact fun next Q' hn => wp_value hrun (hn g w _ _ _ _ _ _ (inv.moveTup hq hs) hp)
    · rename_i hs1 hs2
      rw [frc_eq] at hp
      exact OpS.val inv hq hrun (inv.rel.e s).dem hp
  · rename_i hx
    rw [frc_eq] at hp
    exact OpS.val inv hq hrun (opnd_nt hx) hp

theorem op_assign {x : Operand} {o : Oper} {K : KK} (ho : o.op = .assign x) (inv : Inv P g0 w0 H0 F0 N g w a E H) (hq : QRel a g w q) (hp : pOp P tt imm E q H o K) : OpS P g0 w0 H0 F0 N a w o K := by
  have hrun : (execOp a.eval o).run P w = .ok (.value (a.eval x)) w := by simp [execOp, ho]
  simp only [pOp, ho] at hp
  split at hp
  · rename_i s
    split at hp
    · rename_i n cs e hs
      exact fun next Q' hn => wp_value hrun (hn g w _ _ _ _ _ _ ((vals_own_put inv hs).2 (hq.del s)) hp)
    · rw [frc_eq] at hp
      exact OpS.val inv hq hrun (inv.rel.e s).dem hp
  · split at hp
    · exact OpS.val inv hq hrun .nilS hp
    · split at hp
      · split at hp
        · exact OpS.val inv hq hrun (.snil _) hp
        · exact OpS.val inv hq hrun (.snil _) hp
      · exact OpS.val inv hq hrun (.snil _) hp
  · rename_i hx1 hx2
    rw [frc_eq] at hp
    exact OpS.val inv hq hrun (opnd_nt hx1) hp

theorem op_pick {x y z : Operand} {o : Oper} {K : KK} (ho : o.op = .pick x y z) (inv : Inv P g0 w0 H0 F0 N g w a E H) (hq : QRel a g w q) (hp : pOp P tt imm E q H o K) : OpS P g0 w0 H0 F0 N a w o K := by
  simp only [pOp, ho] at hp
  split at hp
  · rename_i b hb
    have hx := opnd_VC inv.rel x
    rw [hb] at hx
    have hx := hx.bool
    cases b with
    | true =>
      simp only [frc_eq] at hp
      exact OpS.val inv hq (by simp [execOp, ho, hx, asBool]) (opnd_VC inv.rel y).dem hp
    | false =>
      simp only [frc_eq] at hp
      exact OpS.val inv hq (by simp [execOp, ho, hx, asBool]) (opnd_VC inv.rel z).dem hp
  · exact hp.elim

theorem op_un {op : UnOp} {T : Nat} {x : Operand} {o : Oper} {K : KK} (ho : o.op = .unOp op T x) (inv : Inv P g0 w0 H0 F0 N g w a E H) (hq : QRel a g w q) (hp : pOp P tt imm E q H o K) : OpS P g0 w0 H0 F0 N a w o K := by
  simp only [pOp, ho] at hp
  have hx := opnd_VC inv.rel x
  have hp' : ∃ p, opnd E x = p ∧ (∀ n cs e, p ≠ .slice n cs (some e)) ∧ (∀ cs, p ≠ .tup cs) := by
    refine ⟨_, rfl, fun n cs e h => ?_, fun cs h => ?_⟩ <;> (rw [h] at hp; cases op <;> exact hp.elim)
  obtain ⟨p, h1, h2, h3⟩ := hp'
  rw [h1] at hp hx
  obtain ⟨u, r, k1, k2, k3⟩ := run_un (P := P) op (plain_of hx h2 h3) hp
  exact OpS.val inv hq (by simp [execOp, ho, k1]) k2 k3


end
/-! ### inversions -/
def Imm (g : Gh) (w : World) (b off : Nat) (cs : List PV) : Prop :=
  ∃ u : Nat → Value, (∀ (j : Nat) (c : PV), cs[j]? = some c → g.I b (off + j) ∧ w.cell? ⟨b, off + j, none⟩ = some (u j)) ∧ ∀ (j : Nat) (c : PV), cs[j]? = some c → V g w (u j) c
section
variable {P : Program} {g : Gh} {w : World} {v : Value}
theorem Imm.sub {b off k : Nat} {cs ds : List PV} (h : Imm g w b off cs) (hs : ∀ (j : Nat) (c : PV), ds[j]? = some c → cs[k + j]? = some c) : Imm g w b (off + k) ds := by
  obtain ⟨u, h1, h2⟩ := h
  exact ⟨fun j => u (k + j), fun j c hj => by rw [Nat.add_assoc]; exact h1 _ c (hs j c hj), fun j c hj => h2 _ c (hs j c hj)⟩
theorem Imm.drop {b off : Nat} {cs : List PV} (h : Imm g w b off cs) (k : Nat) : Imm g w b (off + k) (dropN k cs) :=
  h.sub fun j c hj => by rw [dropN_eq, List.getElem?_drop] at hj; exact hj
theorem Imm.cells {b off : Nat} {cs : List PV} (h : Imm g w b off cs) : Cells P g w b off cs := by
  obtain ⟨u, h1, h2⟩ := h
  exact Cells.imm h1 h2
theorem Imm.velem {b off : Nat} {cs : List PV} (h : Imm g w b off cs) : V g w (.pointer (some ⟨b, off, none⟩)) (.elem cs) := by
  obtain ⟨u, h1, h2⟩ := h
  exact .elem b off cs u h1 h2
theorem Imm.vslice {b off n cap : Nat} {cs : List PV} (h : Imm g w b off cs) (hn : n ≤ cap) : V g w (.slice (some ⟨b, off, none⟩) n cap) (.slice n cs none) := by
  obtain ⟨u, h1, h2⟩ := h
  exact .slice b off n cap cs u hn h1 h2
theorem V.inv_ptr {id off : Nat} (h : V g w v (.ptr (some (id, off)))) : ∃ b, v = .pointer (some ⟨b, off, none⟩) ∧ g.ι[id]? = some (some b) := by
  cases h; exact ⟨_, rfl, by assumption⟩
theorem V.inv_sref {id off n cap : Nat} (h : V g w v (.sref id off n cap)) : ∃ b, v = .slice (some ⟨b, off, none⟩) n cap ∧ g.ι[id]? = some (some b) ∧ n ≤ cap := by
  cases h; exact ⟨_, rfl, by assumption, by assumption⟩
theorem V.inv_nilS (h : V g w v .nilS) : v = .slice none 0 0 := by cases h; rfl
theorem V.inv_nilp (h : V g w v (.ptr none)) : v = .pointer none := by cases h; rfl
theorem V.inv_elem {cs : List PV} (h : V g w v (.elem cs)) : ∃ b off, v = .pointer (some ⟨b, off, none⟩) ∧ Imm g w b off cs := by
  cases h with
  | elem b off cs u h1 h2 => exact ⟨b, off, rfl, u, h1, h2⟩
theorem V.inv_slice {n : Nat} {cs : List PV} (h : V g w v (.slice n cs none)) : (v = .slice none 0 0 ∧ n = 0 ∧ cs = []) ∨ ∃ b off cap, v = .slice (some ⟨b, off, none⟩) n cap ∧ n ≤ cap ∧ Imm g w b off cs := by
  cases h with
  | snil => exact .inl ⟨rfl, rfl, rfl⟩
  | slice b off n cap cs u hn h1 h2 => exact .inr ⟨b, off, cap, rfl, hn, u, h1, h2⟩
theorem V.inv_agg {cs : List PV} (h : V g w v (.agg cs)) : ∃ vs : Array Value, v = .agg vs ∧ vs.size = cs.length ∧ ∀ (j : Nat) (c : PV), cs[j]? = some c → V g w (vs.getD j Go.undef) c := by
  cases h with
  | agg vs cs h1 h2 => exact ⟨vs, rfl, h1, h2⟩
theorem V.inv_func {f : Nat} {ps qs : List PV} (h : V g w v (.func f ps qs)) : ∃ first caps : Array Value, v = .func (.func f) first caps ∧ first.size = ps.length ∧ caps.size = qs.length ∧
    (∀ (j : Nat) (c : PV), ps[j]? = some c → V g w (first.getD j Go.undef) c) ∧ ∀ (j : Nat) (c : PV), qs[j]? = some c → V g w (caps.getD j Go.undef) c := by
  cases h with
  | func f first caps ps qs h1 h2 h3 h4 => exact ⟨first, caps, rfl, h1, h2, h3, h4⟩
theorem run_part {t : Nat} {i : TI} (hT : TIs P t i) {vs : Array Value} {cs : List PV} {off : Nat} (hs : vs.size = cs.length)
    (hv : ∀ (j : Nat) (c : PV), cs[j]? = some c → V g w (vs.getD j undef) c) {K : PV → Prop} (hp : pRead i (dropN off cs) K) :
    ∃ u p, (part t vs off).run P w = .ok u w ∧ V g w u p ∧ K p := by
  unfold pRead at hp
  unfold part
  simp only [Sem.run_bind, hT.run_isAgg, Result.andThen_ok]
  rw [dropN_eq] at hp
  cases ha : isAggT i with
  | false =>
    rw [ha] at hp
    cases hd : cs.drop off with
    | nil => rw [hd] at hp; exact hp.elim
    | cons c r =>
      rw [hd] at hp
      have hp' : frc (dem c) K := hp
      rw [frc_eq] at hp'
      have hc : cs[off]? = some c := by
        have : (cs.drop off)[0]? = some c := by rw [hd]; rfl
        rw [List.getElem?_drop] at this; simpa using this
      have hlt : off < vs.size := by rw [hs]; exact (List.getElem?_eq_some_iff.1 hc).1
      have h1 := hv off c hc
      rw [Array.getD_eq_getD_getElem?, Array.getElem?_eq_getElem hlt] at h1
      refine ⟨vs[off], dem c, ?_, h1.dem, hp'⟩
      simp [Array.getElem?_eq_getElem hlt]
  | true =>
    rw [ha] at hp
    simp only at hp
    split at hp
    · rename_i hl
      have hl := Nat.le_of_ble_eq_true hl
      rw [List.length_drop] at hl
      refine ⟨.agg (vs.extract off (off + i.sz)), _, ?_, .agg _ _ ?_ fun j c hj => ?_, hp⟩
      · simp only [if_true, Sem.run_bind, hT.run_sizeOf, Result.andThen_ok]; rfl
      · simp; omega
      · rw [List.getElem?_map] at hj
        obtain ⟨c', hc', rfl⟩ := Option.map_eq_some_iff.1 hj
        have hj' : j < i.sz := by
          have := (List.getElem?_eq_some_iff.1 hc').1
          simp at this; omega
        rw [List.getElem?_take, if_pos hj', List.getElem?_drop] at hc'
        have h1 := (hv _ _ hc').dem
        rw [Array.getD_eq_getD_getElem?] at h1 ⊢
        rw [Array.getElem?_extract]
        rw [if_pos (by omega)]
        exact h1
    · exact hp.elim
theorem run_fieldAt {T : Nat} {i : TI} {tt : TT} (htt : ttOk P tt = true) (hT : tt.get T = some i) {f ft off : Nat} {fi : TI} (hf : fieldOf i f = some (ft, off)) (hft : tt.get ft = some fi) (b o : Nat) :
    (Instr.fieldAt T (.pointer (some ⟨b, o, none⟩)) f).run P w = .ok (.pointer (some ⟨b, o + off, none⟩)) w := by
  unfold fieldOf at hf
  split at hf
  · rename_i fs hk
    obtain ⟨gs, h1, h2, h3⟩ := (tis htt hT).strct hk
    obtain ⟨h4, h5⟩ := fieldsOk_get h2
    obtain ⟨fd, h6, h7, h8, h9⟩ := h5 f ft off hf
    rw [Array.getElem?_toList] at h6
    have hz := (tis htt hft).pos
    have hne : ¬ fi.sz = 0 := by omega
    simp [Instr.fieldAt, run_underlying h1, h6, Instr.sureAddr, fieldPlace, h7, (tis htt hft).run_sizeOf, hne, h8, Addr.add_plain]
  · cases hf
theorem run_indexAt_slice {T e n cap : Nat} {i : TI} (hT : TIs P T i) {ei : TI} (hk : i.k = .slice e) (he : TIs P e ei) (k : IntKind) (j : Int) (h0 : 0 ≤ j) (h1 : j < n) (b off : Nat) :
    (Instr.indexAt T (.slice (some ⟨b, off, none⟩) n cap) (.int k j)).run P w = .ok (.pointer (some ⟨b, off + j.toNat * ei.sz, none⟩)) w := by
  have hu := hT.slice hk
  simp [Instr.indexAt, asIntOf, run_underlying hu, h0, h1, he.run_sizeOf, Addr.add_plain]
theorem run_indexAt_arr {T e n : Nat} {i : TI} (hT : TIs P T i) {ei : TI} (hk : i.k = .arr n e) (he : TIs P e ei) (k : IntKind) (j : Int) (h0 : 0 ≤ j) (h1 : j < n) (b off : Nat) :
    (Instr.indexAt T (.pointer (some ⟨b, off, none⟩)) (.int k j)).run P w = .ok (.pointer (some ⟨b, off + j.toNat * ei.sz, none⟩)) w := by
  have hu := hT.arr hk
  simp [Instr.indexAt, asIntOf, run_underlying hu, Instr.sureAddr, h0, h1, he.run_sizeOf, Addr.add_plain]
end
section
variable {P : Program} {tt : TT} {imm : List Nat} {g0 : Gh} {w0 : World} {H0 : PH} {F0 : Nat → Prop} {N : Nat} {g : Gh} {w : World} {a : Act} {E : Env} {H : PH} {q : Q}

theorem op_nilCheck {x : Operand} {o : Oper} {K : KK} (ho : o.op = .nilCheck x) (inv : Inv P g0 w0 H0 F0 N g w a E H) (hq : QRel a g w q) (hp : pOp P tt imm E q H o K) : OpS P g0 w0 H0 F0 N a w o K := by
  simp only [pOp, ho] at hp
  have hx := opnd_VC inv.rel x
  split at hp
  · rename_i pp hb
    rw [hb] at hx
    have hv := plain_of hx (by simp) (by simp)
    obtain ⟨id, off⟩ := pp
    obtain ⟨b, hvb, _⟩ := hv.inv_ptr
    exact OpS.val inv hq (by simp [execOp, ho, hvb]) (hvb ▸ hv) hp
  · rename_i cs hb
    rw [hb] at hx
    have hv := plain_of hx (by simp) (by simp)
    obtain ⟨b, off, hvb, _⟩ := hv.inv_elem
    exact OpS.val inv hq (by simp [execOp, ho, hvb]) (hvb ▸ hv) hp
  · rename_i f ps qs hb
    rw [hb] at hx
    have hv := plain_of hx (by simp) (by simp)
    obtain ⟨fi, ca, hvb, _⟩ := hv.inv_func
    exact OpS.val inv hq (by simp [execOp, ho, hvb]) (hvb ▸ hv) hp
  · exact hp.elim

theorem op_load {T : Nat} {x : Operand} {o : Oper} {K : KK} (hT : ttOk P tt = true) (ho : o.op = .load T x) (inv : Inv P g0 w0 H0 F0 N g w a E H) (hq : QRel a g w q) (hp : pOp P tt imm E q H o K) :
    OpS P g0 w0 H0 F0 N a w o K := by
  simp only [pOp, ho, pLoad] at hp
  have hx := opnd_VC inv.rel x
  split at hp
  · rename_i i hi
    have hTi := tis hT hi
    split at hp
    · rename_i cs hb
      rw [hb] at hx
      obtain ⟨b, off, hvb, himm⟩ := (plain_of hx (by simp) (by simp)).inv_elem
      obtain ⟨u, p, h1, h2, h3⟩ := run_pRead hTi (himm.cells (P := P)) hp
      exact OpS.val inv hq (by simp [execOp, ho, hvb, Instr.loadAt, Instr.sureAddr, h1]) h2 h3
    · rename_i id off hb
      rw [hb] at hx
      obtain ⟨b, hvb, hib⟩ := (plain_of hx (by simp) (by simp)).inv_ptr
      split at hp
      · rename_i ob hid
        have hcells := (Cells.obj inv.rel.h hid hib).drop off
        rw [Nat.zero_add] at hcells
        split at hp
        · rename_i ha
          rw [dropN_eq] at hp
          obtain ⟨u, p, h1, h2, h3⟩ := run_pRead hTi hcells hp
          exact OpS.val inv hq (by simp [execOp, ho, hvb, Instr.loadAt, Instr.sureAddr, h1]) h2 h3
        · rename_i ha
          rw [dropN_eq] at hp
          cases hd : ob.cs.drop off with
          | nil => rw [hd] at hp; exact hp.elim
          | cons c r =>
            rw [hd] at hp hcells
            obtain ⟨u, h1, h2⟩ := hcells 0 c rfl
            rw [Nat.add_zero] at h1
            have hrun : (execOp a.eval o).run P w = .ok (.value u) w := by
              simp [execOp, ho, hvb, Instr.loadAt, Instr.sureAddr, loadVar, hTi.run_isAgg, ha, h1]
            simp only at hp
            split at hp
            · rename_i n cs e
              have hv : V g w u (.slice n cs none) := h2.dem
              intro next Q' hn
              refine wp_value hrun (hn g w _ _ _ _ _ _ ⟨inv, hv.vc, fun i b h => absurd h (no_own hv i b), fun i _ b h => absurd h (no_own hv i b), hq, fun y hy => ?_⟩ hp)
              cases hy
              exact ⟨b, hib, h1⟩
            · rename_i hns
              rw [frc_eq] at hp
              have hv : V g w u c := by
                rcases h2 with h2 | ⟨n, cs, e, _, rfl, _⟩
                · exact h2
                · exact absurd rfl (hns n cs e)
              exact OpS.val inv hq hrun hv hp
      · exact hp.elim
    · exact hp.elim
  · exact hp.elim

theorem op_fieldAddr {T f : Nat} {x : Operand} {o : Oper} {K : KK} (hT : ttOk P tt = true) (ho : o.op = .fieldAddr T x f) (inv : Inv P g0 w0 H0 F0 N g w a E H) (hq : QRel a g w q) (hp : pOp P tt imm E q H o K) :
    OpS P g0 w0 H0 F0 N a w o K := by
  simp only [pOp, ho, isLe] at hp
  have hx := opnd_VC inv.rel x
  split at hp
  · rename_i i hi
    split at hp
    · rename_i ft off hf
      split at hp
      · rename_i fi hfi
        split at hp
        · split at hp
          · rename_i id o' hb
            rw [hb] at hx
            obtain ⟨b, hvb, hib⟩ := (plain_of hx (by simp) (by simp)).inv_ptr
            exact OpS.val inv hq (by simp [execOp, ho, hvb, run_fieldAt hT hi hf hfi]) (.ptr id b (o' + off) hib) hp
          · rename_i cs hb
            rw [hb] at hx
            obtain ⟨b, o', hvb, himm⟩ := (plain_of hx (by simp) (by simp)).inv_elem
            exact OpS.val inv hq (by simp [execOp, ho, hvb, run_fieldAt hT hi hf hfi]) (himm.drop off).velem hp
          · exact hp.elim
        · exact hp.elim
      · exact hp.elim
    · exact hp.elim
  · exact hp.elim

theorem op_field {T f : Nat} {x : Operand} {o : Oper} {K : KK} (hT : ttOk P tt = true) (ho : o.op = .field T x f) (inv : Inv P g0 w0 H0 F0 N g w a E H) (hq : QRel a g w q) (hp : pOp P tt imm E q H o K) :
    OpS P g0 w0 H0 F0 N a w o K := by
  simp only [pOp, ho] at hp
  have hx := opnd_VC inv.rel x
  split at hp
  · rename_i i hi
    split at hp
    · rename_i ft off hf
      split at hp
      · rename_i fi hfi
        split at hp
        · rename_i cs hb
          rw [hb] at hx
          obtain ⟨vs, hvb, hs, hv⟩ := (plain_of hx (by simp) (by simp)).inv_agg
          obtain ⟨u, p, h1, h2, h3⟩ := run_part (tis hT hfi) hs hv hp
          refine OpS.val inv hq ?_ h2 h3
          unfold fieldOf at hf
          split at hf
          · rename_i fs hk
            obtain ⟨gs, g1, g2, g3⟩ := (tis hT hi).strct hk
            obtain ⟨g4, g5⟩ := fieldsOk_get g2
            obtain ⟨fd, g6, g7, g8, g9⟩ := g5 f ft off hf
            rw [Array.getElem?_toList] at g6
            simp [execOp, ho, hvb, Instr.field, run_underlying g1, g6, asAgg, g7, g8, h1]
          · cases hf
        · exact hp.elim
      · exact hp.elim
    · exact hp.elim
  · exact hp.elim
end
end Ps
