/- PSem, part 10: structs held against each other; two operands; conversions. -/
import Derived.Test.YtbejjlmdmakdfaaDoorPs9
import Derived.ChangeKeysEq
set_option linter.all false
set_option linter.unusedVariables false
set_option linter.unusedSimpArgs false
set_option linter.unnecessarySimpa false
set_option linter.unusedSimpArgs false
set_option linter.unusedVariables false
namespace Ps
open Go
section
variable {P : Program} {tt : TT} {imm : List Nat} {g0 : Gh} {w0 : World} {H0 : PH} {F0 : Nat → Prop} {N : Nat} {g : Gh} {w : World} {a : Act} {E : Env} {H : PH} {q : Q}

/-- What a part of a row reads as. -/
theorem run_part_agg {t : Nat} {i : TI} (hT : TIs P t i) {vs : Array Value} {cs : List PV} {off : Nat} (hs : vs.size = cs.length)
    (hv : ∀ (j : Nat) (c : PV), cs[j]? = some c → V g w (vs.getD j undef) c) (hl : off + i.sz ≤ cs.length) (ha : isAggT i = true) :
    ∃ us : Array Value, (part t vs off).run P w = .ok (.agg us) w ∧ us.size = i.sz ∧ ∀ (j : Nat) (c : PV), ((cs.drop off).take i.sz)[j]? = some c → V g w (us.getD j undef) c := by
  refine ⟨vs.extract off (off + i.sz), ?_, by simp; omega, fun j c hj => ?_⟩
  · simp [part, hT.run_isAgg, ha, hT.run_sizeOf]
  · rw [List.getElem?_take] at hj
    split at hj
    · rw [List.getElem?_drop] at hj
      have := hv _ _ hj
      rw [Array.getD_eq_getD_getElem?] at this ⊢
      rw [Array.getElem?_extract, if_pos (by omega)]
      exact this
    · cases hj
theorem run_part_one {t : Nat} {i : TI} (hT : TIs P t i) {vs : Array Value} {off : Nat} (hl : off < vs.size) (ha : isAggT i = false) :
    (part t vs off).run P w = .ok (vs.getD off undef) w := by
  simp [part, hT.run_isAgg, ha, Array.getElem?_eq_getElem hl, Array.getD_eq_getD_getElem?]

/-- Two rows that fit a type are held against each other. -/
def EqRuns (P : Program) (tt : TT) (g : Gh) (w : World) (d : Nat) : Prop :=
  ∀ (m T : Nat) (i : TI) (xs ys : List PV), tt.get T = some i → FitP tt d T xs → FitP tt d T ys → d ≤ m →
    (isAggT i = true → ∀ us vs : Array Value, us.size = xs.length → vs.size = ys.length → (∀ (j : Nat) (c : PV), xs[j]? = some c → V g w (us.getD j undef) c) →
      (∀ (j : Nat) (c : PV), ys[j]? = some c → V g w (vs.getD j undef) c) → ∃ b, (Op.equalIn m T (.agg us) (.agg vs)).run P w = .ok b w ∧ (b = true ↔ xs = ys)) ∧
    (isAggT i = false → ∃ x y, xs = [x] ∧ ys = [y] ∧ ∀ u v, V g w u x → V g w v y → ∃ b, (Op.equalIn m T u v).run P w = .ok b w ∧ (b = true ↔ xs = ys))

theorem eqRuns_scalar (hT : ttOk P tt = true) {d m T : Nat} {i : TI} {xs ys : List PV} (hi : tt.get T = some i) (hx : FitP tt (d + 1) T xs) (hy : FitP tt (d + 1) T ys) (ha : isAggT i = false) :
    ∃ x y, xs = [x] ∧ ys = [y] ∧ ∀ u v, V g w u x → V g w v y → ∃ b, (Op.equalIn (m + 1) T u v).run P w = .ok b w ∧ (b = true ↔ xs = ys) := by
  simp only [FitP, hi] at hx hy
  cases hk : i.k <;> simp only [hk] at hx hy <;> simp [isAggT, hk] at ha
  case bool =>
    obtain ⟨b, rfl⟩ := hx
    obtain ⟨c, rfl⟩ := hy
    refine ⟨_, _, rfl, rfl, fun u v hu hv => ?_⟩
    cases hu; cases hv
    exact ⟨_, run_equalIn_bool' w m T b c ((tis hT hi).bool hk), by simp⟩
  case int k =>
    obtain ⟨b, rfl⟩ := hx
    obtain ⟨c, rfl⟩ := hy
    refine ⟨_, _, rfl, rfl, fun u v hu hv => ?_⟩
    cases hu; cases hv
    exact ⟨_, run_equalIn_int w m T k k b c ((tis hT hi).int hk), by simp⟩
  case str =>
    obtain ⟨b, rfl⟩ := hx
    obtain ⟨c, rfl⟩ := hy
    refine ⟨_, _, rfl, rfl, fun u v hu hv => ?_⟩
    cases hu; cases hv
    exact ⟨_, run_equalIn_string w m T _ _ ((tis hT hi).str hk), by simp [toList_mk]⟩

theorem eqFields_runs (hT : ttOk P tt = true) {d m : Nat} (ih : EqRuns P tt g w d) (hm : d ≤ m) {us vs : Array Value} {XS YS : List PV} (hu : us.size = XS.length) (hv : vs.size = YS.length)
    (hU : ∀ (j : Nat) (c : PV), XS[j]? = some c → V g w (us.getD j undef) c) (hV : ∀ (j : Nat) (c : PV), YS[j]? = some c → V g w (vs.getD j undef) c) :
    ∀ (gs : List Field) (fs : List (Nat × Nat)) (off : Nat) (xs ys : List PV), fieldsOk gs fs = true → XS.drop off = xs → YS.drop off = ys → off ≤ XS.length → off ≤ YS.length →
      FitFs (FitP tt d) tt fs off xs → FitFs (FitP tt d) tt fs off ys → ∃ b, (Op.eqFields m us vs gs).run P w = .ok b w ∧ (b = true ↔ xs = ys)
  | [], [], off, xs, ys, _, _, _, _, _, hx, hy => ⟨true, by simp [Op.eqFields], by simp only [FitFs] at hx hy; simp [hx, hy]⟩
  | f :: gs, (ft, fo) :: fs, off, xs, ys, hf, ex, ey, lx, ly, hx, hy => by
    simp only [fieldsOk, Bool.and_eq_true] at hf
    obtain ⟨⟨⟨h1, h2⟩, h3⟩, h4⟩ := hf
    have h1 := of_decide_eq_true h1
    have h2 := of_decide_eq_true h2
    have h3 : f.name ≠ "_" := by simpa using h3
    simp only [FitFs] at hx hy
    obtain ⟨rfl, hx⟩ := hx
    obtain ⟨-, hy⟩ := hy
    split at hx
    · rename_i fi hfi
      rw [hfi] at hy
      obtain ⟨⟨sx, fx⟩, rx⟩ := hx
      obtain ⟨⟨sy, fy⟩, ry⟩ := hy
      have hlx : fo + fi.sz ≤ XS.length := by rw [← ex, List.length_drop] at sx; omega
      have hly : fo + fi.sz ≤ YS.length := by rw [← ey, List.length_drop] at sy; omega
      obtain ⟨b2, k1, k2⟩ := eqFields_runs hT ih hm hu hv hU hV gs fs (fo + fi.sz) (xs.drop fi.sz) (ys.drop fi.sz) h4 (by rw [← ex, List.drop_drop]) (by rw [← ey, List.drop_drop]) hlx hly rx ry
      have hpart : ∃ b1 u v, (part f.type us f.offset).run P w = .ok u w ∧ (part f.type vs f.offset).run P w = .ok v w ∧ (Op.equalIn m f.type u v).run P w = .ok b1 w ∧ (b1 = true ↔ xs.take fi.sz = ys.take fi.sz) := by
        rw [h1, h2]
        obtain ⟨p1, p2⟩ := ih m ft fi (xs.take fi.sz) (ys.take fi.sz) hfi fx fy hm
        cases ha : isAggT fi with
        | true =>
          obtain ⟨us', a1, a2, a3⟩ := run_part_agg (tis hT hfi) hu hU hlx ha
          obtain ⟨vs', c1, c2, c3⟩ := run_part_agg (tis hT hfi) hv hV hly ha
          rw [ex] at a3
          rw [ey] at c3
          obtain ⟨b1, e1, e2⟩ := p1 ha us' vs' (by rw [a2, List.length_take]; omega) (by rw [c2, List.length_take]; omega) a3 c3
          exact ⟨b1, _, _, a1, c1, e1, e2⟩
        | false =>
          obtain ⟨x, y, q1, q2, q3⟩ := p2 ha
          have gx : XS[fo]? = some x := by
            have : (xs.take fi.sz)[0]? = some x := by rw [q1]; rfl
            rw [List.getElem?_take] at this
            split at this
            · rw [← ex, List.getElem?_drop] at this; simpa using this
            · cases this
          have gy : YS[fo]? = some y := by
            have : (ys.take fi.sz)[0]? = some y := by rw [q2]; rfl
            rw [List.getElem?_take] at this
            split at this
            · rw [← ey, List.getElem?_drop] at this; simpa using this
            · cases this
          obtain ⟨b1, e1, e2⟩ := q3 _ _ (hU _ _ gx) (hV _ _ gy)
          have hp := (tis hT hfi).pos
          exact ⟨b1, _, _, run_part_one (tis hT hfi) (by omega) ha, run_part_one (tis hT hfi) (by omega) ha, e1, e2⟩
      obtain ⟨b1, u, v, r1, r2, r3, r4⟩ := hpart
      have hsplit : xs = ys ↔ xs.take fi.sz = ys.take fi.sz ∧ xs.drop fi.sz = ys.drop fi.sz :=
        ⟨fun h => by rw [h]; exact ⟨rfl, rfl⟩, fun h => by rw [← List.take_append_drop fi.sz xs, ← List.take_append_drop fi.sz ys, h.1, h.2]⟩
      cases b1 with
      | true =>
        refine ⟨b2, ?_, ?_⟩
        · simp [Op.eqFields, h3, r1, r2, r3, k1]
        · rw [hsplit, ← r4]; simpa using k2
      | false =>
        refine ⟨false, ?_, ?_⟩
        · simp [Op.eqFields, h3, r1, r2, r3]
        · rw [hsplit, ← r4]; simp
    · exact hx.elim
  | [], _ :: _, _, _, _, h, _, _, _, _, _, _ => by cases h
  | _ :: _, [], _, _, _, h, _, _, _, _, _, _ => by cases h

theorem eqItems_runs (hT : ttOk P tt = true) {d m e : Nat} {ei : TI} (he : tt.get e = some ei) (ih : EqRuns P tt g w d) (hm : d ≤ m) {us vs : Array Value} {XS YS : List PV} (hu : us.size = XS.length) (hv : vs.size = YS.length)
    (hU : ∀ (j : Nat) (c : PV), XS[j]? = some c → V g w (us.getD j undef) c) (hV : ∀ (j : Nat) (c : PV), YS[j]? = some c → V g w (vs.getD j undef) c) :
    ∀ (n k : Nat) (xs ys : List PV), XS.drop (k * ei.sz) = xs → YS.drop (k * ei.sz) = ys → FitAs (FitP tt d e) ei.sz n xs → FitAs (FitP tt d e) ei.sz n ys →
      ∃ b, (Op.eqItems m e ei.sz us vs (List.range' k n)).run P w = .ok b w ∧ (b = true ↔ xs = ys)
  | 0, k, xs, ys, _, _, hx, hy => ⟨true, by simp [Op.eqItems], by simp only [FitAs] at hx hy; simp [hx, hy]⟩
  | n + 1, k, xs, ys, ex, ey, hx, hy => by
    simp only [FitAs] at hx hy
    obtain ⟨⟨sx, fx⟩, rx⟩ := hx
    obtain ⟨⟨sy, fy⟩, ry⟩ := hy
    have hpos := (tis hT he).pos
    have hlx : k * ei.sz + ei.sz ≤ XS.length := by rw [← ex, List.length_drop] at sx; omega
    have hly : k * ei.sz + ei.sz ≤ YS.length := by rw [← ey, List.length_drop] at sy; omega
    obtain ⟨b2, k1, k2⟩ := eqItems_runs hT he ih hm hu hv hU hV n (k + 1) (xs.drop ei.sz) (ys.drop ei.sz) (by rw [← ex, List.drop_drop, Nat.add_mul, Nat.one_mul]) (by rw [← ey, List.drop_drop, Nat.add_mul, Nat.one_mul]) rx ry
    have hpart : ∃ b1 u v, (part e us (k * ei.sz)).run P w = .ok u w ∧ (part e vs (k * ei.sz)).run P w = .ok v w ∧ (Op.equalIn m e u v).run P w = .ok b1 w ∧ (b1 = true ↔ xs.take ei.sz = ys.take ei.sz) := by
      obtain ⟨p1, p2⟩ := ih m e ei (xs.take ei.sz) (ys.take ei.sz) he fx fy hm
      cases ha : isAggT ei with
      | true =>
        obtain ⟨us', a1, a2, a3⟩ := run_part_agg (tis hT he) hu hU hlx ha
        obtain ⟨vs', c1, c2, c3⟩ := run_part_agg (tis hT he) hv hV hly ha
        rw [ex] at a3
        rw [ey] at c3
        obtain ⟨b1, e1, e2⟩ := p1 ha us' vs' (by rw [a2, List.length_take]; omega) (by rw [c2, List.length_take]; omega) a3 c3
        exact ⟨b1, _, _, a1, c1, e1, e2⟩
      | false =>
        obtain ⟨x, y, q1, q2, q3⟩ := p2 ha
        have gx : XS[k * ei.sz]? = some x := by
          have : (xs.take ei.sz)[0]? = some x := by rw [q1]; rfl
          rw [List.getElem?_take, if_pos hpos, ← ex, List.getElem?_drop] at this
          simpa using this
        have gy : YS[k * ei.sz]? = some y := by
          have : (ys.take ei.sz)[0]? = some y := by rw [q2]; rfl
          rw [List.getElem?_take, if_pos hpos, ← ey, List.getElem?_drop] at this
          simpa using this
        obtain ⟨b1, e1, e2⟩ := q3 _ _ (hU _ _ gx) (hV _ _ gy)
        exact ⟨b1, _, _, run_part_one (tis hT he) (by omega) ha, run_part_one (tis hT he) (by omega) ha, e1, e2⟩
    obtain ⟨b1, u, v, r1, r2, r3, r4⟩ := hpart
    have hsplit : xs = ys ↔ xs.take ei.sz = ys.take ei.sz ∧ xs.drop ei.sz = ys.drop ei.sz :=
      ⟨fun h => by rw [h]; exact ⟨rfl, rfl⟩, fun h => by rw [← List.take_append_drop ei.sz xs, ← List.take_append_drop ei.sz ys, h.1, h.2]⟩
    rw [List.range'_succ]
    cases b1 with
    | true =>
      refine ⟨b2, ?_, ?_⟩
      · simp [Op.eqItems, r1, r2, r3, k1]
      · rw [hsplit, ← r4]; simpa using k2
    | false =>
      refine ⟨false, ?_, ?_⟩
      · simp [Op.eqItems, r1, r2, r3]
      · rw [hsplit, ← r4]; simp

theorem eqRuns (hT : ttOk P tt = true) : ∀ d, EqRuns P tt g w d
  | 0 => fun m T i xs ys _ hx _ _ => hx.elim
  | d + 1 => fun m T i xs ys hi hx hy hm => by
    obtain ⟨m, rfl⟩ : ∃ k, m = k + 1 := ⟨m - 1, by omega⟩
    refine ⟨fun ha us vs hu hv hU hV => ?_, fun ha => eqRuns_scalar hT hi hx hy ha⟩
    have ih := eqRuns hT d
    simp only [FitP, hi] at hx hy
    cases hk : i.k <;> simp only [hk] at hx hy <;> simp [isAggT, hk] at ha
    case strct fs =>
      obtain ⟨gs, h1, h2, h3⟩ := (tis hT hi).strct hk
      have h4 : P.fieldsOf T = gs := by simp [Program.fieldsOf, h1]
      rw [run_equalIn_struct w m T us vs (by rw [h4]; exact h1) h3, h4]
      exact eqFields_runs hT ih (by omega) hu hv hU hV gs.toList fs 0 xs ys h2 rfl rfl (Nat.zero_le _) (Nat.zero_le _) hx hy
    case arr n e =>
      cases he : tt.get e with
      | none => rw [he] at hx; exact hx.elim
      | some ei =>
        rw [he] at hx hy
        obtain ⟨ti, z, k1, k2, _⟩ := (tis hT he).ex
        have hc : P.cellsOf e = ei.sz := by simp [Program.cellsOf, k1, k2]
        rw [run_equalIn_array w m us vs ((tis hT hi).arr hk) k1, hc, List.range_eq_range']
        exact eqItems_runs hT he ih (by omega) hu hv hU hV n 0 xs ys (by simp) (by simp) hx.2 hy.2

theorem guard_fields {d n : Nat} (ih : ∀ T i (xs : List PV), tt.get T = some i → FitP tt d T xs → P.eqGuardType n T = false) :
    ∀ (gs : List Field) (fs : List (Nat × Nat)) (off : Nat) (xs : List PV), fieldsOk gs fs = true → FitFs (FitP tt d) tt fs off xs → gs.any (fun f => f.name != "_" && P.eqGuardType n f.type) = false
  | [], _, _, _, _, _ => rfl
  | f :: gs, (ft, fo) :: fs, off, xs, hf, hx => by
    simp only [fieldsOk, Bool.and_eq_true] at hf
    obtain ⟨⟨⟨h1, h2⟩, h3⟩, h4⟩ := hf
    have h1 := of_decide_eq_true h1
    simp only [FitFs] at hx
    obtain ⟨_, hx⟩ := hx
    split at hx
    · rename_i fi hfi
      have := ih ft fi _ hfi hx.1.2
      rw [List.any_cons, guard_fields ih gs fs _ _ h4 hx.2, h1, this]
      simp
    · exact hx.elim
  | _ :: _, [], _, _, h, _ => by cases h
theorem guard_fit (hT : ttOk P tt = true) : ∀ (d n T : Nat) (i : TI) (xs : List PV), tt.get T = some i → FitP tt d T xs → d ≤ n → P.eqGuardType n T = false
  | 0, _, _, _, _, _, h, _ => h.elim
  | d + 1, n, T, i, xs, hi, hx, hn => by
    obtain ⟨n, rfl⟩ : ∃ k, n = k + 1 := ⟨n - 1, by omega⟩
    simp only [FitP, hi] at hx
    cases hk : i.k <;> simp only [hk] at hx
    case bool => simp [Program.eqGuardType, (tis hT hi).bool hk]
    case int k => simp [Program.eqGuardType, (tis hT hi).int hk]
    case str => simp [Program.eqGuardType, (tis hT hi).str hk]
    case strct fs =>
      obtain ⟨gs, h1, h2, h3⟩ := (tis hT hi).strct hk
      have := guard_fields (P := P) (n := n) (fun T i xs h1 h2 => guard_fit hT d n T i xs h1 h2 (by omega)) gs.toList fs 0 xs h2 hx
      simp only [Program.eqGuardType, h1]
      rw [← Array.any_toList]
      exact this
    case arr m e =>
      cases he : tt.get e with
      | none => rw [he] at hx; exact hx.elim
      | some ei =>
        rw [he] at hx
        simp only [Program.eqGuardType, (tis hT hi).arr hk]
        cases m with
        | zero => exact absurd hx.1 (Nat.lt_irrefl _)
        | succ m =>
          simp only [FitAs] at hx
          exact guard_fit hT d n e ei _ he hx.2.1.2 (by omega)

theorem run_bin_agg (hT : ttOk P tt = true) (hd : 6 ≤ P.depth) (op : BinOp) (T : Nat) (xo yo : Operand) {xs ys : List PV} {us vs : Array Value} {K : PV → Prop} (hu : us.size = xs.length) (hv : vs.size = ys.length)
    (hU : ∀ (j : Nat) (c : PV), xs[j]? = some c → V g w (us.getD j undef) c) (hV : ∀ (j : Nat) (c : PV), ys[j]? = some c → V g w (vs.getD j undef) c) (hp : pBin tt op T (.agg xs) (.agg ys) K) :
    ∃ v p, (do eqGuard op T xo yo (.agg us) (.agg vs); binOp op T (.agg us) (.agg vs) : Sem Value).run P w = .ok v w ∧ V g w v p ∧ K p := by
  have hx : ∃ i, tt.get T = some i ∧ isAggT i = true ∧ (FitP tt 6 T xs ∧ FitP tt 6 T ys) ∧ aggEq op xs ys K := by
    simp only [pBin] at hp
    split at hp
    · rename_i i hi
      split at hp
      · rename_i ha
        exact ⟨i, hi, ha, hp⟩
      · exact hp.elim
    · exact hp.elim
  obtain ⟨i, hi, ha, ⟨f1, f2⟩, hp⟩ := hx
  have hg : (eqGuard op T xo yo (.agg us) (.agg vs)).run P w = .ok () w := run_eqGuard_agg w op T xo yo us vs (guard_fit hT 6 P.depth T i xs hi f1 hd)
  obtain ⟨b, h1, h2⟩ := (eqRuns (g := g) (w := w) hT 6 10000 T i xs ys hi f1 f2 (by omega)).1 ha us vs hu hv hU hV
  simp only [Sem.run_bind, hg, Result.andThen_ok]
  cases op
  case eql =>
    refine ⟨.bool b, .bool b, by rw [run_eql_struct, h1]; rfl, .bool _, ?_⟩
    cases b with
    | true => exact hp.1 (h2.1 rfl)
    | false => exact hp.2 (fun h => by have := h2.2 h; cases this)
  case neq =>
    refine ⟨.bool (!b), .bool (!b), by rw [run_neq_struct, h1]; rfl, .bool _, ?_⟩
    cases b with
    | true => exact hp.1 (h2.1 rfl)
    | false => exact hp.2 (fun h => by have := h2.2 h; cases this)
  all_goals exact hp.elim

theorem op_bin {op : BinOp} {T T' : Nat} {x y : Operand} {o : Oper} {K : KK} (hT : ttOk P tt = true) (hd : 6 ≤ P.depth) (ho : o.op = .binOp op T x y T') (inv : Inv P g0 w0 H0 F0 N g w a E H) (hq : QRel a g w q)
    (hp : pOp P tt imm E q H o K) : OpS P g0 w0 H0 F0 N a w o K := by
  simp only [pOp, ho] at hp
  have hx := opnd_VC inv.rel x
  have hy := opnd_VC inv.rel y
  have fin : ∀ u p, (do eqGuard op T x y (a.eval x) (a.eval y); binOp op T (a.eval x) (a.eval y) : Sem Value).run P w = .ok u w → V g w u p → K p none E q H → OpS P g0 w0 H0 F0 N a w o K := fun u p h1 h2 h3 =>
    OpS.val inv hq (by simp only [execOp, ho, Sem.run_bind] at h1 ⊢; rw [h1]; rfl) h2 h3
  cases hX : opnd E x with
  | int k m =>
    cases hY : opnd E y with
    | int k' n =>
      rw [hX] at hx hp; rw [hY] at hy hp
      obtain ⟨u, p, h1, h2, h3⟩ := run_bin_int (P := P) (g := g) (w := w) op T x y k k' m n hp
      exact fin u p (by rw [hx.int, hy.int]; exact h1) h2 h3
    | _ => rw [hX, hY] at hp; exact hp.elim
  | str s =>
    cases hY : opnd E y with
    | str t =>
      rw [hX] at hx hp; rw [hY] at hy hp
      obtain ⟨u, p, h1, h2, h3⟩ := run_bin_str (P := P) (g := g) (w := w) op T x y s t hp
      exact fin u p (by rw [hx.str, hy.str]; exact h1) h2 h3
    | _ => rw [hX, hY] at hp; exact hp.elim
  | bool s =>
    cases hY : opnd E y with
    | bool t =>
      rw [hX] at hx hp; rw [hY] at hy hp
      obtain ⟨u, p, h1, h2, h3⟩ := run_bin_bool (P := P) (g := g) (w := w) hT op T x y s t hp
      exact fin u p (by rw [hx.bool, hy.bool]; exact h1) h2 h3
    | _ => rw [hX, hY] at hp; exact hp.elim
  | agg xs =>
    cases hY : opnd E y with
    | agg ys =>
      rw [hX] at hx hp; rw [hY] at hy hp
      obtain ⟨us, h1, h2, h3⟩ := (plain_of hx (by simp) (by simp)).inv_agg
      obtain ⟨vs, k1, k2, k3⟩ := (plain_of hy (by simp) (by simp)).inv_agg
      obtain ⟨u, p, e1, e2, e3⟩ := run_bin_agg hT hd op T x y h2 k2 h3 k3 hp
      exact fin u p (by rw [h1, k1]; exact e1) e2 e3
    | _ => rw [hX, hY] at hp; exact hp.elim
  | slice n cs ow =>
    cases hY : opnd E y with
    | nilS =>
      rw [hX] at hx hp; rw [hY] at hy hp
      simp only [pBin] at hp
      split at hp
      · rename_i i hi
        split at hp
        · rename_i e hk
          have hu := (tis hT hi).slice hk
          have hy' := (plain_of hy (by simp) (by simp)).inv_nilS
          rcases hx.slice.inv_slice with ⟨hvb, hn, _⟩ | ⟨b, off, cap, hvb, hle, himm⟩
          · obtain ⟨r1, r2⟩ := run_bin_nils (P := P) (w := w) op T e x y none 0 0 hu
            cases op
            case eql => exact fin _ _ (by rw [hvb, hy']; exact r1 rfl) (.bool _) (hp.2 hn).1
            case neq => exact fin _ _ (by rw [hvb, hy']; exact r2 rfl) (.bool _) (hp.2 hn).2
            all_goals exact hp.elim
          · obtain ⟨r1, r2⟩ := run_bin_nils (P := P) (w := w) op T e x y (some ⟨b, off, none⟩) n cap hu
            cases op
            case eql => exact fin _ _ (by rw [hvb, hy']; exact r1 rfl) (.bool _) (by
              rcases Nat.eq_zero_or_pos n with h | h
              · exact (hp.2 h).2
              · exact hp.1 h)
            case neq => exact fin _ _ (by rw [hvb, hy']; exact r2 rfl) (.bool _) (by
              rcases Nat.eq_zero_or_pos n with h | h
              · exact (hp.2 h).1
              · exact hp.1 h)
            all_goals exact hp.elim
        · exact hp.elim
      · exact hp.elim
    | _ => rw [hX, hY] at hp; exact hp.elim
  | sref id off n cap =>
    cases hY : opnd E y with
    | nilS =>
      rw [hX] at hx hp; rw [hY] at hy hp
      simp only [pBin] at hp
      split at hp
      · rename_i i hi
        split at hp
        · rename_i e hk
          have hu := (tis hT hi).slice hk
          have hy' := (plain_of hy (by simp) (by simp)).inv_nilS
          obtain ⟨b, hvb, _, _⟩ := (plain_of hx (by simp) (by simp)).inv_sref
          obtain ⟨r1, r2⟩ := run_bin_nils (P := P) (w := w) op T e x y (some ⟨b, off, none⟩) n cap hu
          cases op
          case eql => exact fin _ _ (by rw [hvb, hy']; exact r1 rfl) (.bool _) hp
          case neq => exact fin _ _ (by rw [hvb, hy']; exact r2 rfl) (.bool _) hp
          all_goals exact hp.elim
        · exact hp.elim
      · exact hp.elim
    | _ => rw [hX, hY] at hp; exact hp.elim
  | nilS =>
    cases hY : opnd E y with
    | nilS =>
      rw [hX] at hx hp; rw [hY] at hy hp
      simp only [pBin] at hp
      split at hp
      · rename_i i hi
        split at hp
        · rename_i e hk
          have hu := (tis hT hi).slice hk
          have hy' := (plain_of hy (by simp) (by simp)).inv_nilS
          have hvb := (plain_of hx (by simp) (by simp)).inv_nilS
          obtain ⟨r1, r2⟩ := run_bin_nils (P := P) (w := w) op T e x y none 0 0 hu
          cases op
          case eql => exact fin _ _ (by rw [hvb, hy']; exact r1 rfl) (.bool _) hp
          case neq => exact fin _ _ (by rw [hvb, hy']; exact r2 rfl) (.bool _) hp
          all_goals exact hp.elim
        · exact hp.elim
      · exact hp.elim
    | _ => rw [hX, hY] at hp; exact hp.elim
  | ptr pp =>
    cases hY : opnd E y with
    | ptr qq =>
      rw [hX] at hx hp; rw [hY] at hy hp
      simp only [pBin] at hp
      split at hp
      · rename_i i hi
        split at hp
        · rename_i hk
          obtain ⟨e, hu, _⟩ := (tis hT hi).ptr hk
          cases qq with
          | some _ => exact hp.elim
          | none =>
            have hy' := (plain_of hy (by simp) (by simp)).inv_nilp
            have hx' : ∃ o, a.eval x = .pointer o ∧ o.isNone = pp.isNone := by
              cases pp with
              | none => exact ⟨none, (plain_of hx (by simp) (by simp)).inv_nilp, rfl⟩
              | some pp =>
                obtain ⟨id, off⟩ := pp
                obtain ⟨b, h, _⟩ := (plain_of hx (by simp) (by simp)).inv_ptr
                exact ⟨_, h, rfl⟩
            obtain ⟨o', h1, h2⟩ := hx'
            obtain ⟨r1, r2⟩ := run_bin_nil (P := P) (w := w) op T e x y o' hu
            cases op
            case eql => exact fin _ _ (by rw [h1, hy']; exact r1 rfl) (.bool _) (by rw [h2]; exact hp)
            case neq => exact fin _ _ (by rw [h1, hy']; exact r2 rfl) (.bool _) (by rw [h2]; exact hp)
            all_goals exact hp.elim
        · exact hp.elim
      · exact hp.elim
    | _ => rw [hX, hY] at hp; exact hp.elim
  | elem cs =>
    cases hY : opnd E y with
    | ptr qq =>
      cases qq with
      | some _ => rw [hX, hY] at hp; exact hp.elim
      | none =>
        rw [hX] at hx hp; rw [hY] at hy hp
        simp only [pBin] at hp
        split at hp
        · rename_i i hi
          split at hp
          · rename_i hk
            obtain ⟨e, hu, _⟩ := (tis hT hi).ptr hk
            have hy' := (plain_of hy (by simp) (by simp)).inv_nilp
            obtain ⟨b, off, h1, _⟩ := (plain_of hx (by simp) (by simp)).inv_elem
            obtain ⟨r1, r2⟩ := run_bin_nil (P := P) (w := w) op T e x y (some ⟨b, off, none⟩) hu
            cases op
            case eql => exact fin _ _ (by rw [h1, hy']; exact r1 rfl) (.bool _) hp
            case neq => exact fin _ _ (by rw [h1, hy']; exact r2 rfl) (.bool _) hp
            all_goals exact hp.elim
          · exact hp.elim
        · exact hp.elim
    | _ => rw [hX, hY] at hp; exact hp.elim
  | _ => rw [hX] at hp; exact hp.elim
end
end Ps
