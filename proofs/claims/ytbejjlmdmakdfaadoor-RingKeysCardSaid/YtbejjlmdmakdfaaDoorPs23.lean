/- PSem, part 23: from an argument's reading to pure values; from a contract at the root to what a row's form asks. -/
import Derived.Test.YtbejjlmdmakdfaaDoorPs22
import Derived.Carry
import Derived.OpenShut
import Derived.Deep.Slices
set_option linter.all false
set_option linter.unusedVariables false
set_option linter.unusedSimpArgs false
set_option linter.unnecessarySimpa false
set_option linter.unusedSimpArgs false
set_option linter.unusedVariables false
namespace Ps
open Go Go.RowKit

/-- Every cell that is there may be read. -/
def gAll (w : World) : Gh := ⟨[], fun b o => ∃ (vs : Array Value) (e : Nat) (fr : Nat × Nat), w.heap[b]? = some (.cells vs e fr) ∧ o < vs.size⟩

theorem cell_gAll {w : World} {b o : Nat} {v : Value} (h : w.cell? ⟨b, o, none⟩ = some v) : (gAll w).I b o := by
  unfold World.cell? at h
  simp only at h
  split at h
  · rename_i c t fr hb
    simp only [Option.isSome_none, Bool.false_eq_true, if_false] at h
    exact ⟨_, _, _, hb, (Array.getElem?_eq_some_iff.1 h).1⟩
  · cases h

/-- A struct's fields follow one another. -/
def tile (P : Program) : Nat → List Field → Nat → Bool
  | o, [], tot => Nat.beq o tot
  | o, f :: fs, tot => Nat.beq f.offset o && tile P (o + P.cellsOf f.type) fs tot
/-- Types of booleans, integers, texts, structs, arrays; and (sl) of slices of such ones. -/
def okT (P : Program) : Nat → Bool → Nat → Bool
  | 0, _, _ => false
  | n + 1, sl, t => match P.underlying t with
    | some .bool => true
    | some (.int _) => true
    | some .string => true
    | some (.slice e) => sl && okT P n false e
    | some (.struct fs) => (fs.toList.all fun f => okT P n sl f.type) && tile P 0 fs.toList (P.cellsOf t)
    | some (.array m e) => okT P n sl e && Nat.beq (m * P.cellsOf e) (P.cellsOf t)
    | _ => false

def RdL (R : Nat → List PV → Prop) : List Field → List PV → Prop
  | [], ps => ps = []
  | f :: fs, ps => ∃ a b, ps = a ++ b ∧ R f.type a ∧ RdL R fs b
/-- What cells of a type are, as pure values. -/
def RdP (P : Program) (B : Nat) : Nat → Nat → List PV → Prop
  | 0, _, _ => False
  | n + 1, t, ps => match P.underlying t with
    | some .bool => ∃ b, ps = [.bool b]
    | some (.int k) => ∃ i, ps = [.int k i] ∧ (Lit.int k i).wf = true
    | some .string => ∃ s : List UInt8, ps = [.str s] ∧ s.length ≤ B
    | some (.slice e) => ∃ rs : List (List PV), ps = [.slice rs.length rs.flatten none] ∧ rs.length * P.bytesOf e ≤ B ∧ rs.length ≤ 9223372036854775807 ∧ ∀ r ∈ rs, r.length = P.cellsOf e ∧ RdP P B n e r
    | some (.struct fs) => RdL (RdP P B n) fs.toList ps
    | some (.array m e) => ∃ rs : List (List PV), rs.length = m ∧ ps = rs.flatten ∧ ∀ r ∈ rs, RdP P B n e r
    | _ => False

def spotOk : Value → Prop
  | .slice (some a) _ _ => a.spot = none
  | _ => True
/-- Cells lie so. -/
def VW (g : Gh) (w : World) (cs : List Value) (ps : List PV) : Prop := ps.length = cs.length ∧ ∀ (j : Nat) (v : Value) (c : PV), cs[j]? = some v → ps[j]? = some c → V g w v c
theorem VW.nil {g : Gh} {w : World} : VW g w [] [] := ⟨rfl, fun j v c h _ => by simp at h⟩
theorem VW.one {g : Gh} {w : World} {v : Value} {p : PV} (h : V g w v p) : VW g w [v] [p] := by
  refine ⟨rfl, fun j u c hu hj => ?_⟩
  match j with
  | 0 => simp at hj hu; subst hj; subst hu; exact h
  | _ + 1 => simp at hj
theorem VW.append {g : Gh} {w : World} {cs cs' : List Value} {ps ps' : List PV} (h : VW g w cs ps) (h' : VW g w cs' ps') : VW g w (cs ++ cs') (ps ++ ps') := by
  refine ⟨by simp [h.1, h'.1], fun j v c hv hc => ?_⟩
  by_cases hj : j < cs.length
  · rw [List.getElem?_append_left hj] at hv
    rw [List.getElem?_append_left (by rw [h.1]; exact hj)] at hc
    exact h.2 j v c hv hc
  · rw [List.getElem?_append_right (by omega)] at hv
    rw [List.getElem?_append_right (by rw [h.1]; omega), h.1] at hc
    exact h'.2 _ v c hv hc
theorem list_choice {α : Type} {n : Nat} {Q : Nat → α → Prop} (h : ∀ i, i < n → ∃ a, Q i a) : ∃ l : List α, l.length = n ∧ ∀ i a, l[i]? = some a → Q i a := by
  induction n with
  | zero => exact ⟨[], rfl, fun i a h => by simp at h⟩
  | succ n ih =>
    obtain ⟨l, h1, h2⟩ := ih fun i hi => h i (Nat.lt_succ_of_lt hi)
    obtain ⟨a, ha⟩ := h n (Nat.lt_succ_self n)
    refine ⟨l ++ [a], by simp [h1], fun i b hb => ?_⟩
    by_cases hi : i < l.length
    · rw [List.getElem?_append_left hi] at hb; exact h2 i b hb
    · rw [List.getElem?_append_right (by omega)] at hb
      match e : i - l.length with
      | 0 => rw [e] at hb; simp at hb; subst hb; rw [show i = n by omega]; exact ha
      | _ + 1 => rw [e] at hb; simp at hb

theorem mem_weightsAll {H : Type} {P : Program} {e : TypeId} {d : DataW H} {y : Nat} : ∀ {l : List (DataW H)}, d ∈ l → y ∈ d.weights P e → y ∈ DataW.weightsAll P e l
  | [], h, _ => by simp at h
  | c :: l, h, hy => by
    simp only [DataW.weightsAll, List.mem_append]
    rcases List.mem_cons.1 h with rfl | h
    · exact .inl hy
    · exact .inr (mem_weightsAll h hy)
theorem mem_weightsEach {H : Type} {P : Program} {y : Nat} : ∀ {ts : List TypeId} {l : List (DataW H)} {i : Nat} {t : TypeId} {d : DataW H}, ts[i]? = some t → l[i]? = some d → y ∈ d.weights P t → y ∈ DataW.weightsEach P ts l
  | [], _, _, _, _, h, _, _ => by simp at h
  | _ :: _, [], _, _, _, _, h, _ => by simp at h
  | u :: ts, c :: l, 0, t, d, h, h', hy => by
    simp only [List.getElem?_cons_zero, Option.some.injEq] at h h'
    subst h; subst h'
    simp only [DataW.weightsEach, List.mem_append]
    exact .inl hy
  | u :: ts, c :: l, i + 1, t, d, h, h', hy => by
    simp only [List.getElem?_cons_succ] at h h'
    simp only [DataW.weightsEach, List.mem_append]
    exact .inr (mem_weightsEach h h' hy)

section
variable {H : Type} {enc : TypeId × Value → H} {P : Program} {w : World}

theorem trod_fields {n m B : Nat} {sl : Bool} (ih : ∀ t cs (x : DataW H × List MemPlace), okT P n sl t = true → DataW.trod enc P w 0 (fun _ => true) true m t cs = some x → (∀ y ∈ x.1.weights P t, y ≤ B) → (sl = true → ∀ v ∈ cs, spotOk v) → ∃ ps, VW (gAll w) w cs ps ∧ RdP P B n t ps)
    (cs : List Value) (hsp : sl = true → ∀ v ∈ cs, spotOk v) : ∀ (fs : List Field) (o : Nat), (∀ f ∈ fs, okT P n sl f.type = true) → tile P o fs cs.length = true →
      (∀ f ∈ fs, ∃ x : DataW H × List MemPlace, DataW.trod enc P w 0 (fun _ => true) true m f.type ((cs.drop f.offset).take (P.cellsOf f.type)) = some x ∧ ∀ y ∈ x.1.weights P f.type, y ≤ B) →
      ∃ ps, VW (gAll w) w (cs.drop o) ps ∧ RdL (RdP P B n) fs ps
  | [], o, _, ht, _ => by
    have : o = cs.length := Nat.eq_of_beq_eq_true ht
    exact ⟨[], by rw [List.drop_of_length_le (by omega)]; exact VW.nil, rfl⟩
  | f :: fs, o, hok, ht, hx => by
    simp only [tile, Bool.and_eq_true] at ht
    have ho : f.offset = o := Nat.eq_of_beq_eq_true ht.1
    obtain ⟨x, hx0, hxw⟩ := hx f List.mem_cons_self
    rw [ho] at hx0
    obtain ⟨a, ha, ra⟩ := ih _ _ x (hok f List.mem_cons_self) hx0 hxw fun h v hv => hsp h v (List.mem_of_mem_drop (List.mem_of_mem_take hv))
    obtain ⟨b, hb, rb⟩ := trod_fields ih cs hsp fs _ (fun g hg => hok g (List.mem_cons_of_mem _ hg)) ht.2 fun g hg => hx g (List.mem_cons_of_mem _ hg)
    refine ⟨a ++ b, ?_, a, b, rfl, ra, rb⟩
    have := ha.append hb
    rwa [← List.drop_drop, List.take_append_drop] at this

theorem rows_V {sz : Nat} {b off : Nat} : ∀ (rs : List (List PV)) (css : List (List Value)) (k : Nat), rs.length = css.length → (∀ (i : Nat) (r : List PV) (cs : List Value), rs[i]? = some r → css[i]? = some cs → cs.length = sz ∧ VW (gAll w) w cs r ∧ ∀ j, j < sz → w.cell? ⟨b, off + (k + i) * sz + j, none⟩ = cs[j]?) →
    ∀ (j : Nat) (c : PV), rs.flatten[j]? = some c → ∃ v, w.cell? ⟨b, off + (k * sz + j), none⟩ = some v ∧ V (gAll w) w v c
  | [], _, _, _, _, j, c, hj => by simp at hj
  | r :: rs, [], _, hl, _, _, _, _ => by simp at hl
  | r :: rs, cs :: css, k, hl, h, j, c, hj => by
    obtain ⟨h1, h2, h3⟩ := h 0 r cs rfl rfl
    rw [List.flatten_cons] at hj
    by_cases hlt : j < r.length
    · rw [List.getElem?_append_left hlt] at hj
      have hjc : j < cs.length := by rw [← h2.1]; exact hlt
      refine ⟨cs[j], ?_, h2.2 j _ _ (List.getElem?_eq_getElem hjc) hj⟩
      have := h3 j (by omega)
      rw [List.getElem?_eq_getElem hjc] at this
      rw [← this]; congr 2; simp only [Nat.add_zero]; omega
    · rw [List.getElem?_append_right (by omega)] at hj
      obtain ⟨v, e1, e2⟩ := rows_V rs css (k + 1) (by simpa using hl) (fun i r' cs' hr hc => by
        obtain ⟨g1, g2, g3⟩ := h (i + 1) r' cs' (by simpa using hr) (by simpa using hc)
        exact ⟨g1, g2, fun j hj => by rw [← g3 j hj]; congr 3; rw [show k + 1 + i = k + (i + 1) by omega]⟩) _ c hj
      refine ⟨v, ?_, e2⟩
      rw [← e1]; congr 2
      have : r.length = sz := by rw [h2.1, h1]
      rw [Nat.succ_mul]; omega

theorem trod_rd {B : Nat} : ∀ (n : Nat) (m : Nat) (sl : Bool) (t : Nat) (cs : List Value) (x : DataW H × List MemPlace), okT P n sl t = true → DataW.trod enc P w 0 (fun _ => true) true m t cs = some x → (∀ y ∈ x.1.weights P t, y ≤ B) → (sl = true → ∀ v ∈ cs, spotOk v) →
    ∃ ps, VW (gAll w) w cs ps ∧ RdP P B n t ps
  | 0, _, _, _, _, _, h, _, _, _ => by simp [okT] at h
  | n + 1, m, sl, t, cs, x, hok, h, hwt, hsp => by
    unfold okT at hok
    unfold RdP
    cases hu : P.underlying t with
    | none => rw [hu] at hok; cases hok
    | some u =>
      rw [hu] at hok
      cases u with
      | bool =>
        obtain ⟨b, rfl, _⟩ := DataW.trod_bool hu h
        exact ⟨[.bool b], VW.one (.bool b), b, rfl⟩
      | int k =>
        obtain ⟨i, rfl, _, hw⟩ := DataW.trod_int hu h
        exact ⟨[.int k i], VW.one (.int k i), i, rfl, hw⟩
      | string =>
        obtain ⟨s, rfl, rfl, hs⟩ := DataW.trod_string hu h
        exact ⟨[.str s.data.toList], VW.one (.str s.data.toList), _, rfl, hwt _ (by simp [DataW.weights])⟩
      | slice e =>
        have hok : (sl && okT P n false e) = true := hok
        rw [Bool.and_eq_true] at hok
        rcases Go.Deep.open_slice hu h with ⟨rfl, _⟩ | ⟨a, len, cap, m', k, D, Pl, rfl, _, hl, hm, hmm, rfl, hx⟩
        · exact ⟨[.slice 0 [] none], VW.one (.snil none), [], rfl, by simp, by simp, fun r hr => by simp at hr⟩
        · have hspot : a.spot = none := hsp hok.1 _ (List.mem_singleton.2 rfl)
          simp only [if_true] at hmm
          simp only [DataW.weights, hu, List.mem_cons, List.mem_append, List.length_map, List.length_range] at hwt
          have hlen : len * P.bytesOf e ≤ B := Nat.le_trans (Nat.mul_le_mul_right _ (by omega)) (hwt _ (.inl rfl))
          obtain ⟨cws, hcl, hcw⟩ := list_choice (n := len) (Q := fun i (y : List Value × List PV) => w.cells? 0 (a.add (i * P.cellsOf e)) (P.cellsOf e) = some y.1 ∧ VW (gAll w) w y.1 y.2 ∧ RdP P B n e y.2) fun i hi => by
            obtain ⟨cs', h1, h2⟩ := hx i (by omega)
            obtain ⟨ps, g1, g2⟩ := trod_rd n _ false e cs' _ hok.2 h2 (fun y hy => hwt y (.inr (.inl (mem_weightsAll (List.mem_map.2 ⟨i, List.mem_range.2 hi, rfl⟩) hy)))) fun hc => by cases hc
            exact ⟨(cs', ps), h1, g1, g2⟩
          have hadd : ∀ x y : Nat, (a.add x).add y = ⟨a.block, a.off + x + y, none⟩ := fun x y => by
            cases a with | mk b o s => subst hspot; unfold Addr.add; split <;> split <;> simp_all
          have hrow := rows_V (w := w) (sz := P.cellsOf e) (b := a.block) (off := a.off) (cws.map (·.2)) (cws.map (·.1)) 0 (by simp) fun i r cs hr hc => by
            rw [List.getElem?_map, Option.map_eq_some_iff] at hr hc
            obtain ⟨y, hy, rfl⟩ := hr
            obtain ⟨z, hz, rfl⟩ := hc
            rw [hy] at hz; cases hz
            obtain ⟨g1, g2, g3⟩ := hcw i y hy
            obtain ⟨_, e1, e2⟩ := World.cells?_some g1
            exact ⟨e1, g2, fun j hj => by rw [← e2 j hj, hadd, Nat.zero_add]⟩
          refine ⟨[.slice len (cws.map (·.2)).flatten none], VW.one ?_, cws.map (·.2), by simp [hcl], by simp only [List.length_map, hcl]; exact hlen, by simp only [List.length_map, hcl]; simp [maxLen] at hm; omega, fun r hr => ?_⟩
          · cases a with
            | mk b o s =>
              subst hspot
              refine .slice b o len cap _ (fun j => (w.cell? ⟨b, o + j, none⟩).getD Go.undef) hl (fun j c hj => ?_) fun j c hj => ?_
              · obtain ⟨v, e1, _⟩ := hrow j c hj
                rw [Nat.zero_mul, Nat.zero_add] at e1
                exact ⟨cell_gAll e1, by rw [e1]; rfl⟩
              · obtain ⟨v, e1, e2⟩ := hrow j c hj
                rw [Nat.zero_mul, Nat.zero_add] at e1
                rw [e1]; exact e2
          · rw [List.mem_map] at hr
            obtain ⟨y, hy, rfl⟩ := hr
            obtain ⟨i, hi⟩ := List.getElem?_of_mem hy
            obtain ⟨g1, g2, g3⟩ := hcw i y hi
            exact ⟨by rw [g2.1]; exact (World.cells?_some g1).2.1, g3⟩
      | struct fs =>
        have hok : ((fs.toList.all fun f => okT P n sl f.type) && tile P 0 fs.toList (P.cellsOf t)) = true := hok
        rw [Bool.and_eq_true, List.all_eq_true] at hok
        obtain ⟨xs, k, _, rfl, hl, hlen, hx⟩ := DataW.trod_struct hu h
        simp only [DataW.weights, hu] at hwt
        obtain ⟨ps, h1, h2⟩ := trod_fields (enc := enc) (m := k) (fun t cs x a b c d => trod_rd n k sl t cs x a b c d) cs hsp fs.toList 0 hok.1 (by rw [hl]; exact hok.2) fun f hf => by
          obtain ⟨i, hi⟩ := List.getElem?_of_mem hf
          have hi' : fs[i]? = some f := by simpa using hi
          have hlt : i < xs.length := by rw [hlen]; exact (Array.getElem?_eq_some_iff.1 hi').1
          exact ⟨xs[i], by rw [hx i f hi', List.getElem?_eq_getElem hlt], fun y hy => hwt y (mem_weightsEach (i := i) (by simp [hi]) (by simp [hlt]) hy)⟩
        exact ⟨ps, h1, h2⟩
      | array k e =>
        have hok : (okT P n sl e && Nat.beq (k * P.cellsOf e) (P.cellsOf t)) = true := hok
        rw [Bool.and_eq_true] at hok
        obtain ⟨xs, f, _, rfl, hl, hlen, hx⟩ := DataW.trod_array hu h
        simp only [DataW.weights, hu] at hwt
        have htot : k * P.cellsOf e = cs.length := by rw [hl]; exact Nat.eq_of_beq_eq_true hok.2
        have key : ∀ i, i ≤ k → ∃ rs : List (List PV), rs.length = k - i ∧ VW (gAll w) w (cs.drop (i * P.cellsOf e)) rs.flatten ∧ ∀ r ∈ rs, RdP P B n e r := by
          intro i hi
          induction hd : k - i generalizing i with
          | zero =>
            refine ⟨[], rfl, ?_, fun r hr => by simp at hr⟩
            rw [show i = k by omega, htot, List.drop_length]; exact VW.nil
          | succ d ihd =>
            obtain ⟨rs, g1, g2, g3⟩ := ihd (i + 1) (by omega) (by omega)
            have hlt : i < xs.length := by omega
            obtain ⟨r, r1, r2⟩ := trod_rd n f sl e _ xs[i] hok.1 (by rw [hx i (by omega), List.getElem?_eq_getElem hlt]) (fun y hy => hwt y (mem_weightsAll (List.mem_map.2 ⟨xs[i], List.getElem_mem hlt, rfl⟩) hy)) fun hh v hv => hsp hh v (List.mem_of_mem_drop (List.mem_of_mem_take hv))
            refine ⟨r :: rs, by simp [g1], ?_, fun r' hr' => ?_⟩
            · have := r1.append g2
              rw [Nat.succ_mul, ← List.drop_drop, List.take_append_drop] at this
              simpa using this
            · rcases List.mem_cons.1 hr' with rfl | hr'
              · exact r2
              · exact g3 _ hr'
        obtain ⟨rs, g1, g2, g3⟩ := key 0 (Nat.zero_le _)
        exact ⟨rs.flatten, by simpa using g2, rs, by simpa using g1, rfl, g3⟩
      | _ => cases hok
end
end Ps
