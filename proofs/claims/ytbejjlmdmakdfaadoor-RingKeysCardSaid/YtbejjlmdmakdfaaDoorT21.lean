import Derived.Test.YtbejjlmdmakdfaaDoorT20
set_option linter.all false
set_option linter.unusedVariables false
set_option linter.unusedSimpArgs false
set_option linter.unnecessarySimpa false
set_option maxRecDepth 100000
set_option linter.unusedVariables false
namespace Go.Proofs.Tryd
open Go Ps
def Ext (H H' : PH) : Prop := ∃ ext, H' = H ++ ext
theorem Ext.refl (H : PH) : Ext H H := ⟨[], by simp⟩
theorem Ext.push {H H' : PH} (h : Ext H H') (o : PObj) : Ext H (H' ++ [o]) := by
  obtain ⟨e, rfl⟩ := h
  exact ⟨e ++ [o], by simp⟩
theorem Ext.set {H H' : PH} (h : Ext H H') {id : Nat} (hid : H.length ≤ id) (o : PObj) : Ext H (H'.set id o) := by
  obtain ⟨e, rfl⟩ := h
  exact ⟨e.set (id - H.length) o, by rw [List.set_append_right _ _ hid]⟩
theorem Ext.get {H H' : PH} (h : Ext H H') {j : Nat} {o : PObj} (hj : H[j]? = some o) : H'[j]? = some o := by
  obtain ⟨e, rfl⟩ := h
  rw [List.getElem?_append_left (List.getElem?_eq_some_iff.1 hj).1]; exact hj
theorem Ext.len {H H' : PH} (h : Ext H H') : H.length ≤ H'.length := by
  obtain ⟨e, rfl⟩ := h
  simp
def keyC (e : Ent) : List PV := e.key.map byteC
structure KeS where
  k : Nat
  H : PH
  v : PV
def keyOk (H : PH) (l : List Ent) (k : Nat) (H' : PH) (v : PV) : Prop :=
  (k = 0 ∧ v = .nilS) ∨ (0 < k ∧ ∃ id cap o, v = .sref id 0 k cap ∧ H.length ≤ id ∧ H'[id]? = some o ∧ (k ≤ cap ∧ o.cs.length = cap * 32) ∧ o.cs.take (k * 32) = (l.take k).flatMap keyC)
theorem take_pre {a b : List PV} {n : Nat} (h : a.length = n) : (a ++ b).take n = a := by subst h; simp
theorem dem_keys (l : List Ent) : (l.flatMap keyC).map dem = l.flatMap keyC := by
  rw [List.map_flatMap]
  congr 1
  funext e
  show ((e.key.map byteC).map dem) = e.key.map byteC
  rw [List.map_map]
  rfl
theorem c16 {H : PH} {rid v : Nat} {l : List Ent} (hid : H[rid]? = some (ringO l v)) (hl : l.length ≤ 1000) (hk : ∀ e ∈ l, e.key.length = 32) :
    CallOk prog 16 [.ptr (some (rid, 0))] H fun r H' => Ext H H' ∧ keyOk H l l.length H' r := by
  (refine callOk_of_pFun2 (tt := ttR) (imm := imm16) follows ttR_ok depth6 func16 (by kernel_rfl) ?_; (conv => whnf))
  ((conv in (_[_]?) => tactic => exact hid); (conv => whnf))
  refine loopK_of KeS (fun x => [(11, .slice l.length (l.flatMap Ent.cells) none), (12, .int .i64 l.length), (13, .int .i64 x.k), (3, x.v)]) (fun x => x.H)
    (fun x => x.k ≤ l.length ∧ Ext H x.H ∧ keyOk H l x.k x.H x.v) (fun x => l.length - x.k)
    ⟨⟨0, H, .nilS⟩, ⟨Nat.zero_le _, Ext.refl H, .inl ⟨rfl, rfl⟩⟩, ⟨rfl, rfl, rfl, rfl, trivial⟩, rfl⟩ ?_
  rintro ⟨k, H1, lv⟩ ⟨g1, g2, g3⟩
  have g1 : k ≤ l.length := g1
  have g2 : Ext H H1 := g2
  have g3 : keyOk H l k H1 lv := g3
  (conv => whnf)
  refine ⟨fun hkl => ?_, fun hkl => ?_⟩
  · (conv => whnf)
    have hkl : (k : Int) < l.length := hkl
    have hi : k < l.length := by omega
    refine ⟨⟨by show (0 : Int) ≤ (k : Int); omega, hkl⟩, l[k].cells, fun j c hj => ?_, ?_⟩
    · rw [← flat_at hk hi j c hj]
      show (l.flatMap Ent.cells)[(k : Int).toNat * 36 + j]? = _
      rw [Int.toNat_natCast]
    have hkey := hk _ (List.getElem_mem hi)
    have htake : (l.take (k + 1)).flatMap keyC = (l.take k).flatMap keyC ++ keyC l[k] := by
      rw [List.take_succ_eq_append_getElem hi, List.flatMap_append]; simp
    have hkc : (keyC l[k]).length = 32 := by simp [keyC, hkey]
    generalize l[k] = e at hkey htake hkc ⊢
    obtain ⟨er, en, kv, key, box⟩ := e
    match key, hkey with
    | [a0, a1, a2, a3, a4, a5, a6, a7, a8, a9, a10, a11, a12, a13, a14, a15, b0, b1, b2, b3, b4, b5, b6, b7, b8, b9, b10, b11, b12, b13, b14, b15], _ =>
      have hlast : ∀ (E : Env) (H' : PH) (v' : PV), subE [(11, .slice l.length (l.flatMap Ent.cells) none), (12, .int .i64 l.length), (13, .int .i64 (IntKind.i64.wrap ((k : Int) + 1))), (3, v')] E → Ext H H' → keyOk H l (k + 1) H' v' →
        ∃ s' : KeS, (s'.k ≤ l.length ∧ Ext H s'.H ∧ keyOk H l s'.k s'.H s'.v) ∧ subE [(11, .slice l.length (l.flatMap Ent.cells) none), (12, .int .i64 l.length), (13, .int .i64 s'.k), (3, s'.v)] E ∧ H' = s'.H ∧ l.length - s'.k < l.length - k := by
        intro E H' v' hE hx hky
        rw [wrap64 (by omega) (by omega)] at hE
        exact ⟨⟨k + 1, H', v'⟩, ⟨by show k + 1 ≤ l.length; omega, hx, hky⟩, hE, rfl, by show l.length - (k + 1) < l.length - k; omega⟩
      have hlen := g2.len
      rcases g3 with ⟨rfl, rfl⟩ | ⟨hk0, id, cap, o, rfl, hid1, hob, hcl, hct⟩
      · (conv => whnf)
        ((conv in (_[_]?) => tactic => exact get_last H1 _); (conv => whnf))
        ((conv in (_[_]?) => tactic => exact (show ((H1 ++ [_]).set H1.length _)[H1.length]? = some _ from List.getElem?_set_self (by simp))); (conv => whnf))
        refine ⟨⟨by show 1 * 32 ≤ _; omega, rfl, rfl⟩, fun h => absurd h (by omega), fun _ cap' hc => ?_⟩
        (conv => whnf)
        refine hlast _ _ _ ⟨rfl, rfl, rfl, rfl, trivial⟩ (((g2.push _).set (by omega) _).push _) (.inr ⟨by omega, _, cap', _, rfl, ?_, get_last _ _, ?_, ?_⟩)
        · show H.length ≤ ((H1 ++ [_]).set H1.length _).length
          simp; omega
        · show 1 ≤ cap' ∧ (List.map byteC [a0, a1, a2, a3, a4, a5, a6, a7, a8, a9, a10, a11, a12, a13, a14, a15, b0, b1, b2, b3, b4, b5, b6, b7, b8, b9, b10, b11, b12, b13, b14, b15] ++ zerosOf (List.replicate 32 (PV.int .u8 0)) (cap' - 1)).length = cap' * 32
          refine ⟨hc, ?_⟩
          rw [List.length_append, (zerosOf_get (z := List.replicate 32 (PV.int .u8 0)) (sz := 32) rfl (by omega) (cap' - 1)).1]
          show 32 + (cap' - 1) * 32 = cap' * 32
          omega
        · show List.take 32 (List.map byteC [a0, a1, a2, a3, a4, a5, a6, a7, a8, a9, a10, a11, a12, a13, a14, a15, b0, b1, b2, b3, b4, b5, b6, b7, b8, b9, b10, b11, b12, b13, b14, b15] ++ _) = (l.take (0 + 1)).flatMap keyC
          rw [htake, take_pre (n := 32) rfl]
          rfl
      · obtain ⟨hcl, hcm⟩ := hcl
        have hoid : ∀ a b : PObj, ((H1 ++ [a]).set H1.length b)[id]? = some o := fun a b => by
          have := (List.getElem?_eq_some_iff.1 hob).1
          rw [List.getElem?_set_ne (by omega), List.getElem?_append_left this]; exact hob
        (conv => whnf)
        ((conv in (_[_]?) => tactic => exact get_last H1 _); (conv => whnf))
        ((conv in (_[_]?) => tactic => exact (show ((H1 ++ [_]).set H1.length _)[H1.length]? = some _ from List.getElem?_set_self (by simp))); (conv => whnf))
        ((conv in (_[_]?) => tactic => exact hoid _ _); (conv => whnf))
        refine ⟨⟨rfl, by show (k + 1) * 32 ≤ _; omega, rfl, rfl, by show k * 32 ≤ _; omega⟩, fun hroom => ⟨by show (k + 1) * 32 ≤ _; omega, ?_⟩, fun hgrow cap' hc => ?_⟩
        · (conv => whnf)
          have hse : (setCells (k * 32) (List.map byteC [a0, a1, a2, a3, a4, a5, a6, a7, a8, a9, a10, a11, a12, a13, a14, a15, b0, b1, b2, b3, b4, b5, b6, b7, b8, b9, b10, b11, b12, b13, b14, b15]) o.cs) = o.cs.take (k * 32) ++ List.map byteC [a0, a1, a2, a3, a4, a5, a6, a7, a8, a9, a10, a11, a12, a13, a14, a15, b0, b1, b2, b3, b4, b5, b6, b7, b8, b9, b10, b11, b12, b13, b14, b15] ++ o.cs.drop (k * 32 + 32) := setCells_eq _ _ _ (by show k * 32 + 32 ≤ _; omega)
          refine hlast _ _ _ ⟨rfl, rfl, rfl, rfl, trivial⟩ (((g2.push _).set (by omega) _).set hid1 _) (.inr ⟨by omega, id, cap, ⟨o.T, setCells (k * 32) (List.map byteC [a0, a1, a2, a3, a4, a5, a6, a7, a8, a9, a10, a11, a12, a13, a14, a15, b0, b1, b2, b3, b4, b5, b6, b7, b8, b9, b10, b11, b12, b13, b14, b15]) o.cs, o.ver + 1⟩, rfl, hid1, get_set (hoid _ _), ⟨hroom, ?_⟩, ?_⟩)
          · show (setCells (k * 32) (List.map byteC [a0, a1, a2, a3, a4, a5, a6, a7, a8, a9, a10, a11, a12, a13, a14, a15, b0, b1, b2, b3, b4, b5, b6, b7, b8, b9, b10, b11, b12, b13, b14, b15]) o.cs).length = cap * 32
            rw [setCells_length _ _ _ (by show k * 32 + 32 ≤ _; omega)]; exact hcm
          · show (setCells (k * 32) (List.map byteC [a0, a1, a2, a3, a4, a5, a6, a7, a8, a9, a10, a11, a12, a13, a14, a15, b0, b1, b2, b3, b4, b5, b6, b7, b8, b9, b10, b11, b12, b13, b14, b15]) o.cs).take ((k + 1) * 32) = _
            rw [hse, htake, hct, ← hct, take_pre (by rw [List.length_append, List.length_take]; show min (k * 32) o.cs.length + 32 = _; omega)]
            rfl
        · (conv => whnf)
          refine hlast _ _ _ ⟨rfl, rfl, rfl, rfl, trivial⟩ (((g2.push _).set (by omega) _).push _) (.inr ⟨by omega, _, cap', ⟨31, (o.cs.take (k * 32)).map dem ++ List.map byteC [a0, a1, a2, a3, a4, a5, a6, a7, a8, a9, a10, a11, a12, a13, a14, a15, b0, b1, b2, b3, b4, b5, b6, b7, b8, b9, b10, b11, b12, b13, b14, b15] ++ zerosOf (List.replicate 32 (PV.int .u8 0)) (cap' - (k + 1)), 0⟩, rfl, ?_, get_last _ _, ⟨hc, ?_⟩, ?_⟩)
          · show H.length ≤ ((H1 ++ [_]).set H1.length _).length
            simp; omega
          · show ((o.cs.take (k * 32)).map dem ++ List.map byteC [a0, a1, a2, a3, a4, a5, a6, a7, a8, a9, a10, a11, a12, a13, a14, a15, b0, b1, b2, b3, b4, b5, b6, b7, b8, b9, b10, b11, b12, b13, b14, b15] ++ zerosOf (List.replicate 32 (PV.int .u8 0)) (cap' - (k + 1))).length = cap' * 32
            rw [List.length_append, List.length_append, List.length_map, List.length_take, (zerosOf_get (z := List.replicate 32 (PV.int .u8 0)) (sz := 32) rfl (by omega) (cap' - (k + 1))).1]
            show min (k * 32) o.cs.length + 32 + (cap' - (k + 1)) * 32 = cap' * 32
            omega
          · show ((o.cs.take (k * 32)).map dem ++ List.map byteC [a0, a1, a2, a3, a4, a5, a6, a7, a8, a9, a10, a11, a12, a13, a14, a15, b0, b1, b2, b3, b4, b5, b6, b7, b8, b9, b10, b11, b12, b13, b14, b15] ++ zerosOf (List.replicate 32 (PV.int .u8 0)) (cap' - (k + 1))).take ((k + 1) * 32) = _
            rw [htake, take_pre (by rw [List.length_append, List.length_map, List.length_take]; show min (k * 32) o.cs.length + 32 = _; omega), hct, dem_keys]
            rfl
  · (conv => whnf)
    have hkl : ¬ (k : Int) < l.length := hkl
    have : k = l.length := by omega
    subst this
    rcases g3 with ⟨y1, rfl⟩ | ⟨y1, id, cap, o, rfl, y2⟩
    · (conv => whnf)
      exact ⟨g2, .inl ⟨y1, rfl⟩⟩
    · (conv => whnf)
      exact ⟨g2, .inr ⟨y1, id, cap, o, rfl, y2⟩⟩
end Go.Proofs.Tryd
