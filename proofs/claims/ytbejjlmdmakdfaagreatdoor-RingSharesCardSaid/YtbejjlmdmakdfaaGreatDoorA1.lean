import Derived.Test.YtbejjlmdmakdfaaGreatDoorA0
import Derived.Test.YtbejjlmdmakdfaaGreatDoorPsC
set_option linter.all false
set_option maxRecDepth 100000
set_option maxHeartbeats 1000000
set_option linter.unusedVariables false
set_option linter.unusedSimpArgs false
namespace Go.Proofs.Tryz
open Go Ps
/-- Bytes, a value of its own. -/
def ow (b : List UInt8) : PV := .slice b.length (b.map byteC) (some 5)
theorem psize5 : psize prog 5 = 1 := by kernel_rfl
theorem allFlat (b : List UInt8) : (b.map byteC).all flatP = true := List.all_eq_true.2 fun x hx => by
  obtain ⟨b, _, rfl⟩ := List.mem_map.1 hx
  rfl
theorem clone140 (b : List UInt8) (hb : b.length ≤ 140737488355328) : Pure prog 140 [sl b] (ow b) := by
  intro H
  (refine callOk_of_pFun2 (tt := ttS) (imm := imm140) follows ttS_ok depth6 func140 (by kernel_rfl) ?_; (conv => whnf))
  have happ : (0 + b.length) * 1 ≤ 140737488355328 ∧ (b.map byteC).length = b.length * 1 ∧ (b.map byteC).all oneP = true := ⟨by omega, by simp, allOne b⟩
  refine ⟨fun h => ?_, fun h => ⟨?_, ?_⟩⟩
  · (conv => whnf)
    refine ⟨happ, ?_⟩
    (conv => whnf)
    exact ⟨by rw [Nat.zero_add]; rfl, rfl⟩
  · (conv => whnf)
    have e : b = [] := List.length_eq_zero_iff.1 h
    subst e
    exact ⟨rfl, rfl⟩
  · (conv => whnf)
    refine ⟨happ, ?_⟩
    (conv => whnf)
    exact ⟨by rw [Nat.zero_add]; rfl, rfl⟩
theorem c140o (b : List UInt8) (hb : b.length ≤ 140737488355328) (h0 : 0 < b.length) (H : PH) :
    CallOk prog 140 [sl b] H fun r H' => ∃ cap k, r = .sref H.length 0 b.length cap ∧ b.length + k = cap ∧ H' = H ++ [⟨5, b.map byteC ++ List.replicate k PV.undef, 0⟩] := by
  refine (CallOk.obj (n := b.length) (cs := b.map byteC) (clone140 b hb H) h0 psize5 (allFlat b)).mono fun r H' hh => ?_
  obtain ⟨cap, k, h1, h2, h3, h4⟩ := hh
  rw [List.length_map] at h2
  exact ⟨cap, k, h3, by omega, h4⟩
/-- A Box: its cipher's object, the other half of its key, its counts. -/
def boxS (sid : Nat) (sp : List UInt8) (s o r : Int) (v : Nat) : PObj := ⟨173, [.ptr (some (sid, 0))] ++ sp.map byteC ++ [.int .i64 s, .int .i64 o, .int .i64 r], v⟩
theorem boxO_eq (k : List UInt8) (n : Nat) : boxO k n = boxS n (k.drop 16) 0 0 0 0 := rfl
def tagV (sp : List UInt8) (u : Int) (ahead : List UInt8) : List UInt8 := bigV (sipV sp (byteI u :: ahead))
theorem bigV_len (n : Int) : (bigV n).length = 8 := rfl
theorem c96 (sid : Nat) (sp : List UInt8) (hsp : sp.length = 16) (s o r : Int) (v : Nat) (u : Int) (ahead : List UInt8) (ha : ahead.length ≤ 1000000) (bid : Nat) (H : PH) (hb : H[bid]? = some (boxS sid sp s o r v)) :
    CallOk prog 96 [.ptr (some (bid, 0)), .int .i64 u, sl ahead] H fun x H' => x = sl (tagV sp u ahead) ∧ H' = H := by
  obtain ⟨k0, k1, k2, k3, k4, k5, k6, k7, k8, k9, ka, kb, kc, kd, ke, kf, rfl⟩ := len16 hsp
  (refine callOk_of_pFun2 (tt := ttS) (imm := imm96) follows ttS_ok depth6 func96 (by kernel_rfl) ?_; (conv => whnf))
  ((conv in (_[_]?) => tactic => exact hb); (conv => whnf))
  have hfl : [[byteI u], ahead].flatten = byteI u :: ahead := by simp
  have hc := c142 [k0, k1, k2, k3, k4, k5, k6, k7, k8, k9, ka, kb, kc, kd, ke, kf] (by simp) [[byteI u], ahead] (by simp) (by rw [hfl]; simp; omega) (Reps.sl H [[byteI u], ahead])
  rw [hfl] at hc
  refine callK_args (args' := [.agg ([k0, k1, k2, k3, k4, k5, k6, k7, k8, k9, ka, kb, kc, kd, ke, kf].map byteC), .slice 2 ([[byteI u], ahead].map sl) none]) ?_ (callK_of hc ?_)
  · have := byteC_I u
    show [PV.agg _, PV.slice 2 [.slice 1 [.int .u8 (IntKind.u8.wrap u)] none, sl ahead] none] = [PV.agg _, PV.slice 2 [.slice 1 [byteC (byteI u)] none, sl ahead] none]
    rw [this]
    rfl
  rintro _ _ ⟨rfl, rfl⟩
  (conv => whnf)
  refine callK_pure (c94 _) ?_
  (conv => whnf)
  exact ⟨rfl, rfl⟩
def xorL (p st : List UInt8) : List UInt8 := List.zipWith (· ^^^ ·) p st
theorem xorL_len (p st : List UInt8) (h : st.length = p.length) : (xorL p st).length = p.length := by
  unfold xorL; rw [List.length_zipWith]; omega
theorem xor8 (c d : UInt8) : PV.int .u8 (ibits .xor .u8 (c.toNat : Int) (d.toNat : Int)) = byteC (c ^^^ d) := by
  show PV.int .u8 (IntKind.u8.wrap ((BitVec.ofInt 8 (c.toNat : Int) ^^^ BitVec.ofInt 8 (d.toNat : Int)).toNat : Int)) = PV.int .u8 (((c ^^^ d).toNat : Nat) : Int)
  have hb : ∀ {x : UInt8}, BitVec.ofInt 8 (x.toNat : Int) = x.toBitVec := fun {x} => by
    apply BitVec.eq_of_toNat_eq
    rw [BitVec.toNat_ofInt]
    have := x.toNat_lt
    show _ = x.toNat
    omega
  rw [hb, hb]
  have : ((c.toBitVec ^^^ d.toBitVec).toNat) = (c ^^^ d).toNat := rfl
  rw [this]
  congr 1
  have := (c ^^^ d).toNat_lt
  show (((c ^^^ d).toNat : Nat) : Int) % (2 ^ IntKind.u8.bits : Int) = _
  have e : (2 ^ IntKind.u8.bits : Int) = 256 := by decide
  rw [e]; omega
/-- Some bytes done. -/
def curX (p st : List UInt8) (i : Nat) : List UInt8 := (xorL p st).take i ++ p.drop i
theorem curX_len (p st : List UInt8) (i : Nat) (h : st.length = p.length) (hi : i ≤ p.length) : (curX p st i).length = p.length := by
  unfold curX
  rw [List.length_append, List.length_take, List.length_drop, xorL_len p st h]; omega
theorem curX_get (p st : List UInt8) (i : Nat) (h : st.length = p.length) (hi : i < p.length) : (curX p st i)[i]? = some p[i] := by
  unfold curX
  rw [List.getElem?_append_right (by rw [List.length_take, xorL_len p st h]; omega), List.length_take, xorL_len p st h, List.getElem?_drop]
  have : i + (i - min i p.length) = i := by omega
  rw [this]; exact List.getElem?_eq_getElem hi
theorem curX_set (p st : List UInt8) (i : Nat) (h : st.length = p.length) (hi : i < p.length) : (curX p st i).set i (p[i] ^^^ st[i]) = curX p st (i + 1) := by
  unfold curX
  have hx : i < (xorL p st).length := by rw [xorL_len p st h]; exact hi
  rw [List.set_append_right _ _ (by rw [List.length_take]; omega), List.length_take, Nat.min_eq_left (by omega), Nat.sub_self, List.drop_eq_getElem_cons hi, List.set_cons_zero, List.take_succ_eq_append_getElem hx, List.append_assoc, List.singleton_append]
  congr 2
  have : ∀ (a b : List UInt8) (h : i < (List.zipWith (· ^^^ ·) a b).length) (ha : i < a.length) (hb : i < b.length), a[i] ^^^ b[i] = (List.zipWith (· ^^^ ·) a b)[i] := fun a b h ha hb => by simp
  exact this p st hx hi (by omega)
def mixN (nn u : Int) : Int := IntKind.u64.wrap (ishl .u64 nn 8 + IntKind.u64.wrap u)
structure MixS where
  i : Nat
theorem c95x (OkS : PObj → Prop) (so : PObj) (sid : Nat) (nn u : Int) (p st : List UInt8) (hl : st.length = p.length) (hp : 0 < p.length) (hp2 : p.length ≤ 1000000)
    (hst : ∀ H : PH, H[sid]? = some so → CallOk prog 141 [.ptr (some (sid, 0)), .int .u64 (mixN nn u), .int .i64 p.length] H fun r H' => r = sl st ∧ ∃ o', OkS o' ∧ H' = H.set sid o')
    (sp : List UInt8) (hsp : sp.length = 16) (s o r : Int) (v : Nat) (bid : Nat) (H : PH) (hb : H[bid]? = some (boxS sid sp s o r v)) (hs : H[sid]? = some so) :
    CallOk prog 95 [.ptr (some (bid, 0)), .int .i64 u, .int .u64 nn, sl p] H fun x H' => ∃ cap k o' vv, x = .sref H.length 0 p.length cap ∧ p.length + k = cap ∧ OkS o' ∧ H' = H.set sid o' ++ [⟨5, (xorL p st).map byteC ++ List.replicate k PV.undef, vv⟩] := by
  obtain ⟨k0, k1, k2, k3, k4, k5, k6, k7, k8, k9, ka, kb, kc, kd, ke, kf, rfl⟩ := len16 hsp
  have hsl : sid < H.length := (List.getElem?_eq_some_iff.1 hs).1
  (refine callOk_of_pFun2 (tt := ttS) (imm := imm95) follows ttS_ok depth6 func95 (by kernel_rfl) ?_; (conv => whnf))
  refine callK_of (c140o p (by omega) hp H) ?_
  rintro _ _ ⟨cap, k, rfl, hk, rfl⟩
  (conv => whnf)
  have hb' : (H ++ [(⟨5, p.map byteC ++ List.replicate k PV.undef, 0⟩ : PObj)])[bid]? = some (boxS sid [k0, k1, k2, k3, k4, k5, k6, k7, k8, k9, ka, kb, kc, kd, ke, kf] s o r v) := by
    rw [List.getElem?_append_left (List.getElem?_eq_some_iff.1 hb).1]; exact hb
  ((conv in (_[_]?) => tactic => exact hb'); (conv => whnf))
  refine ⟨by decide, ?_⟩
  (conv => whnf)
  refine callK_of (Q := fun r H' => r = sl st ∧ ∃ o', OkS o' ∧ H' = H.set sid o' ++ [⟨5, (curX p st 0).map byteC ++ List.replicate k PV.undef, 0⟩]) ((hst (H ++ [_]) (by rw [List.getElem?_append_left hsl]; exact hs)).mono fun r H' hh => ?_) ?_
  · obtain ⟨h1, o', h2, h3⟩ := hh
    exact ⟨h1, o', h2, by rw [h3, List.set_append_left _ _ hsl]; rfl⟩
  rintro _ _ ⟨rfl, o', ho', rfl⟩
  (conv => whnf)
  have hKl : (H.set sid o').length = H.length := List.length_set
  generalize hK : H.set sid o' = K at hKl
  refine loopK_of MixS (fun x => [(9, .sref H.length 0 p.length cap), (25, sl st), (26, .int .i64 st.length), (27, .int .i64 x.i)]) (fun x => K ++ [⟨5, (curX p st x.i).map byteC ++ List.replicate k PV.undef, x.i⟩]) (fun x => x.i ≤ p.length) (fun x => p.length - x.i) ⟨⟨0⟩, Nat.zero_le _, ⟨rfl, rfl, rfl, rfl, trivial⟩, rfl⟩ ?_
  rintro ⟨i⟩ hi
  replace hi : i ≤ p.length := hi
  have gx : ∀ x : PObj, (K ++ [x])[H.length]? = some x := fun x => by rw [← hKl]; exact get_last K x
  (conv => whnf)
  refine ⟨fun h => ?_, fun h => ?_⟩
  · have h : (i : Int) < st.length := h
    have hi' : i < p.length := by omega
    have his : i < st.length := by omega
    have hcl := curX_len p st i hl hi
    (conv => whnf)
    refine ⟨⟨by omega, h⟩, [byteC st[i]], at1' (k := (i : Int).toNat * 1) (by rw [Int.toNat_natCast, Nat.mul_one, List.getElem?_map, List.getElem?_eq_getElem his]; rfl), ?_⟩
    (conv => whnf)
    refine ⟨⟨by omega, by show (i : Int) < (p.length : Int); omega⟩, ?_⟩
    (conv => whnf)
    ((conv in (_[_]?) => tactic => exact (gx _)); (conv => whnf))
    ((conv in (dropN _ _) => tactic => exact (dropN_app (curX p st i) (List.replicate k PV.undef) (curX_get p st i hl hi'))); (conv => whnf))
    refine ⟨⟨by omega, by show (i : Int) < (p.length : Int); omega⟩, ?_⟩
    (conv => whnf)
    ((conv in (_[_]?) => tactic => exact (gx _)); (conv => whnf))
    ((conv in (Nat.ble _ _) => tactic => exact (show Nat.ble (0 + (i : Int).toNat * 1 + 1) ((curX p st i).map byteC ++ List.replicate k PV.undef).length = true by rw [Nat.ble_eq]; simp [hcl]; omega)); (conv => whnf))
    refine ⟨⟨i + 1⟩, by show i + 1 ≤ p.length; omega, ⟨rfl, rfl, rfl, ?_, trivial⟩, ?_, by show p.length - (i + 1) < p.length - i; omega⟩
    · show PV.int _ (IntKind.i64.wrap ((i : Int) + 1)) = PV.int _ _
      rw [wrap64 (by omega) (by omega)]; simp
    · show (K ++ [_]).set H.length ⟨5, setCells (0 + (i : Int).toNat * 1) [.int .u8 (ibits .xor .u8 (p[i].toNat : Int) (st[i].toNat : Int))] ((curX p st i).map byteC ++ List.replicate k PV.undef), i + 1⟩ = K ++ [⟨5, (curX p st (i + 1)).map byteC ++ List.replicate k PV.undef, i + 1⟩]
      rw [← hKl, set_last, xor8]
      have e : 0 + (i : Int).toNat * 1 = i := by omega
      rw [e, setCells_app _ _ _ _ (by omega), curX_set p st i hl hi']
  · have h : ¬ (i : Int) < st.length := h
    have e : curX p st i = xorL p st := by
      unfold curX
      rw [List.take_of_length_le (by rw [xorL_len p st hl]; omega), List.drop_eq_nil_of_le (by omega), List.append_nil]
    rw [e]
    (conv => whnf)
    exact ⟨cap, k, o', i, rfl, hk, ho', by rw [hK]⟩
theorem get_end {K : PH} {n : Nat} (h : K.length = n) (x : PObj) : (K ++ [x])[n]? = some x := by subst h; exact get_last K x
theorem kept_set {H : PH} {sid : Nat} {o' : PObj} (hs : sid < H.length) (hf : ∀ c ∈ o'.cs, flatP c = true ∨ c ∈ H[sid].cs) : Kept H (H.set sid o') := ⟨List.length_set, fun id o h => by
  by_cases e : id = sid
  · subst e
    rw [List.getElem?_set_self hs] at h
    cases h
    exact ⟨H[id], List.getElem?_eq_getElem hs, hf⟩
  · rw [List.getElem?_set_ne (Ne.symm e)] at h
    exact ⟨o, h, fun c hc => .inr hc⟩⟩
theorem c95 (OkS : PObj → Prop) (hOk : ∀ o', OkS o' → o'.cs.all flatP = true) (so : PObj) (sid : Nat) (nn u : Int) (p st : List UInt8) (hl : st.length = p.length) (hp2 : p.length ≤ 1000000)
    (hst : ∀ H : PH, H[sid]? = some so → CallOk prog 141 [.ptr (some (sid, 0)), .int .u64 (mixN nn u), .int .i64 p.length] H fun r H' => r = sl st ∧ ∃ o', OkS o' ∧ H' = H.set sid o')
    (sp : List UInt8) (hsp : sp.length = 16) (s o r : Int) (v : Nat) (bid : Nat) (H : PH) (hb : H[bid]? = some (boxS sid sp s o r v)) (hs : H[sid]? = some so) :
    CallOk prog 95 [.ptr (some (bid, 0)), .int .i64 u, .int .u64 nn, sl p] H fun x H' => x = sl (xorL p st) ∧ ∃ o', OkS o' ∧ H' = H.set sid o' := by
  have hsl : sid < H.length := (List.getElem?_eq_some_iff.1 hs).1
  rcases Nat.eq_zero_or_pos p.length with hp | hp
  · have hp' : p = [] := List.length_eq_zero_iff.1 hp
    have hst' : st = [] := List.length_eq_zero_iff.1 (by omega)
    subst hp' hst'
    obtain ⟨k0, k1, k2, k3, k4, k5, k6, k7, k8, k9, ka, kb, kc, kd, ke, kf, rfl⟩ := len16 hsp
    (refine callOk_of_pFun2 (tt := ttS) (imm := imm95) follows ttS_ok depth6 func95 (by kernel_rfl) ?_; (conv => whnf))
    refine callK_pure (clone140 [] (by simp)) ?_
    (conv => whnf)
    ((conv in (_[_]?) => tactic => exact hb); (conv => whnf))
    refine ⟨by decide, ?_⟩
    (conv => whnf)
    refine callK_of (hst H hs) ?_
    rintro _ _ ⟨rfl, o', ho', rfl⟩
    (conv => whnf)
    refine loopK_of MixS (fun x => [(9, ow []), (25, sl []), (26, .int .i64 0), (27, .int .i64 0)]) (fun x => H.set sid o') (fun x => True) (fun x => 0) ⟨⟨0⟩, trivial, ⟨rfl, rfl, rfl, rfl, trivial⟩, rfl⟩ ?_
    rintro ⟨i⟩ _
    (conv => whnf)
    refine ⟨fun h => absurd h (by decide), fun _ => ?_⟩
    (conv => whnf)
    exact ⟨rfl, o', ho', rfl⟩
  · have h := c95x OkS so sid nn u p st hl hp hp2 hst sp hsp s o r v bid H hb hs
    refine (CallOk.own (nn := p.length) (cs := (xorL p st).map byteC) (R := fun H' => ∃ o', OkS o' ∧ H' = H.set sid o') h psize5 (by decide) (by rw [List.length_map, xorL_len p st hl, Nat.mul_one]) (allFlat _) (fun x H' hh => ?_)).dem fun x H' hh => ?_
    · obtain ⟨cap, k, o', vv, rfl, hk, ho', rfl⟩ := hh
      refine ⟨H.set sid o', _, H.length, cap, _, rfl, kept_set hsl fun c hc => .inl (List.all_eq_true.1 (hOk o' ho') c hc), ⟨o', ho', rfl⟩, rfl, Nat.le_refl _, get_end List.length_set _, rfl, ?_, ?_⟩
      · show ((xorL p st).map byteC ++ List.replicate k PV.undef).length = _
        rw [List.length_append, List.length_map, List.length_replicate, xorL_len p st hl]; omega
      · show List.take _ ((xorL p st).map byteC ++ List.replicate k PV.undef) = _
        rw [List.take_left]
    · obtain ⟨rfl, hh⟩ := hh
      refine ⟨fun cs hx => (by cases hx), ?_, hh⟩
      unfold sl
      rw [xorL_len p st hl]; rfl
end Go.Proofs.Tryz

set_option maxRecDepth 100000
set_option maxHeartbeats 1000000
set_option linter.unusedVariables false
set_option linter.unusedSimpArgs false
namespace Go.Proofs.Tryz
open Go Ps
theorem Kept.refl (H : PH) : Kept H H := ⟨rfl, fun id o h => ⟨o, h, fun c hc => .inr hc⟩⟩
theorem c94w (n : Int) : Pure prog 94 [.int .u64 n] (ow (bigV n)) := fun H => by
  refine CallOk.own (nn := 8) (cs := (bigV n).map byteC) (R := fun H' => H' = H) (c94x n H) psize5 (by decide) rfl (allFlat _) fun r H' hh => ?_
  obtain ⟨rfl, v, rfl⟩ := hh
  exact ⟨H, _, H.length, 8, _, rfl, Kept.refl H, rfl, rfl, Nat.le_refl _, get_last H _, rfl, rfl, rfl⟩
theorem c141z (sid : Nat) (nn n : Int) (hn : n < 1) (H : PH) : CallOk prog 141 [.ptr (some (sid, 0)), .int .u64 nn, .int .i64 n] H fun r H' => r = sl [] ∧ H' = H := by
  refine CallOk.dem (Q := fun r H' => r = ow [] ∧ H' = H) ?_ fun r H' hh => ⟨fun cs hx => (by rw [hh.1] at hx; cases hx), (by rw [hh.1]; rfl), hh.2⟩
  (refine callOk_of_pFun2 (tt := ttS) (imm := imm141) follows ttS_ok depth6 func141 (by kernel_rfl) ?_; (conv => whnf))
  refine ⟨fun _ => ?_, fun h => absurd hn h⟩
  (conv => whnf)
  exact ⟨rfl, rfl⟩
def sealV (sp : List UInt8) (u nn : Int) (p st : List UInt8) : List UInt8 := (bigV nn ++ xorL p st) ++ tagV sp u (bigV nn ++ xorL p st)
theorem ow_app (a b : List UInt8) : PV.slice (a.length + b.length) (a.map byteC ++ b.map byteC) (some 5) = ow (a ++ b) := by
  unfold ow
  rw [List.length_append, List.map_append]
theorem c34 (OkS : PObj → Prop) (hOk : ∀ o', OkS o' → o'.cs.all flatP = true) (so : PObj) (sid : Nat) (n u : Int) (hu : isUseB u = true) (hn0 : 0 ≤ n) (hn1 : n ≤ 1099511627776) (p st : List UInt8) (hl : st.length = p.length) (hp2 : p.length ≤ 784)
    (hst : ∀ H : PH, H[sid]? = some so → CallOk prog 141 [.ptr (some (sid, 0)), .int .u64 (mixN (IntKind.u64.wrap n) u), .int .i64 p.length] H fun r H' => r = sl st ∧ ∃ o', OkS o' ∧ H' = H.set sid o')
    (sp : List UInt8) (hsp : sp.length = 16) (s o r : Int) (v : Nat) (bid : Nat) (H : PH) (hb : H[bid]? = some (boxS sid sp s o r v)) (hs : H[sid]? = some so) (hne : bid ≠ sid) :
    CallOk prog 34 [.ptr (some (bid, 0)), .int .i64 u, .int .i64 n, sl p] H fun x H' => x = .tup [ow (sealV sp u (IntKind.u64.wrap n) p st), .int .i64 0] ∧ ∃ o', OkS o' ∧ H' = (H.set bid (boxS sid sp (IntKind.i64.wrap (s + 1)) o r (v + 1))).set sid o' := by
  have hs' : (H.set bid (boxS sid sp (IntKind.i64.wrap (s + 1)) o r (v + 1)))[sid]? = some so := by rw [List.getElem?_set_ne hne]; exact hs
  have hb' : (H.set bid (boxS sid sp (IntKind.i64.wrap (s + 1)) o r (v + 1)))[bid]? = some (boxS sid sp (IntKind.i64.wrap (s + 1)) o r (v + 1)) := get_set hb
  have hx := xorL_len p st hl
  (refine callOk_of_pFun2 (tt := ttS) (imm := imm34) follows ttS_ok depth6 func34 (by kernel_rfl) ?_; (conv => whnf))
  refine callK_pure (c92 u) ?_
  rw [hu]
  (conv => whnf)
  refine ⟨fun h => absurd h (by omega), fun _ => ?_⟩
  (conv => whnf)
  refine ⟨fun h => absurd h (by omega), fun _ => ?_⟩
  (conv => whnf)
  refine ⟨fun h => absurd (show (784 : Int) < p.length from h) (by omega), fun _ => ?_⟩
  (conv => whnf)
  refine callK_of (Q := fun x H' => H' = H.set bid (boxS sid sp (IntKind.i64.wrap (s + 1)) o r (v + 1))) ((c93 (off := 17) (n := s) 1 hb ?_).mono fun x H' hh => ?_) ?_
  · obtain ⟨k0, k1, k2, k3, k4, k5, k6, k7, k8, k9, ka, kb, kc, kd, ke, kf, rfl⟩ := len16 hsp
    rfl
  · obtain ⟨k0, k1, k2, k3, k4, k5, k6, k7, k8, k9, ka, kb, kc, kd, ke, kf, rfl⟩ := len16 hsp
    exact hh.2
  rintro x _ rfl
  (conv => whnf)
  refine callK_pure (c94w _) ?_
  (conv => whnf)
  refine callK_of (c95 OkS hOk so sid (IntKind.u64.wrap n) u p st hl (by omega) hst sp hsp (IntKind.i64.wrap (s + 1)) o r (v + 1) bid _ hb' hs') ?_
  rintro _ _ ⟨rfl, o', ho', rfl⟩
  (conv => whnf)
  refine ⟨⟨by show ((8 + (xorL p st).length) * 1 ≤ _); omega, by simp, allOne _⟩, ?_⟩
  (conv => whnf)
  have hb2 : ((H.set bid (boxS sid sp (IntKind.i64.wrap (s + 1)) o r (v + 1))).set sid o')[bid]? = some (boxS sid sp (IntKind.i64.wrap (s + 1)) o r (v + 1)) := by rw [List.getElem?_set_ne (Ne.symm hne)]; exact hb'
  have ha : (bigV (IntKind.u64.wrap n) ++ xorL p st).length ≤ 1000000 := by rw [List.length_append, bigV_len]; omega
  refine callK_args (args' := [.ptr (some (bid, 0)), .int .i64 u, sl (bigV (IntKind.u64.wrap n) ++ xorL p st)]) ?_ (callK_of (c96 sid sp hsp (IntKind.i64.wrap (s + 1)) o r (v + 1) u (bigV (IntKind.u64.wrap n) ++ xorL p st) ha bid _ hb2) ?_)
  · show [_, _, PV.slice ((bigV (IntKind.u64.wrap n)).length + (xorL p st).length) ((bigV (IntKind.u64.wrap n)).map byteC ++ (xorL p st).map byteC) none] = _
    unfold sl
    rw [List.length_append, List.map_append]
  rintro _ _ ⟨rfl, rfl⟩
  (conv => whnf)
  refine ⟨⟨by show ((8 + (xorL p st).length + 8) * 1 ≤ _); omega, by simp, allOne _⟩, ?_⟩
  (conv => whnf)
  refine ⟨?_, o', ho', rfl⟩
  show PV.tup [.slice ((bigV (IntKind.u64.wrap n)).length + (xorL p st).length + (tagV sp u (bigV (IntKind.u64.wrap n) ++ xorL p st)).length) (((bigV (IntKind.u64.wrap n)).map byteC ++ (xorL p st).map byteC) ++ (tagV sp u (bigV (IntKind.u64.wrap n) ++ xorL p st)).map byteC) (some 5), .int .i64 0] = _
  rw [← List.length_append, ← List.map_append, ow_app]
  rfl
theorem c47 (sid : Nat) (sp : List UInt8) (hsp : sp.length = 16) (s o r : Int) (v bid : Nat) (H : PH) (hb : H[bid]? = some (boxS sid sp s o r v)) :
    CallOk prog 47 [.ptr (some (bid, 0))] H fun x H' => x = .tup [.int .i64 s, .int .i64 o, .int .i64 r] ∧ H' = H := by
  obtain ⟨k0, k1, k2, k3, k4, k5, k6, k7, k8, k9, ka, kb, kc, kd, ke, kf, rfl⟩ := len16 hsp
  (refine callOk_of_pFun2 (tt := ttS) (imm := imm47) follows ttS_ok depth6 func47 (by kernel_rfl) ?_; (conv => whnf))
  refine drawK_pure2 (by kernel_rfl) ?_
  (conv => whnf)
  (apply Exists.intro; apply And.intro; (focus ((conv => whnf); first | exact ⟨rfl, rfl, trivial⟩ | (refine ⟨by omega, ?_⟩; (conv => whnf); exact ⟨rfl, rfl, trivial⟩))); (conv => whnf))
  (apply Exists.intro; apply And.intro; (focus ((conv => whnf); first | exact ⟨rfl, rfl, trivial⟩ | (refine ⟨by omega, ?_⟩; (conv => whnf); exact ⟨rfl, rfl, trivial⟩))); (conv => whnf))
  (apply Exists.intro; apply And.intro; (focus ((conv => whnf); first | exact ⟨rfl, rfl, trivial⟩ | (refine ⟨by omega, ?_⟩; (conv => whnf); exact ⟨rfl, rfl, trivial⟩))); (conv => whnf))
  refine ⟨_, callK_of (c110 (off := 17) (n := s) hb rfl) (by rintro _ _ ⟨rfl, rfl⟩; exact ⟨rfl, rfl, trivial⟩), ?_⟩
  (conv => whnf)
  (apply Exists.intro; apply And.intro; (focus ((conv => whnf); first | exact ⟨rfl, rfl, trivial⟩ | (refine ⟨by omega, ?_⟩; (conv => whnf); exact ⟨rfl, rfl, trivial⟩))); (conv => whnf))
  (apply Exists.intro; apply And.intro; (focus ((conv => whnf); first | exact ⟨rfl, rfl, trivial⟩ | (refine ⟨by omega, ?_⟩; (conv => whnf); exact ⟨rfl, rfl, trivial⟩))); (conv => whnf))
  (apply Exists.intro; apply And.intro; (focus ((conv => whnf); first | exact ⟨rfl, rfl, trivial⟩ | (refine ⟨by omega, ?_⟩; (conv => whnf); exact ⟨rfl, rfl, trivial⟩))); (conv => whnf))
  refine ⟨_, callK_of (c110 (off := 18) (n := o) hb rfl) (by rintro _ _ ⟨rfl, rfl⟩; exact ⟨rfl, rfl, trivial⟩), ?_⟩
  (conv => whnf)
  (apply Exists.intro; apply And.intro; (focus ((conv => whnf); first | exact ⟨rfl, rfl, trivial⟩ | (refine ⟨by omega, ?_⟩; (conv => whnf); exact ⟨rfl, rfl, trivial⟩))); (conv => whnf))
  (apply Exists.intro; apply And.intro; (focus ((conv => whnf); first | exact ⟨rfl, rfl, trivial⟩ | (refine ⟨by omega, ?_⟩; (conv => whnf); exact ⟨rfl, rfl, trivial⟩))); (conv => whnf))
  (apply Exists.intro; apply And.intro; (focus ((conv => whnf); first | exact ⟨rfl, rfl, trivial⟩ | (refine ⟨by omega, ?_⟩; (conv => whnf); exact ⟨rfl, rfl, trivial⟩))); (conv => whnf))
  refine ⟨_, callK_of (c110 (off := 19) (n := r) hb rfl) (by rintro _ _ ⟨rfl, rfl⟩; exact ⟨rfl, rfl, trivial⟩), ?_⟩
  (conv => whnf)
  (apply Exists.intro; apply And.intro; (focus ((conv => whnf); first | exact ⟨rfl, rfl, trivial⟩ | (refine ⟨by omega, ?_⟩; (conv => whnf); exact ⟨rfl, rfl, trivial⟩))); (conv => whnf))
  (apply Exists.intro; apply And.intro; (focus ((conv => whnf); first | exact ⟨rfl, rfl, trivial⟩ | (refine ⟨by omega, ?_⟩; (conv => whnf); exact ⟨rfl, rfl, trivial⟩))); (conv => whnf))
  (apply Exists.intro; apply And.intro; (focus ((conv => whnf); first | exact ⟨rfl, rfl, trivial⟩ | (refine ⟨by omega, ?_⟩; (conv => whnf); exact ⟨rfl, rfl, trivial⟩))); (conv => whnf))
  exact ⟨rfl, rfl⟩
theorem c45z (u : Int) (hu : isUseB u = true) (b : List UInt8) (hb16 : b.length < 16 ∨ 800 < b.length) (sid : Nat) (sp : List UInt8) (hsp : sp.length = 16) (s o r : Int) (v bid : Nat) (H : PH) (hb : H[bid]? = some (boxS sid sp s o r v)) :
    CallOk prog 45 [.ptr (some (bid, 0)), .int .i64 u, sl b] H fun x H' => x = .tup [ow [], .int .i64 3] ∧ H' = H.set bid (boxS sid sp s o (IntKind.i64.wrap (r + 1)) (v + 1)) := by
  (refine callOk_of_pFun2 (tt := ttS) (imm := imm45) follows ttS_ok depth6 func45 (by kernel_rfl) ?_; (conv => whnf))
  have hb' : (H.set bid (boxS sid sp s o (IntKind.i64.wrap (r + 1)) (v + 1)))[bid]? = some (boxS sid sp s o (IntKind.i64.wrap (r + 1)) (v + 1)) := get_set hb
  have hc93 : CallOk prog 93 [.ptr (some (bid, 0 + 19)), .int .i64 1] H fun x H' => H' = H.set bid (boxS sid sp s o (IntKind.i64.wrap (r + 1)) (v + 1)) := by
    obtain ⟨k0, k1, k2, k3, k4, k5, k6, k7, k8, k9, ka, kb, kc, kd, ke, kf, rfl⟩ := len16 hsp
    exact (c93 (off := 19) (n := r) 1 hb rfl).mono fun x H' hh => hh.2
  refine callK_pure (c92 u) ?_
  rw [hu]
  (conv => whnf)
  refine ⟨fun h => ?_, fun h => ?_⟩
  · (conv => whnf)
    have h : (16 : Int) ≤ b.length := h
    refine ⟨fun h2 => ?_, fun h2 => ?_⟩
    · have h2 : (b.length : Int) ≤ 800 := h2
      omega
    · (conv => whnf)
      refine callK_of hc93 ?_
      rintro x _ rfl
      (conv => whnf)
      exact ⟨rfl, rfl⟩
  · (conv => whnf)
    refine callK_of hc93 ?_
    rintro x _ rfl
    (conv => whnf)
    exact ⟨rfl, rfl⟩
end Go.Proofs.Tryz

set_option maxRecDepth 100000
set_option maxHeartbeats 1000000
set_option linter.unusedVariables false
set_option linter.unusedSimpArgs false
namespace Go.Proofs.Tryz
open Go Ps
def isK (r n : List UInt8) (k : Int) (e : Ent) : Bool := isP r n e && decide ((e.kv : Int) = k)
theorem c91 (e : Ent) (hk : e.key.length = 32) (r n : List UInt8) (k : Int) (H : PH) : CallOk prog 91 [.agg e.cells, .elem [.str r, .str n], .elem [.int .i64 k]] H fun x H' => x = .bool (isK r n k e) ∧ H' = H := by
  obtain ⟨er, en, kv, key, box⟩ := e
  match key, hk with
  | [a0, a1, a2, a3, a4, a5, a6, a7, a8, a9, a10, a11, a12, a13, a14, a15, b0, b1, b2, b3, b4, b5, b6, b7, b8, b9, b10, b11, b12, b13, b14, b15], _ =>
    (refine callOk_of_pFun2 (tt := ttR) (imm := imm91) follows ttR_ok depth6 func91 (by kernel_rfl) ?_; (conv => whnf))
    refine ⟨⟨fitPr _ _, fitPr _ _⟩, ?_⟩
    (conv => whnf)
    refine ⟨fun h => ?_, fun h => ?_⟩
    · have h : [PV.str er, PV.str en] = [PV.str r, PV.str n] := h
      have hp : er = r ∧ en = n := by
        injection h with h1 h2
        injection h1 with h1
        injection h2 with h2 _
        injection h2 with h2
        exact ⟨h1, h2⟩
      (conv => whnf)
      refine ⟨fun h3 => ?_, fun h3 => ?_⟩
      · (conv => whnf)
        have h3 : (kv : Int) = k := h3
        refine ⟨congrArg PV.bool ?_, rfl⟩
        unfold isK isP
        rw [decide_eq_true hp, decide_eq_true h3]; rfl
      · (conv => whnf)
        have h3 : ¬ (kv : Int) = k := h3
        refine ⟨congrArg PV.bool ?_, rfl⟩
        unfold isK isP
        rw [decide_eq_true hp, decide_eq_false h3]; rfl
    · have h : ¬ [PV.str er, PV.str en] = [PV.str r, PV.str n] := h
      (conv => whnf)
      refine ⟨congrArg PV.bool ?_, rfl⟩
      unfold isK isP
      rw [decide_eq_false fun hh => h (by have h1 : er = r := hh.1; have h2 : en = n := hh.2; rw [h1, h2])]; rfl
def boxR : Option Ent → PV
  | none => .tup [.ptr none, .int .i64 4]
  | some e => .tup [.ptr (some (e.box, 0)), .int .i64 0]
theorem c32 {H : PH} {rid v : Nat} {l : List Ent} (hid : H[rid]? = some (ringO l v)) (hl : l.length ≤ 1000) (hk : ∀ e ∈ l, e.key.length = 32) (r n : List UInt8) (k : Int) :
    CallOk prog 32 [.ptr (some (rid, 0)), .agg [.str r, .str n], .int .i64 k] H fun x H' => x = boxR (lastE (isK r n k) l) ∧ H' = H := by
  (refine callOk_of_pFun2 (tt := ttR) (imm := imm32) follows ttR_ok depth6 func32 (by kernel_rfl) ?_; (conv => whnf))
  refine callK_of (c90 hid hl hk (isK r n k) 91 [] [.elem [.str r, .str n], .elem [.int .i64 k]] fun e he => c91 e (hk e he) r n k H) ?_
  rintro x H' ⟨rfl, rfl⟩
  cases he : lastE (isK r n k) l with
  | none =>
    (conv => whnf)
    exact ⟨rfl, rfl⟩
  | some e =>
    have hkey : e.key.length = 32 := hk e (List.mem_reverse.1 (List.mem_of_find?_eq_some he))
    obtain ⟨er, en, kv, key, box⟩ := e
    match key, hkey with
    | [a0, a1, a2, a3, a4, a5, a6, a7, a8, a9, a10, a11, a12, a13, a14, a15, b0, b1, b2, b3, b4, b5, b6, b7, b8, b9, b10, b11, b12, b13, b14, b15], _ =>
      (conv => whnf)
      exact ⟨rfl, rfl⟩
end Go.Proofs.Tryz

set_option maxRecDepth 100000
set_option maxHeartbeats 2000000
set_option linter.unusedVariables false
set_option linter.unusedSimpArgs false
namespace Go.Proofs.Tryz
open Go Ps
def ttSh : TT := [(3, ⟨.int .i64, 1, 8, [.int .i64 0]⟩), (5, ⟨.int .u8, 1, 1, [.int .u8 0]⟩), (9, ⟨.str, 1, 16, [.str []]⟩), (22, ⟨.slice 5, 1, 24, [.slice 0 [] (some 5)]⟩), (24, ⟨.strct [(9, 0), (9, 1)], 2, 32, [.str [], .str []]⟩), (35, ⟨.int .i64, 1, 8, [.int .i64 0]⟩), (49, ⟨.arr 32 5, 32, 32, List.replicate 32 (.int .u8 0)⟩), (79, ⟨.ptr, 1, 8, [.ptr none]⟩), (91, ⟨.ptr, 1, 8, [.ptr none]⟩)]
theorem ttSh_ok : ttOk prog ttSh = true := by kernel_rfl
def imm8 : List Nat := []
def spO : PObj := speckO (List.replicate 0 0 ++ (keyOf1 1).take 16)
def sp1 : List UInt8 := (keyOf1 1).drop 16
def ent1 : Ent := ⟨[65], [120], 1, keyOf1 1, 3⟩
/-- The heap while the law plays. -/
def shH (s r : Int) (v : Nat) : PH := [ringO [ent1] 2, ⟨24, [.str [65], .str [120]], 1⟩, spO, boxS 2 sp1 s 0 r v]
structure ShS where
  i : Nat
  v : Nat
theorem shBox (s r : Int) (v : Nat) : CallOk prog 32 [.ptr (some (0, 0)), .agg [.str [65], .str [120]], .int .i64 1] (shH s r v) fun x H' => x = .tup [.ptr (some (3, 0)), .int .i64 0] ∧ H' = shH s r v :=
  (c32 (H := shH s r v) (rid := 0) (v := 2) (l := [ent1]) rfl (by simp) (fun e he => by
    have : e = ent1 := by simpa using he
    subst this; rfl) [65] [120] 1).mono fun x H' hh => by
    have e : lastE (isK [65] [120] 1) [ent1] = some ent1 := rfl
    rw [e] at hh
    exact hh
theorem shLast (s r : Int) (v : Nat) : CallOk prog 36 [.ptr (some (0, 0)), .agg [.str [65], .str [120]]] (shH s r v) fun x H' => x = .tup [.ptr (some (3, 0)), .int .i64 1, .int .i64 0] ∧ H' = shH s r v :=
  (c36 (H := shH s r v) (rid := 0) (v := 2) (l := [ent1]) rfl (by simp) (fun e he => by
    have : e = ent1 := by simpa using he
    subst this; rfl) [65] [120]).mono fun x H' hh => by
    have e : lastE (isP [65] [120]) [ent1] = some ent1 := rfl
    rw [e] at hh
    exact hh
theorem shSeal (i : Nat) (hi : i ≤ 40) (v : Nat) : CallOk prog 34 [.ptr (some (3, 0)), .int .i64 1, .int .i64 i, sl []] (shH i 0 v) fun x H' => (∃ b, x = .tup [ow b, .int .i64 0]) ∧ H' = shH (i + 1 : Nat) 0 (v + 1) :=
  (c34 (fun o => o = spO) (fun o h => by subst h; rfl) spO 2 i 1 rfl (by omega) (by omega) [] [] rfl (by simp) (fun H hs => (c141z 2 _ _ (by show (0 : Int) < 1; decide) H).mono fun r H' hh => ⟨hh.1, spO, rfl, by rw [hh.2]; exact (set_self hs).symm⟩)
    sp1 rfl i 0 0 v 3 (shH i 0 v) rfl rfl (by decide)).mono fun x H' hh => by
    obtain ⟨h1, o', rfl, h2⟩ := hh
    refine ⟨⟨_, h1⟩, ?_⟩
    rw [h2, wrap64 (by omega) (by omega)]
    rfl
theorem shOpen (n : Int) (j : Nat) (hj : j ≤ 40) (v : Nat) : CallOk prog 45 [.ptr (some (3, 0)), .int .i64 1, sl []] (shH n j v) fun x H' => x = .tup [ow [], .int .i64 3] ∧ H' = shH n (j + 1 : Nat) (v + 1) :=
  (c45z 1 rfl [] (.inl (by simp)) 2 sp1 rfl n 0 j v 3 (shH n j v) rfl).mono fun x H' hh => by
    refine ⟨hh.1, ?_⟩
    rw [hh.2, wrap64 (by omega) (by omega)]
    rfl
theorem shCounts (s r : Int) (v : Nat) : CallOk prog 47 [.ptr (some (3, 0))] (shH s r v) fun x H' => x = .tup [.int .i64 s, .int .i64 0, .int .i64 r] ∧ H' = shH s r v :=
  c47 2 sp1 rfl s 0 r v 3 (shH s r v) rfl
theorem c8 (n m : Int) : CallOk prog 8 [.int .i64 n, .int .i64 m] [] fun r _ => r = .bool true := by
  (refine callOk_of_pFun2 (tt := ttSh) (imm := imm8) follows ttSh_ok depth6 func8 (by kernel_rfl) ?_; (conv => whnf))
  refine ⟨fun h => by (conv => whnf); rfl, fun h1 => ?_⟩
  (conv => whnf)
  refine ⟨fun h => by (conv => whnf); rfl, fun h2 => ?_⟩
  (conv => whnf)
  refine ⟨fun h => by (conv => whnf); rfl, fun h3 => ?_⟩
  (conv => whnf)
  refine ⟨fun h => by (conv => whnf); rfl, fun h4 => ?_⟩
  have h1 : ¬ n < 0 := h1
  have h2 : ¬ (40 : Int) < n := h2
  have h3 : ¬ m < 0 := h3
  have h4 : ¬ (40 : Int) < m := h4
  obtain ⟨a, rfl⟩ : ∃ a : Nat, n = a := ⟨n.toNat, by omega⟩
  obtain ⟨b, rfl⟩ : ∃ b : Nat, m = b := ⟨m.toNat, by omega⟩
  (conv => whnf)
  refine callK_of (c29 []) ?_
  rintro _ _ ⟨rfl, rfl⟩
  (conv => whnf)
  refine callK_of (Q := fun x H' => x = .tup [.int .i64 1, .int .i64 0] ∧ H' = shH 0 0 0) ((c30 (H := [ringO [] 0, ⟨24, [.str [65], .str [120]], 1⟩]) (rid := 0) (v := 0) (l := []) rfl (by simp) (fun e he => by cases he) [65] [120] (keyOf1 1) rfl (by simp) (by simp)).mono fun x H' hh => ?_) ?_
  · refine ⟨?_, ?_⟩
    · rw [hh.1]; rfl
    · rw [hh.2]; rfl
  rintro _ _ ⟨rfl, rfl⟩
  (conv => whnf)
  refine loopK_of ShS (fun x => [(0, .int .i64 a), (1, .int .i64 b), (5, .ptr (some (0, 0))), (6, .ptr (some (1, 0))), (7, .int .i64 x.i)]) (fun x => shH x.i 0 x.v) (fun x => x.i ≤ a) (fun x => a - x.i) ⟨⟨0, 0⟩, Nat.zero_le _, ⟨rfl, rfl, rfl, rfl, rfl, trivial⟩, rfl⟩ ?_
  rintro ⟨i, v⟩ hi
  replace hi : i ≤ a := hi
  (conv => whnf)
  refine ⟨fun h => ?_, fun h => ?_⟩
  · have h : (i : Int) < a := h
    (conv => whnf)
    refine callK_of (shBox i 0 v) ?_
    rintro _ _ ⟨rfl, rfl⟩
    (conv => whnf)
    refine ⟨fun _ => ?_, fun h => absurd rfl h⟩
    (conv => whnf)
    refine callK_of ((shSeal i (by omega) v).nils (.same _ (.same _ (.same _ (.turn .nil))))) ?_
    rintro _ _ ⟨⟨x, rfl⟩, rfl⟩
    (conv => whnf)
    refine ⟨⟨i + 1, v + 1⟩, by show i + 1 ≤ a; omega, ⟨rfl, rfl, rfl, rfl, ?_, trivial⟩, rfl, by show a - (i + 1) < a - i; omega⟩
    show PV.int _ (IntKind.i64.wrap ((i : Int) + 1)) = PV.int _ _
    rw [wrap64 (by omega) (by omega)]; simp
  have h : ¬ (i : Int) < a := h
  have e : i = a := by omega
  subst e
  (conv => whnf)
  refine loopK_of ShS (fun x => [(0, .int .i64 i), (1, .int .i64 b), (5, .ptr (some (0, 0))), (6, .ptr (some (1, 0))), (10, .int .i64 x.i)]) (fun x => shH i x.i x.v) (fun x => x.i ≤ b) (fun x => b - x.i) ⟨⟨0, v⟩, Nat.zero_le _, ⟨rfl, rfl, rfl, rfl, rfl, trivial⟩, rfl⟩ ?_
  rintro ⟨j, w⟩ hj
  replace hj : j ≤ b := hj
  (conv => whnf)
  refine ⟨fun h => ?_, fun h => ?_⟩
  · have h : (j : Int) < b := h
    (conv => whnf)
    refine callK_of (shLast i j w) ?_
    rintro _ _ ⟨rfl, rfl⟩
    (conv => whnf)
    refine ⟨fun _ => ?_, fun h => absurd rfl h⟩
    (conv => whnf)
    refine ⟨fun _ => ?_, fun h => absurd rfl h⟩
    (conv => whnf)
    refine callK_of ((shOpen i j (by omega) w).nils (.same _ (.same _ (.turn .nil)))) ?_
    rintro _ _ ⟨rfl, rfl⟩
    (conv => whnf)
    refine ⟨⟨j + 1, w + 1⟩, by show j + 1 ≤ b; omega, ⟨rfl, rfl, rfl, rfl, ?_, trivial⟩, rfl, by show b - (j + 1) < b - j; omega⟩
    show PV.int _ (IntKind.i64.wrap ((j : Int) + 1)) = PV.int _ _
    rw [wrap64 (by omega) (by omega)]; simp
  have h : ¬ (j : Int) < b := h
  have e : j = b := by omega
  subst e
  (conv => whnf)
  refine callK_of (shBox i j w) ?_
  rintro _ _ ⟨rfl, rfl⟩
  (conv => whnf)
  refine ⟨fun _ => ?_, fun h => absurd rfl h⟩
  (conv => whnf)
  refine callK_of (shCounts i j w) ?_
  rintro _ _ ⟨rfl, rfl⟩
  (conv => whnf)
  refine ⟨fun _ => ?_, fun h => absurd rfl h⟩
  (conv => whnf)
  refine ⟨fun _ => ?_, fun h => absurd rfl h⟩
  (conv => whnf)
  refine ⟨fun _ => ?_, fun h => absurd rfl h⟩
  (conv => whnf)
  refine callK_of (c40 _) ?_
  rintro _ _ rfl
  (conv => whnf)
  rfl
end Go.Proofs.Tryz
