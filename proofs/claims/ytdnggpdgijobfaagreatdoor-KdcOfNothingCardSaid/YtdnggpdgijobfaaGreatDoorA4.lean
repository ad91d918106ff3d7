import Derived.Test.YtdnggpdgijobfaaGreatDoorA3
import Derived.Test.YtdnggpdgijobfaaGreatDoorA2
import Derived.Tactics
import Derived.Tactics2
import Derived.Defers
import Derived.Laws.Pointers
import Derived.Laws.LoneSync
import Derived.RegionTactic
import Derived.RegionCalls
set_option linter.all false
set_option maxRecDepth 100000
set_option maxHeartbeats 1000000
namespace Go.Proofs.Tryz
open Go Ps
def ow (b : List UInt8) : PV := .slice b.length (b.map byteC) (some 5)
theorem psize5 : psize prog 5 = 1 := by kernel_rfl
theorem allFlat (b : List UInt8) : (b.map byteC).all flatP = true := List.all_eq_true.2 fun x hx => by
 obtain ⟨b, _, rfl⟩ := List.mem_map.1 hx
 rfl
theorem clone140 (b : List UInt8) (hb : b.length ≤ 140737488355328) : Pure prog 224 [sl b] (ow b) := by
 intro H
 (refine fnS (imm := imm224y) ttS_ok func224 ?_; (conv => whnf))
 have happ : (0 + b.length) * 1 ≤ 140737488355328 ∧ (b.map byteC).length = b.length * 1 ∧ (b.map byteC).all oneP = true := ⟨by omega, by simp, allOne b⟩
 refine ⟨fun h => ?_, fun h => ⟨?_, ?_⟩⟩
 ·conv => whnf
  refine ⟨happ, ?_⟩
  conv => whnf
  exact ⟨by rw [Nat.zero_add]; rfl, rfl⟩
 ·conv => whnf
  have e : b = [] := List.length_eq_zero_iff.1 h
  subst e
  exact ⟨rfl, rfl⟩
 ·conv => whnf
  refine ⟨happ, ?_⟩
  conv => whnf
  exact ⟨by rw [Nat.zero_add]; rfl, rfl⟩
theorem c224o (b : List UInt8) (hb : b.length ≤ 140737488355328) (h0 : 0 < b.length) (H : PH) :
  CallOk prog 224 [sl b] H fun r H' => ∃ cap k, r = .sref H.length 0 b.length cap ∧ b.length + k = cap ∧ H' = H ++ [⟨5, b.map byteC ++ List.replicate k PV.undef, 0⟩] := by
 refine (CallOk.obj (n := b.length) (cs := b.map byteC) (clone140 b hb H) h0 psize5 (allFlat b)).mono fun r H' hh => ?_
 obtain ⟨cap, k, h1, h2, h3, h4⟩ := hh
 rw [List.length_map] at h2
 exact ⟨cap, k, h3, by omega, h4⟩
def boxS (sid : Nat) (sp : List UInt8) (s o r : Int) (v : Nat) : PObj := ⟨241, [.ptr (some (sid, 0))] ++ sp.map byteC ++ [.int .i64 s, .int .i64 o, .int .i64 r], v⟩
def tagV (sp : List UInt8) (u : Int) (ahead : List UInt8) : List UInt8 := bigV (sipV sp (byteI u :: ahead))
theorem bigV_len (n : Int) : (bigV n).length = 8 := rfl
theorem c174 (sid : Nat) (sp : List UInt8) (hsp : sp.length = 16) (s o r : Int) (v : Nat) (u : Int) (ahead : List UInt8) (ha : ahead.length ≤ 1000000) (bid : Nat) (H : PH) (hb : H[bid]? = some (boxS sid sp s o r v)) :
  CallOk prog 174 [.ptr (some (bid, 0)), .int .i64 u, sl ahead] H fun x H' => x = sl (tagV sp u ahead) ∧ H' = H := by
 obtain ⟨k0, k1, k2, k3, k4, k5, k6, k7, k8, k9, ka, kb, kc, kd, ke, kf, rfl⟩ := len16 hsp
 (refine fnS (imm := imm174) ttS_ok func174 ?_; (conv => whnf))
 ((conv in (_[_]?) => tactic => exact hb); (conv => whnf))
 have hfl : [[byteI u], ahead].flatten = byteI u :: ahead := by simp
 have hc := c226 [k0, k1, k2, k3, k4, k5, k6, k7, k8, k9, ka, kb, kc, kd, ke, kf] (by simp) [[byteI u], ahead] (by simp) (by rw [hfl]; simp; omega) (Reps.sl H [[byteI u], ahead])
 rw [hfl] at hc
 refine callK_args (args' := [.agg ([k0, k1, k2, k3, k4, k5, k6, k7, k8, k9, ka, kb, kc, kd, ke, kf].map byteC), .slice 2 ([[byteI u], ahead].map sl) none]) ?_ (callK_of hc ?_)
 ·have := byteC_I u
  show [PV.agg _, PV.slice 2 [.slice 1 [.int .u8 (IntKind.u8.wrap u)] none, sl ahead] none] = [PV.agg _, PV.slice 2 [.slice 1 [byteC (byteI u)] none, sl ahead] none]
  rw [this]
  rfl
 rintro _ _ ⟨rfl, rfl⟩
 conv => whnf
 refine callK_pure (c172 _) ?_
 conv => whnf
 exact ⟨rfl, rfl⟩
def xorL (p st : List UInt8) : List UInt8 := List.zipWith (· ^^^ ·) p st
theorem xorL_len (p st : List UInt8) (h : st.length = p.length) : (xorL p st).length = p.length := by
 unfold xorL; rw [List.length_zipWith]; omega
theorem xor8 (c d : UInt8) : PV.int .u8 (ibits .xor .u8 (c.toNat : Int) (d.toNat : Int)) = byteC (c ^^^ d) := by
 show PV.int .u8 (IntKind.u8.wrap ((BitVec.ofInt 8 (c.toNat : Int) ^^^ BitVec.ofInt 8 (d.toNat : Int)).toNat : Int)) = PV.int .u8 (((c ^^^ d).toNat : Nat) : Int)
 have hb : ∀ {x : UInt8}, BitVec.ofInt 8 (x.toNat : Int) = x.toBitVec := fun {x} => by
  apply BitVec.eq_of_toNat_eq
  rw [BitVec.toNat_ofInt]
  have := x.toNat_lt
  show _ = x.toNat
  omega
 rw [hb, hb]
 have : ((c.toBitVec ^^^ d.toBitVec).toNat) = (c ^^^ d).toNat := rfl
 rw [this]
 congr 1
 have := (c ^^^ d).toNat_lt
 show (((c ^^^ d).toNat : Nat) : Int) % (2 ^ IntKind.u8.bits : Int) = _
 have e : (2 ^ IntKind.u8.bits : Int) = 256 := by decide
 rw [e]; omega
def curX (p st : List UInt8) (i : Nat) : List UInt8 := (xorL p st).take i ++ p.drop i
theorem curX_len (p st : List UInt8) (i : Nat) (h : st.length = p.length) (hi : i ≤ p.length) : (curX p st i).length = p.length := by
 unfold curX
 rw [List.length_append, List.length_take, List.length_drop, xorL_len p st h]; omega
theorem curX_get (p st : List UInt8) (i : Nat) (h : st.length = p.length) (hi : i < p.length) : (curX p st i)[i]? = some p[i] := by
 unfold curX
 rw [List.getElem?_append_right (by rw [List.length_take, xorL_len p st h]; omega), List.length_take, xorL_len p st h, List.getElem?_drop]
 have : i + (i - min i p.length) = i := by omega
 rw [this]; exact List.getElem?_eq_getElem hi
theorem curX_set (p st : List UInt8) (i : Nat) (h : st.length = p.length) (hi : i < p.length) : (curX p st i).set i (p[i] ^^^ st[i]) = curX p st (i + 1) := by
 unfold curX
 have hx : i < (xorL p st).length := by rw [xorL_len p st h]; exact hi
 rw [List.set_append_right _ _ (by rw [List.length_take]; omega), List.length_take, Nat.min_eq_left (by omega), Nat.sub_self, List.drop_eq_getElem_cons hi, List.set_cons_zero, List.take_succ_eq_append_getElem hx, List.append_assoc, List.singleton_append]
 congr 2
 have : ∀ (a b : List UInt8) (h : i < (List.zipWith (· ^^^ ·) a b).length) (ha : i < a.length) (hb : i < b.length), a[i] ^^^ b[i] = (List.zipWith (· ^^^ ·) a b)[i] := fun a b h ha hb => by simp
 exact this p st hx hi (by omega)
def mixN (nn u : Int) : Int := IntKind.u64.wrap (ishl .u64 nn 8 + IntKind.u64.wrap u)
structure MixS where
 i : Nat
theorem c173x (OkS : PObj → Prop) (so : PObj) (sid : Nat) (nn u : Int) (p st : List UInt8) (hl : st.length = p.length) (hp : 0 < p.length) (hp2 : p.length ≤ 1000000)
  (hst : ∀ H : PH, H[sid]? = some so → CallOk prog 225 [.ptr (some (sid, 0)), .int .u64 (mixN nn u), .int .i64 p.length] H fun r H' => r = sl st ∧ ∃ o', OkS o' ∧ H' = H.set sid o')
  (sp : List UInt8) (hsp : sp.length = 16) (s o r : Int) (v : Nat) (bid : Nat) (H : PH) (hb : H[bid]? = some (boxS sid sp s o r v)) (hs : H[sid]? = some so) :
  CallOk prog 173 [.ptr (some (bid, 0)), .int .i64 u, .int .u64 nn, sl p] H fun x H' => ∃ cap k o' vv, x = .sref H.length 0 p.length cap ∧ p.length + k = cap ∧ OkS o' ∧ H' = H.set sid o' ++ [⟨5, (xorL p st).map byteC ++ List.replicate k PV.undef, vv⟩] := by
 obtain ⟨k0, k1, k2, k3, k4, k5, k6, k7, k8, k9, ka, kb, kc, kd, ke, kf, rfl⟩ := len16 hsp
 have hsl : sid < H.length := (List.getElem?_eq_some_iff.1 hs).1
 (refine fnS (imm := imm173) ttS_ok func173 ?_; (conv => whnf))
 refine callK_of (c224o p (by omega) hp H) ?_
 rintro _ _ ⟨cap, k, rfl, hk, rfl⟩
 conv => whnf
 have hb' : (H ++ [(⟨5, p.map byteC ++ List.replicate k PV.undef, 0⟩ : PObj)])[bid]? = some (boxS sid [k0, k1, k2, k3, k4, k5, k6, k7, k8, k9, ka, kb, kc, kd, ke, kf] s o r v) := by
  rw [List.getElem?_append_left (List.getElem?_eq_some_iff.1 hb).1]; exact hb
 ((conv in (_[_]?) => tactic => exact hb'); (conv => whnf))
 refine ⟨by decide, ?_⟩
 conv => whnf
 refine callK_of (Q := fun r H' => r = sl st ∧ ∃ o', OkS o' ∧ H' = H.set sid o' ++ [⟨5, (curX p st 0).map byteC ++ List.replicate k PV.undef, 0⟩]) ((hst (H ++ [_]) (by rw [List.getElem?_append_left hsl]; exact hs)).mono fun r H' hh => ?_) ?_
 ·obtain ⟨h1, o', h2, h3⟩ := hh
  exact ⟨h1, o', h2, by rw [h3, List.set_append_left _ _ hsl]; rfl⟩
 rintro _ _ ⟨rfl, o', ho', rfl⟩
 conv => whnf
 have hKl : (H.set sid o').length = H.length := List.length_set
 generalize hK : H.set sid o' = K at hKl
 refine loopK_of MixS (fun x => [(9, .sref H.length 0 p.length cap), (25, sl st), (26, .int .i64 st.length), (27, .int .i64 x.i)]) (fun x => K ++ [⟨5, (curX p st x.i).map byteC ++ List.replicate k PV.undef, x.i⟩]) (fun x => x.i ≤ p.length) (fun x => p.length - x.i) ⟨⟨0⟩, Nat.zero_le _, ⟨rfl, rfl, rfl, rfl, trivial⟩, rfl⟩ ?_
 rintro ⟨i⟩ hi
 replace hi : i ≤ p.length := hi
 have gx : ∀ x : PObj, (K ++ [x])[H.length]? = some x := fun x => by rw [← hKl]; exact get_last K x
 conv => whnf
 refine ⟨fun h => ?_, fun h => ?_⟩
 ·have h : (i : Int) < st.length := h
  have hi' : i < p.length := by omega
  have his : i < st.length := by omega
  have hcl := curX_len p st i hl hi
  conv => whnf
  refine ⟨⟨by omega, h⟩, [byteC st[i]], at1' (k := (i : Int).toNat * 1) (by rw [Int.toNat_natCast, Nat.mul_one, List.getElem?_map, List.getElem?_eq_getElem his]; rfl), ?_⟩
  conv => whnf
  refine ⟨⟨by omega, by show (i : Int) < (p.length : Int); omega⟩, ?_⟩
  conv => whnf
  ((conv in (_[_]?) => tactic => exact (gx _)); (conv => whnf))
  ((conv in (dropN _ _) => tactic => exact (dropN_app (curX p st i) (List.replicate k PV.undef) (curX_get p st i hl hi'))); (conv => whnf))
  refine ⟨⟨by omega, by show (i : Int) < (p.length : Int); omega⟩, ?_⟩
  conv => whnf
  ((conv in (_[_]?) => tactic => exact (gx _)); (conv => whnf))
  ((conv in (Nat.ble _ _) => tactic => exact (show Nat.ble (0 + (i : Int).toNat * 1 + 1) ((curX p st i).map byteC ++ List.replicate k PV.undef).length = true by rw [Nat.ble_eq]; simp [hcl]; omega)); (conv => whnf))
  refine ⟨⟨i + 1⟩, by show i + 1 ≤ p.length; omega, ⟨rfl, rfl, rfl, ?_, trivial⟩, ?_, by show p.length - (i + 1) < p.length - i; omega⟩
  ·show PV.int _ (IntKind.i64.wrap ((i : Int) + 1)) = PV.int _ _
   rw [wrap64 (by omega) (by omega)]; simp
  ·show (K ++ [_]).set H.length ⟨5, setCells (0 + (i : Int).toNat * 1) [.int .u8 (ibits .xor .u8 (p[i].toNat : Int) (st[i].toNat : Int))] ((curX p st i).map byteC ++ List.replicate k PV.undef), i + 1⟩ = K ++ [⟨5, (curX p st (i + 1)).map byteC ++ List.replicate k PV.undef, i + 1⟩]
   rw [← hKl, set_last, xor8]
   have e : 0 + (i : Int).toNat * 1 = i := by omega
   rw [e, setCells_app _ _ _ _ (by omega), curX_set p st i hl hi']
 ·have h : ¬ (i : Int) < st.length := h
  have e : curX p st i = xorL p st := by
   unfold curX
   rw [List.take_of_length_le (by rw [xorL_len p st hl]; omega), List.drop_eq_nil_of_le (by omega), List.append_nil]
  rw [e]
  conv => whnf
  exact ⟨cap, k, o', i, rfl, hk, ho', by rw [hK]⟩
theorem get_end {K : PH} {n : Nat} (h : K.length = n) (x : PObj) : (K ++ [x])[n]? = some x := by subst h; exact get_last K x
theorem kept_set {H : PH} {sid : Nat} {o' : PObj} (hs : sid < H.length) (hf : ∀ c ∈ o'.cs, flatP c = true ∨ c ∈ H[sid].cs) : Kept H (H.set sid o') := ⟨List.length_set, fun id o h => by
 by_cases e : id = sid
 ·subst e
  rw [List.getElem?_set_self hs] at h
  cases h
  exact ⟨H[id], List.getElem?_eq_getElem hs, hf⟩
 ·rw [List.getElem?_set_ne (Ne.symm e)] at h
  exact ⟨o, h, fun c hc => .inr hc⟩⟩
theorem c173 (OkS : PObj → Prop) (hOk : ∀ o', OkS o' → o'.cs.all flatP = true) (so : PObj) (sid : Nat) (nn u : Int) (p st : List UInt8) (hl : st.length = p.length) (hp2 : p.length ≤ 1000000)
  (hst : ∀ H : PH, H[sid]? = some so → CallOk prog 225 [.ptr (some (sid, 0)), .int .u64 (mixN nn u), .int .i64 p.length] H fun r H' => r = sl st ∧ ∃ o', OkS o' ∧ H' = H.set sid o')
  (sp : List UInt8) (hsp : sp.length = 16) (s o r : Int) (v : Nat) (bid : Nat) (H : PH) (hb : H[bid]? = some (boxS sid sp s o r v)) (hs : H[sid]? = some so) :
  CallOk prog 173 [.ptr (some (bid, 0)), .int .i64 u, .int .u64 nn, sl p] H fun x H' => x = sl (xorL p st) ∧ ∃ o', OkS o' ∧ H' = H.set sid o' := by
 have hsl : sid < H.length := (List.getElem?_eq_some_iff.1 hs).1
 rcases Nat.eq_zero_or_pos p.length with hp | hp
 ·have hp' : p = [] := List.length_eq_zero_iff.1 hp
  have hst' : st = [] := List.length_eq_zero_iff.1 (by omega)
  subst hp' hst'
  obtain ⟨k0, k1, k2, k3, k4, k5, k6, k7, k8, k9, ka, kb, kc, kd, ke, kf, rfl⟩ := len16 hsp
  (refine fnS (imm := imm173) ttS_ok func173 ?_; (conv => whnf))
  refine callK_pure (clone140 [] (by simp)) ?_
  conv => whnf
  ((conv in (_[_]?) => tactic => exact hb); (conv => whnf))
  refine ⟨by decide, ?_⟩
  conv => whnf
  refine callK_of (hst H hs) ?_
  rintro _ _ ⟨rfl, o', ho', rfl⟩
  conv => whnf
  refine loopK_of MixS (fun x => [(9, ow []), (25, sl []), (26, .int .i64 0), (27, .int .i64 0)]) (fun x => H.set sid o') (fun x => True) (fun x => 0) ⟨⟨0⟩, trivial, ⟨rfl, rfl, rfl, rfl, trivial⟩, rfl⟩ ?_
  rintro ⟨i⟩ _
  conv => whnf
  refine ⟨fun h => absurd h (by decide), fun _ => ?_⟩
  conv => whnf
  exact ⟨rfl, o', ho', rfl⟩
 ·have h := c173x OkS so sid nn u p st hl hp hp2 hst sp hsp s o r v bid H hb hs
  refine (CallOk.own (nn := p.length) (cs := (xorL p st).map byteC) (R := fun H' => ∃ o', OkS o' ∧ H' = H.set sid o') h psize5 (by decide) (by rw [List.length_map, xorL_len p st hl, Nat.mul_one]) (allFlat _) (fun x H' hh => ?_)).dem fun x H' hh => ?_
  ·obtain ⟨cap, k, o', vv, rfl, hk, ho', rfl⟩ := hh
   refine ⟨H.set sid o', _, H.length, cap, _, rfl, kept_set hsl fun c hc => .inl (List.all_eq_true.1 (hOk o' ho') c hc), ⟨o', ho', rfl⟩, rfl, Nat.le_refl _, get_end List.length_set _, rfl, ?_, ?_⟩
   ·show ((xorL p st).map byteC ++ List.replicate k PV.undef).length = _
    rw [List.length_append, List.length_map, List.length_replicate, xorL_len p st hl]; omega
   ·show List.take _ ((xorL p st).map byteC ++ List.replicate k PV.undef) = _
    rw [List.take_left]
  ·obtain ⟨rfl, hh⟩ := hh
   refine ⟨fun cs hx => (by cases hx), ?_, hh⟩
   unfold sl
   rw [xorL_len p st hl]; rfl
theorem Kept.refl (H : PH) : Kept H H := ⟨rfl, fun id o h => ⟨o, h, fun c hc => .inr hc⟩⟩
theorem c172w (n : Int) : Pure prog 172 [.int .u64 n] (ow (bigV n)) := fun H => by
 refine CallOk.own (nn := 8) (cs := (bigV n).map byteC) (R := fun H' => H' = H) (c172x n H) psize5 (by decide) rfl (allFlat _) fun r H' hh => ?_
 obtain ⟨rfl, v, rfl⟩ := hh
 exact ⟨H, _, H.length, 8, _, rfl, Kept.refl H, rfl, rfl, Nat.le_refl _, get_last H _, rfl, rfl, rfl⟩
def sealV (sp : List UInt8) (u nn : Int) (p st : List UInt8) : List UInt8 := (bigV nn ++ xorL p st) ++ tagV sp u (bigV nn ++ xorL p st)
theorem ow_app (a b : List UInt8) : PV.slice (a.length + b.length) (a.map byteC ++ b.map byteC) (some 5) = ow (a ++ b) := by
 unfold ow
 rw [List.length_append, List.map_append]
theorem c108 (OkS : PObj → Prop) (hOk : ∀ o', OkS o' → o'.cs.all flatP = true) (so : PObj) (sid : Nat) (n u : Int) (hu : isUseB u = true) (hn0 : 0 ≤ n) (hn1 : n ≤ 1099511627776) (p st : List UInt8) (hl : st.length = p.length) (hp2 : p.length ≤ 784)
  (hst : ∀ H : PH, H[sid]? = some so → CallOk prog 225 [.ptr (some (sid, 0)), .int .u64 (mixN (IntKind.u64.wrap n) u), .int .i64 p.length] H fun r H' => r = sl st ∧ ∃ o', OkS o' ∧ H' = H.set sid o')
  (sp : List UInt8) (hsp : sp.length = 16) (s o r : Int) (v : Nat) (bid : Nat) (H : PH) (hb : H[bid]? = some (boxS sid sp s o r v)) (hs : H[sid]? = some so) (hne : bid ≠ sid) :
  CallOk prog 108 [.ptr (some (bid, 0)), .int .i64 u, .int .i64 n, sl p] H fun x H' => x = .tup [ow (sealV sp u (IntKind.u64.wrap n) p st), .int .i64 0] ∧ ∃ o', OkS o' ∧ H' = (H.set bid (boxS sid sp (IntKind.i64.wrap (s + 1)) o r (v + 1))).set sid o' := by
 have hs' : (H.set bid (boxS sid sp (IntKind.i64.wrap (s + 1)) o r (v + 1)))[sid]? = some so := by rw [List.getElem?_set_ne hne]; exact hs
 have hb' : (H.set bid (boxS sid sp (IntKind.i64.wrap (s + 1)) o r (v + 1)))[bid]? = some (boxS sid sp (IntKind.i64.wrap (s + 1)) o r (v + 1)) := get_set hb
 have hx := xorL_len p st hl
 (refine fnS (imm := imm108) ttS_ok func108 ?_; (conv => whnf))
 refine callK_pure (c171 u) ?_
 rw [hu]
 conv => whnf
 refine ⟨fun h => absurd h (by omega), fun _ => ?_⟩
 conv => whnf
 refine ⟨fun h => absurd h (by omega), fun _ => ?_⟩
 conv => whnf
 refine ⟨fun h => absurd (show (784 : Int) < p.length from h) (by omega), fun _ => ?_⟩
 conv => whnf
 refine callK_of (Q := fun x H' => H' = H.set bid (boxS sid sp (IntKind.i64.wrap (s + 1)) o r (v + 1))) ((c110 (off := 17) (n := s) 1 hb ?_).mono fun x H' hh => ?_) ?_
 ·obtain ⟨k0, k1, k2, k3, k4, k5, k6, k7, k8, k9, ka, kb, kc, kd, ke, kf, rfl⟩ := len16 hsp
  rfl
 ·obtain ⟨k0, k1, k2, k3, k4, k5, k6, k7, k8, k9, ka, kb, kc, kd, ke, kf, rfl⟩ := len16 hsp
  exact hh.2
 rintro x _ rfl
 conv => whnf
 refine callK_pure (c172w _) ?_
 conv => whnf
 refine callK_of (c173 OkS hOk so sid (IntKind.u64.wrap n) u p st hl (by omega) hst sp hsp (IntKind.i64.wrap (s + 1)) o r (v + 1) bid _ hb' hs') ?_
 rintro _ _ ⟨rfl, o', ho', rfl⟩
 conv => whnf
 refine ⟨⟨by show ((8 + (xorL p st).length) * 1 ≤ _); omega, by simp, allOne _⟩, ?_⟩
 conv => whnf
 have hb2 : ((H.set bid (boxS sid sp (IntKind.i64.wrap (s + 1)) o r (v + 1))).set sid o')[bid]? = some (boxS sid sp (IntKind.i64.wrap (s + 1)) o r (v + 1)) := by rw [List.getElem?_set_ne (Ne.symm hne)]; exact hb'
 have ha : (bigV (IntKind.u64.wrap n) ++ xorL p st).length ≤ 1000000 := by rw [List.length_append, bigV_len]; omega
 refine callK_args (args' := [.ptr (some (bid, 0)), .int .i64 u, sl (bigV (IntKind.u64.wrap n) ++ xorL p st)]) ?_ (callK_of (c174 sid sp hsp (IntKind.i64.wrap (s + 1)) o r (v + 1) u (bigV (IntKind.u64.wrap n) ++ xorL p st) ha bid _ hb2) ?_)
 ·show [_, _, PV.slice ((bigV (IntKind.u64.wrap n)).length + (xorL p st).length) ((bigV (IntKind.u64.wrap n)).map byteC ++ (xorL p st).map byteC) none] = _
  unfold sl
  rw [List.length_append, List.map_append]
 rintro _ _ ⟨rfl, rfl⟩
 conv => whnf
 refine ⟨⟨by show ((8 + (xorL p st).length + 8) * 1 ≤ _); omega, by simp, allOne _⟩, ?_⟩
 conv => whnf
 refine ⟨?_, o', ho', rfl⟩
 show PV.tup [.slice ((bigV (IntKind.u64.wrap n)).length + (xorL p st).length + (tagV sp u (bigV (IntKind.u64.wrap n) ++ xorL p st)).length) (((bigV (IntKind.u64.wrap n)).map byteC ++ (xorL p st).map byteC) ++ (tagV sp u (bigV (IntKind.u64.wrap n) ++ xorL p st)).map byteC) (some 5), .int .i64 0] = _
 rw [← List.length_append, ← List.map_append, ow_app]
 rfl
set_option maxHeartbeats 2000000
end Go.Proofs.Tryz
/- What a call made is forgotten; what it wrote stays. -/
namespace Ps
open Go
section
variable {P : Program}
theorem CallOk.gcK {f : Nat} {args : List PV} {H : PH} {Q R : PV → PH → Prop} (h : CallOk P f args H Q) (hq : ∀ r H', Q r H' → oldR r = true ∧ ∃ H1 ext, H' = H1 ++ ext ∧ Kept H H1 ∧ R r H1) :
  CallOk P f args H R := by
 intro g w vs hs hr
 refine (h g w vs hs hr).mono ?_
 rintro e w' ⟨v, r, H', g', rfl, q, hr', st, ho, hc⟩
 obtain ⟨hold, H1, ext, rfl, hkp, hR⟩ := hq r H' q
 have hl1 := hkp.len
 have hlen : g.ι.length = H.length := hr.h.len
 have hfull : ∀ (id b : Nat), id < H.length → g'.ι[id]? = some (some b) → ∃ b0, g.ι[id]? = some (some b0) := fun id b hl h => by
  have hlt : id < g.ι.length := by omega
  cases hx : g.ι[id] with
  | some b0 => exact ⟨b0, by rw [List.getElem?_eq_getElem hlt, hx]⟩
  | none =>
   have := st.nil id (by rw [List.getElem?_eq_getElem hlt, hx])
   rw [h] at this; cases this
 have htake : ∀ (id b : Nat), (g'.ι.take H.length)[id]? = some (some b) → id < H.length ∧ g'.ι[id]? = some (some b) := fun id b hi => by
  rw [List.getElem?_take] at hi
  split at hi
  ·exact ⟨by assumption, hi⟩
  ·cases hi
 have hmk : ∀ (id b : Nat), id < g.ι.length → g'.ι[id]? = some (some b) → (g'.ι.take H.length)[id]? = some (some b) := fun id b hl hi => by
  rw [List.getElem?_take, if_pos (by omega)]; exact hi
 have hsub : ∀ (id b : Nat), (g'.ι.take H.length)[id]? = some (some b) → g'.ι[id]? = some (some b) := fun id b hi => (htake id b hi).2
 have hV : V (⟨g'.ι.take H.length, g'.I⟩) w' = V (⟨g'.ι.take H.length, g'.I⟩) w' := rfl
 have hcell : ∀ id j b, cellOwnAt ⟨g'.ι.take H.length, g'.I⟩ w' H1 id j b → cellOwnAt g' w' (H1 ++ ext) id j b := fun id j b ⟨o, c, b0, v, h1, h2, h3, h4, h5, h6⟩ =>
  ⟨o, c, b0, v, by rw [List.getElem?_append_left (List.getElem?_eq_some_iff.1 h1).1]; exact h1, h2, h3, hsub _ _ h4, h5, h6⟩
 have hRV : ∀ (u : Value) (p : PV), oldP p = true → VH P g' w' u p → VH P ⟨g'.ι.take H.length, g'.I⟩ w' u p := fun u p hp hu => by
  rcases hu with hu | ⟨n, cs, e, b, rfl, hv, hf⟩
  ·exact .inl (V.old (g := g') (h := hu) (g' := ⟨g'.ι.take H.length, g'.I⟩) (fun _ _ h => h) hp)
  ·exact .inr ⟨n, cs, e, b, rfl, V.old (g := g') (h := hv) (g' := ⟨g'.ι.take H.length, g'.I⟩) (fun _ _ h => h) (by simpa [oldP] using hp), OwnF.sub (g := g') (h := hf) (g' := ⟨g'.ι.take H.length, g'.I⟩) rfl hsub⟩
 have hRC : VC P ⟨g'.ι.take H.length, g'.I⟩ w' v r := by
  have h0 := hr'.e 0
  have h0 : VC P g' w' v r := h0
  cases r with
  | tup cs =>
   obtain ⟨us, rfl, k1, k2⟩ := h0
   exact ⟨us, rfl, k1, fun j c hj => hRV _ _ (oldPs_get hold j c hj) (k2 j c hj)⟩
  | _ => exact hRV _ _ hold h0
 have hget : ∀ t, VC P ⟨g'.ι.take H.length, g'.I⟩ w' (one v t) (Env.get [(0, r)] t) := fun t => by
  rw [Env.get_cons]
  unfold one
  by_cases e : t = 0
  ·rw [if_pos e, if_pos e.symm]; exact hRC
  ·rw [if_neg e, if_neg (Ne.symm e)]; exact (V.undef _).vc
 refine ⟨v, r, H1, ⟨g'.ι.take H.length, g'.I⟩, rfl, hR, ⟨⟨?_, fun id id' b h1 h2 => hr'.h.inj id id' b (hsub _ _ h1) (hsub _ _ h2), trivial, fun id b o h1 h2 => ?_, fun b o hi => ?_⟩, hget, hr'.ss, fun t i b h1 h2 => ?_, fun id j id' j' b h1 h2 => hr'.cc id j id' j' b (hcell _ _ _ h1) (hcell _ _ _ h2)⟩,
  ⟨⟨fun id o ho => ?_, fun id b o o' hi h1 h2 hv => ?_⟩, st.os, st.tape, st.output, st.size, ⟨fun id b hi => hmk id b (List.getElem?_eq_some_iff.1 hi).1 (st.keeps.ι id b hi), st.keeps.I⟩, fun id b hi => st.ι id b (hsub id b hi), st.far, fun id h => by
   have hlt := (List.getElem?_eq_some_iff.1 h).1
   show (g'.ι.take H.length)[id]? = some none
   rw [List.getElem?_take, if_pos (by omega)]; exact st.nil id h⟩, ho, fun b ⟨id, j, h1⟩ => hc b ⟨id, j, hcell _ _ _ h1⟩⟩
 ·have := hr'.h.len
  simp at this ⊢
  omega
 ·obtain ⟨hl, h2'⟩ := htake id b h2
  obtain ⟨us, k1, k2, k3⟩ := hr'.h.obj id b o (by rw [List.getElem?_append_left (by omega)]; exact h1) h2'
  refine ⟨us, k1, k2, fun j c hj => ?_⟩
  obtain ⟨u, y1, y2⟩ := k3 j c hj
  refine ⟨u, y1, ?_⟩
  obtain ⟨b0, hb0⟩ := hfull id b hl h2'
  obtain ⟨oo, q1, q2⟩ := hkp.old id o h1
  rcases q2 c (List.mem_of_getElem? hj) with hcf | hcm
  ·exact .inl ((y2.flat hcf).flat hcf)
  obtain ⟨j0, hj0⟩ := List.getElem?_of_mem hcm
  obtain ⟨us0, z1, z2, z3⟩ := hr.h.obj id b0 oo q1 hb0
  obtain ⟨u0, x1, x2⟩ := z3 j0 c hj0
  have both : ∀ (p : PV) (u u0 : Value), V g w u0 p → V g' w' u p → V ⟨g'.ι.take H.length, g'.I⟩ w' u p := fun p u u0 a0 a1 => V.both (g := g') (h := a1) (g0 := g) (g' := ⟨g'.ι.take H.length, g'.I⟩) (fun _ _ h => h) hmk a0
  rcases y2 with y2 | ⟨n, cs, e, bb, rfl, hv, hf⟩
  ·cases c with
   | slice n cs o' =>
    cases o' with
    | some e =>
     obtain ⟨rfl, rfl, rfl⟩ := y2.own_nil
     exact .inl (.snil _)
    | none => exact .inl (both _ _ _ x2.dem y2)
   | tup cs => exact x2.not_tup.elim
   | _ => exact .inl (both _ _ _ x2.dem y2)
  ·exact .inr ⟨n, cs, e, bb, rfl, both _ _ _ x2.dem hv, OwnF.sub (g := g') (h := hf) (g' := ⟨g'.ι.take H.length, g'.I⟩) rfl hsub⟩
 ·obtain ⟨k1, k2⟩ := hr'.h.imm b o hi
  exact ⟨fun id h2 => k1 id (hsub _ _ h2), k2⟩
 ·obtain ⟨id, j, h2⟩ := h2
  exact hr'.sc t i b h1 ⟨id, j, hcell _ _ _ h2⟩
 ·obtain ⟨o', k1, k2⟩ := st.fr.more id o ho
  have := (List.getElem?_eq_some_iff.1 ho).1
  rw [List.getElem?_append_left (by omega)] at k1
  exact ⟨o', k1, k2⟩
 ·have := (List.getElem?_eq_some_iff.1 h1).1
  exact st.fr.same id b o o' hi h1 (by rw [List.getElem?_append_left (by omega)]; exact h2) hv
end
end Ps
namespace Go.Proofs.Tryz
open Go Ps
def ttO : TT := [(1, ⟨.fn, 1, 8, [.nilF]⟩), (3, ⟨.int .i64, 1, 8, [.int .i64 0]⟩), (4, ⟨.bool, 1, 1, [.bool false]⟩), (5, ⟨.int .u8, 1, 1, [.int .u8 0]⟩), (21, ⟨.int .i32, 1, 4, [.int .i32 0]⟩), (26, ⟨.slice 5, 1, 24, [.slice 0 [] (some 5)]⟩), (238, ⟨.ptr, 1, 8, [.ptr none]⟩), (221, ⟨.arr 16 5, 16, 16, List.replicate 16 (.int .u8 0)⟩), (142, ⟨.int .u64, 1, 8, [.int .u64 0]⟩), (155, ⟨.int .u64, 1, 8, [.int .u64 0]⟩), (226, ⟨.int .u32, 1, 4, [.int .u32 0]⟩), (227, ⟨.arr 27 226, 27, 108, List.replicate 27 (.int .u32 0)⟩), (293, ⟨.strB [(129, 0), (226, 0)], 1, 4, [.int .u32 0]⟩), (295, ⟨.strct [(21, 0), (226, 1)], 2, 8, [.int .i32 0, .int .u32 0]⟩), (297, ⟨.strB [(291, 0), (295, 0)], 2, 8, [.int .i32 0, .int .u32 0]⟩), (299, ⟨.strB [(291, 0), (293, 0), (297, 1)], 3, 12, [.int .u32 0, .int .i32 0, .int .u32 0]⟩), (301, ⟨.strct [(221, 0), (299, 16), (227, 19), (293, 46)], 47, 140, List.replicate 16 (.int .u8 0) ++ [.int .u32 0, .int .i32 0] ++ List.replicate 29 (.int .u32 0)⟩), (282, ⟨.slice 226, 1, 24, [.slice 0 [] (some 226)]⟩), (281, ⟨.arr 4 226, 4, 16, [.int .u32 0, .int .u32 0, .int .u32 0, .int .u32 0]⟩), (395, ⟨.ptr, 1, 8, [.ptr none]⟩), (399, ⟨.ptr, 1, 8, [.ptr none]⟩)]
theorem ttO_ok : ttOk prog ttO = true := by kernel_rfl
def imm298 : List Nat := []
def imm308 : List Nat := []
def imm310 : List Nat := []
def imm297 : List Nat := []
def imm282 : List Nat := []
def imm257 : List Nat := []
def imm283 : List Nat := []
def imm317 : List Nat := []
def rot32S (k : Int) : Int := ibits .and .u64 (IntKind.u64.wrap k) 31
def rot32 (x k : Int) : Int := ibits .or .u32 (ishl .u32 x (rot32S k)) (ishr .u32 x (IntKind.u64.wrap (32 - rot32S k)))
def add32 (x y : Int) : Int := IntKind.u32.wrap (x + y)
def xor32 (x y : Int) : Int := ibits .xor .u32 x y
theorem c283 (x k : Int) : Pure prog 283 [.int .u32 x, .int .i64 k] (.int .u32 (rot32 x k)) := by
 intro H
 (refine fnS (imm := imm283) ttO_ok func283 ?_; (conv => whnf))
 refine ⟨u64_nonneg _, ?_⟩
 conv => whnf
 refine ⟨u64_nonneg _, ?_⟩
 conv => whnf
 exact ⟨rfl, rfl⟩
def S4.O4 (s : S4) (v : Nat) : PObj := ⟨281, [.int .u32 s.a, .int .u32 s.b, .int .u32 s.c, .int .u32 s.d], v⟩
def orB (x : Int) (c : UInt8) (s : Int) : Int := ibits .or .u32 x (ishl .u32 (IntKind.u32.wrap (c.toNat : Int)) s)
def wN (k : List UInt8) : Nat → S4
 | 0 => ⟨0, 0, 0, 0⟩
 | i + 1 => match i / 4 with
  | 0 => { wN k i with a := orB (wN k i).a (k.getD i 0) (8 * ((i % 4 : Nat) : Int)) }
  | 1 => { wN k i with b := orB (wN k i).b (k.getD i 0) (8 * ((i % 4 : Nat) : Int)) }
  | 2 => { wN k i with c := orB (wN k i).c (k.getD i 0) (8 * ((i % 4 : Nat) : Int)) }
  | _ => { wN k i with d := orB (wN k i).d (k.getD i 0) (8 * ((i % 4 : Nat) : Int)) }
def spN (k : List UInt8) : Nat → S4
 | 0 => wN k 16
 | i + 1 => ⟨xor32 (rot32 (spN k i).a 3) (xor32 (add32 (spN k i).a (rot32 (spN k i).b (-8))) (IntKind.u32.wrap (i : Int))), (spN k i).c, (spN k i).d, xor32 (add32 (spN k i).a (rot32 (spN k i).b (-8))) (IntKind.u32.wrap (i : Int))⟩
def u32C (x : Int) : PV := .int .u32 x
def keyO (k : List UInt8) (d m s : Int) (l : List Int) (md : Int) (v : Nat) : PObj := ⟨301, (k.map byteC ++ [.int .u32 d, .int .i32 m, .int .u32 s]) ++ l.map u32C ++ [.int .u32 md], v⟩
theorem setCells_mid (p q : List PV) (l : List Int) (i n : Nat) (x : Int) (hi : i < l.length) (e : n = p.length + i) : setCells n [u32C x] (p ++ l.map u32C ++ q) = p ++ (l.set i x).map u32C ++ q := by
 subst e
 rw [setCells_eq _ _ _ (by simp; omega)]
 have h1 : (p ++ l.map u32C ++ q).take (p.length + i) = p ++ (l.take i).map u32C := by
  rw [List.append_assoc, List.take_length_add_append, List.take_append_of_le_length (by rw [List.length_map]; omega), List.map_take]
 have h2 : (p ++ l.map u32C ++ q).drop (p.length + i + [u32C x].length) = (l.drop (i + 1)).map u32C ++ q := by
  rw [List.append_assoc, Nat.add_assoc, List.drop_length_add_append, List.drop_append_of_le_length (by rw [List.length_map]; simp; omega), List.map_drop]; rfl
 rw [h1, h2, List.set_eq_take_append_cons_drop, if_pos hi, List.map_append, List.map_cons]
 simp
def D298_4 : Draw := { imp := [12], win := [] }
theorem S4.look4 (s : S4) (v : Nat) (H : PH) : (H ++ [s.O4 v])[H.length]? = some ⟨281, [.int .u32 s.a, .int .u32 s.b, .int .u32 s.c, .int .u32 s.d], v⟩ := get_last H _
structure MkS where
 i : Nat
 kv : Nat
 lid : Nat
 off : Nat
 cap : Nat
 ob : PObj
 K : PH
def spL (k : List UInt8) (l : List Int) (i : Nat) : List Int := (List.range i).map (fun j => (spN k j).a) ++ l.drop i
theorem spL_len (k : List UInt8) (l : List Int) (i : Nat) (hl : l.length = 27) (hi : i ≤ 27) : (spL k l i).length = 27 := by
 unfold spL
 rw [List.length_append, List.length_map, List.length_range, List.length_drop]; omega
theorem spL_set (k : List UInt8) (l : List Int) (i : Nat) (hl : l.length = 27) (hi : i < 27) : (spL k l i).set i (spN k i).a = spL k l (i + 1) := by
 unfold spL
 rw [List.set_append_right _ _ (by simp), List.length_map, List.length_range, Nat.sub_self, List.drop_eq_getElem_cons (by omega), List.set_cons_zero, List.range_succ, List.map_append, List.append_assoc]
 rfl
structure MkOk (k : List UInt8) (d m s md : Int) (l : List Int) (kid : Nat) (H : PH) (x : MkS) : Prop where
 i : x.i ≤ 27
 key : x.K[kid]? = some (keyO k d m s (spL k l x.i) md x.kv)
 ne : x.lid ≠ kid
 new : H.length ≤ x.lid
 lst : x.K[x.lid]? = some x.ob
 three : (x.ob.cs.drop x.off).take 3 = [u32C (spN k x.i).b, u32C (spN k x.i).c, u32C (spN k x.i).d]
 room : x.off + x.cap ≤ x.ob.cs.length
 cap : 3 ≤ x.cap
 len : H.length ≤ x.K.length
 fr : ∀ j, j < H.length → j ≠ kid → x.K[j]? = H[j]?
def spW (k : List UInt8) : List Int := (List.range 27).map fun j => (spN k j).a
theorem setCells_len (k : Nat) (xs cs : List PV) (h : k + xs.length ≤ cs.length) : (setCells k xs cs).length = cs.length := by
 rw [setCells_eq _ _ _ h]
 simp only [List.length_append, List.length_take, List.length_drop]; omega
theorem slide (cs : List PV) (off : Nat) (b c d : PV) (r : List PV) (h : cs.drop off = b :: c :: d :: r) (hr : off + 4 ≤ cs.length) (n : PV) : ((setCells (off + 1 + 2) [n] cs).drop (off + 1)).take 3 = [c, d, n] := by
 have hcs : cs = cs.take off ++ b :: c :: d :: r := by rw [← h, List.take_append_drop]
 have hp : (cs.take off).length = off := by rw [List.length_take]; omega
 generalize cs.take off = p at hcs hp
 subst hcs
 subst hp
 match r, hr with
 | [], hr => simp at hr
 | e :: r', _ =>
  rw [setCells_eq _ _ _ (by simp; omega)]
  have h1 : (p ++ b :: c :: d :: e :: r').take (p.length + 1 + 2) = p ++ [b, c, d] := by
   rw [Nat.add_assoc, List.take_length_add_append]; rfl
  rw [h1, List.append_assoc, List.append_assoc, List.drop_length_add_append]
  rfl
theorem c316 {H : PH} {id off : Nat} {o : PObj} {n : Int} (m : Int) (ho : H[id]? = some o) (hc : o.cs[off]? = some (.int .u32 n)) :
  CallOk prog 316 [.ptr (some (id, off)), .int .u32 m] H fun r H' => r = .tup [] ∧ H' = H.set id ⟨o.T, setCells off [.int .u32 m] o.cs, o.ver + 1⟩ :=
 callOk_store func316 (by kernel_rfl) (by kernel_rfl) (by kernel_rfl) .u32 (by kernel_rfl) m ho hc
theorem c317 : Pure prog 317 [.bool true] (.int .u32 1) := by
 intro H
 (refine fnS (imm := imm317) ttO_ok func317 ?_; (conv => whnf))
 exact ⟨rfl, rfl⟩
def D310 : Draw := { imp := [5], win := [] }
theorem c310 {H : PH} {id off : Nat} {o : PObj} {n : Int} (ho : H[id]? = some o) (hc : o.cs[off]? = some (.int .u32 n)) :
  CallOk prog 310 [.ptr (some (id, off)), .bool true] H fun r H' => r = .tup [] ∧ H' = H.set id ⟨o.T, setCells off [.int .u32 1] o.cs, o.ver + 1⟩ := by
 (refine fnS (imm := imm310) ttO_ok func310 ?_; (conv => whnf))
 refine drawK_of2 D310 [H, H.set id ⟨o.T, setCells off [.int .u32 1] o.cs, o.ver + 1⟩] (by kernel_rfl) rfl trivial ?_
 conv => whnf
 iterate 4 (refine dS ?_; (conv => whnf))
 refine ⟨_, callK_pure c317 ⟨rfl, rfl, trivial⟩, ?_⟩
 conv => whnf
 refine ⟨_, callK_of (c316 1 ho hc) (by rintro _ _ ⟨rfl, rfl⟩; exact ⟨rfl, rfl, trivial⟩), ?_⟩
 conv => whnf
 exact ⟨rfl, rfl⟩
theorem c298x (k : List UInt8) (hk : k.length = 16) (d m s md : Int) (l : List Int) (hl : l.length = 27) (v kid : Nat) (H : PH) (hid : H[kid]? = some (keyO k d m s l md v)) :
  CallOk prog 298 [.ptr (some (kid, 0))] H fun r H' => r = .tup [] ∧ ∃ (K : PH) (kv : Nat), K[kid]? = some (keyO k d m s (spW k) md kv) ∧ H.length ≤ K.length ∧ (∀ j, j < H.length → j ≠ kid → K[j]? = H[j]?) ∧ H' = K.set kid (keyO k d m s (spW k) 1 (kv + 1)) := by
 obtain ⟨k0, k1, k2, k3, k4, k5, k6, k7, k8, k9, ka, kb, kc, kd, ke, kf, rfl⟩ := len16 hk
 have hlt : kid < H.length := (List.getElem?_eq_some_iff.1 hid).1
 (refine fnS (imm := imm298) ttO_ok func298 ?_; (conv => whnf))
 have hid1 : (H ++ [(⟨281, [.int .u32 0, .int .u32 0, .int .u32 0, .int .u32 0], 0⟩ : PObj)])[kid]? = some (keyO [k0, k1, k2, k3, k4, k5, k6, k7, k8, k9, ka, kb, kc, kd, ke, kf] d m s l md v) := by rw [List.getElem?_append_left hlt]; exact hid
 ((conv in (_[_]?) => tactic => exact hid1); (conv => whnf))
 obtain ⟨kk, hkk⟩ : ∃ kk : List UInt8, kk = [k0, k1, k2, k3, k4, k5, k6, k7, k8, k9, ka, kb, kc, kd, ke, kf] := ⟨_, rfl⟩
 refine loopK_of Nat (fun x => [(0, .ptr (some (kid, 0))), (2, .ptr (some (H.length, 0))), (12, .agg ([k0, k1, k2, k3, k4, k5, k6, k7, k8, k9, ka, kb, kc, kd, ke, kf].map byteC)), (13, .int .i64 x)]) (fun x => H ++ [(wN kk x).O4 x]) (fun x => x ≤ 16) (fun x => 16 - x) ⟨0, Nat.zero_le _, ⟨rfl, rfl, rfl, rfl, trivial⟩, rfl⟩ ?_
 intro i hi
 match i, hi with
 | 0, _ =>
  conv => whnf
  refine ⟨fun _ => ?_, fun h => absurd (show ((0 : Nat) : Int) < 16 by decide) h⟩
  conv => whnf
  refine ⟨⟨by decide, by decide⟩, ?_⟩
  conv => whnf
  generalize hz : wN kk 0 = z
  refine drawK_of2 D298_4 [H ++ [z.O4 0], H ++ [S4.O4 { z with a := orB z.a k0 0 } 1]] (by kernel_rfl) rfl trivial ?_
  conv => whnf
  (refine dS ?_; (conv => whnf))
  apply Exists.intro
  apply And.intro
  ·conv => whnf
   exact oD
  conv => whnf
  apply Exists.intro
  apply And.intro
  ·conv => whnf
   exact oD
  conv => whnf
  apply Exists.intro
  apply And.intro
  ·conv => whnf
   ((conv in (_[_]?) => tactic => exact (z.look4 0 H)); (conv => whnf))
   exact ⟨rfl, rfl, trivial⟩
  conv => whnf
  iterate 3 (refine dS ?_; (conv => whnf))
  apply Exists.intro
  apply And.intro
  ·conv => whnf
   exact oD
  conv => whnf
  (refine dS ?_; (conv => whnf))
  apply Exists.intro
  apply And.intro
  ·conv => whnf
   exact oD
  conv => whnf
  (refine dS ?_; (conv => whnf))
  apply Exists.intro
  apply And.intro
  ·conv => whnf
   exact oD
  conv => whnf
  apply Exists.intro
  apply And.intro
  ·conv => whnf
   ((conv in (_[_]?) => tactic => exact (z.look4 0 H)); (conv => whnf))
   exact ⟨rfl, set_last H _ _, trivial⟩
  conv => whnf
  refine ⟨1, by decide, ⟨rfl, rfl, rfl, rfl, trivial⟩, ?_, by decide⟩
  subst hz hkk
  rfl
 | 1, _ =>
  conv => whnf
  refine ⟨fun _ => ?_, fun h => absurd (show ((1 : Nat) : Int) < 16 by decide) h⟩
  conv => whnf
  refine ⟨⟨by decide, by decide⟩, ?_⟩
  conv => whnf
  generalize hz : wN kk 1 = z
  refine drawK_of2 D298_4 [H ++ [z.O4 1], H ++ [S4.O4 { z with a := orB z.a k1 8 } 2]] (by kernel_rfl) rfl trivial ?_
  conv => whnf
  (refine dS ?_; (conv => whnf))
  apply Exists.intro
  apply And.intro
  ·conv => whnf
   exact oD
  conv => whnf
  apply Exists.intro
  apply And.intro
  ·conv => whnf
   exact oD
  conv => whnf
  apply Exists.intro
  apply And.intro
  ·conv => whnf
   ((conv in (_[_]?) => tactic => exact (z.look4 1 H)); (conv => whnf))
   exact ⟨rfl, rfl, trivial⟩
  conv => whnf
  iterate 3 (refine dS ?_; (conv => whnf))
  apply Exists.intro
  apply And.intro
  ·conv => whnf
   exact oD
  conv => whnf
  (refine dS ?_; (conv => whnf))
  apply Exists.intro
  apply And.intro
  ·conv => whnf
   exact oD
  conv => whnf
  (refine dS ?_; (conv => whnf))
  apply Exists.intro
  apply And.intro
  ·conv => whnf
   exact oD
  conv => whnf
  apply Exists.intro
  apply And.intro
  ·conv => whnf
   ((conv in (_[_]?) => tactic => exact (z.look4 1 H)); (conv => whnf))
   exact ⟨rfl, set_last H _ _, trivial⟩
  conv => whnf
  refine ⟨2, by decide, ⟨rfl, rfl, rfl, rfl, trivial⟩, ?_, by decide⟩
  subst hz hkk
  rfl
 | 2, _ =>
  conv => whnf
  refine ⟨fun _ => ?_, fun h => absurd (show ((2 : Nat) : Int) < 16 by decide) h⟩
  conv => whnf
  refine ⟨⟨by decide, by decide⟩, ?_⟩
  conv => whnf
  generalize hz : wN kk 2 = z
  refine drawK_of2 D298_4 [H ++ [z.O4 2], H ++ [S4.O4 { z with a := orB z.a k2 16 } 3]] (by kernel_rfl) rfl trivial ?_
  conv => whnf
  (refine dS ?_; (conv => whnf))
  apply Exists.intro
  apply And.intro
  ·conv => whnf
   exact oD
  conv => whnf
  apply Exists.intro
  apply And.intro
  ·conv => whnf
   exact oD
  conv => whnf
  apply Exists.intro
  apply And.intro
  ·conv => whnf
   ((conv in (_[_]?) => tactic => exact (z.look4 2 H)); (conv => whnf))
   exact ⟨rfl, rfl, trivial⟩
  conv => whnf
  iterate 3 (refine dS ?_; (conv => whnf))
  apply Exists.intro
  apply And.intro
  ·conv => whnf
   exact oD
  conv => whnf
  (refine dS ?_; (conv => whnf))
  apply Exists.intro
  apply And.intro
  ·conv => whnf
   exact oD
  conv => whnf
  (refine dS ?_; (conv => whnf))
  apply Exists.intro
  apply And.intro
  ·conv => whnf
   exact oD
  conv => whnf
  apply Exists.intro
  apply And.intro
  ·conv => whnf
   ((conv in (_[_]?) => tactic => exact (z.look4 2 H)); (conv => whnf))
   exact ⟨rfl, set_last H _ _, trivial⟩
  conv => whnf
  refine ⟨3, by decide, ⟨rfl, rfl, rfl, rfl, trivial⟩, ?_, by decide⟩
  subst hz hkk
  rfl
 | 3, _ =>
  conv => whnf
  refine ⟨fun _ => ?_, fun h => absurd (show ((3 : Nat) : Int) < 16 by decide) h⟩
  conv => whnf
  refine ⟨⟨by decide, by decide⟩, ?_⟩
  conv => whnf
  generalize hz : wN kk 3 = z
  refine drawK_of2 D298_4 [H ++ [z.O4 3], H ++ [S4.O4 { z with a := orB z.a k3 24 } 4]] (by kernel_rfl) rfl trivial ?_
  conv => whnf
  (refine dS ?_; (conv => whnf))
  apply Exists.intro
  apply And.intro
  ·conv => whnf
   exact oD
  conv => whnf
  apply Exists.intro
  apply And.intro
  ·conv => whnf
   exact oD
  conv => whnf
  apply Exists.intro
  apply And.intro
  ·conv => whnf
   ((conv in (_[_]?) => tactic => exact (z.look4 3 H)); (conv => whnf))
   exact ⟨rfl, rfl, trivial⟩
  conv => whnf
  iterate 3 (refine dS ?_; (conv => whnf))
  apply Exists.intro
  apply And.intro
  ·conv => whnf
   exact oD
  conv => whnf
  (refine dS ?_; (conv => whnf))
  apply Exists.intro
  apply And.intro
  ·conv => whnf
   exact oD
  conv => whnf
  (refine dS ?_; (conv => whnf))
  apply Exists.intro
  apply And.intro
  ·conv => whnf
   exact oD
  conv => whnf
  apply Exists.intro
  apply And.intro
  ·conv => whnf
   ((conv in (_[_]?) => tactic => exact (z.look4 3 H)); (conv => whnf))
   exact ⟨rfl, set_last H _ _, trivial⟩
  conv => whnf
  refine ⟨4, by decide, ⟨rfl, rfl, rfl, rfl, trivial⟩, ?_, by decide⟩
  subst hz hkk
  rfl
 | 4, _ =>
  conv => whnf
  refine ⟨fun _ => ?_, fun h => absurd (show ((4 : Nat) : Int) < 16 by decide) h⟩
  conv => whnf
  refine ⟨⟨by decide, by decide⟩, ?_⟩
  conv => whnf
  generalize hz : wN kk 4 = z
  refine drawK_of2 D298_4 [H ++ [z.O4 4], H ++ [S4.O4 { z with b := orB z.b k4 0 } 5]] (by kernel_rfl) rfl trivial ?_
  conv => whnf
  (refine dS ?_; (conv => whnf))
  apply Exists.intro
  apply And.intro
  ·conv => whnf
   exact oD
  conv => whnf
  apply Exists.intro
  apply And.intro
  ·conv => whnf
   exact oD
  conv => whnf
  apply Exists.intro
  apply And.intro
  ·conv => whnf
   ((conv in (_[_]?) => tactic => exact (z.look4 4 H)); (conv => whnf))
   exact ⟨rfl, rfl, trivial⟩
  conv => whnf
  iterate 3 (refine dS ?_; (conv => whnf))
  apply Exists.intro
  apply And.intro
  ·conv => whnf
   exact oD
  conv => whnf
  (refine dS ?_; (conv => whnf))
  apply Exists.intro
  apply And.intro
  ·conv => whnf
   exact oD
  conv => whnf
  (refine dS ?_; (conv => whnf))
  apply Exists.intro
  apply And.intro
  ·conv => whnf
   exact oD
  conv => whnf
  apply Exists.intro
  apply And.intro
  ·conv => whnf
   ((conv in (_[_]?) => tactic => exact (z.look4 4 H)); (conv => whnf))
   exact ⟨rfl, set_last H _ _, trivial⟩
  conv => whnf
  refine ⟨5, by decide, ⟨rfl, rfl, rfl, rfl, trivial⟩, ?_, by decide⟩
  subst hz hkk
  rfl
 | 5, _ =>
  conv => whnf
  refine ⟨fun _ => ?_, fun h => absurd (show ((5 : Nat) : Int) < 16 by decide) h⟩
  conv => whnf
  refine ⟨⟨by decide, by decide⟩, ?_⟩
  conv => whnf
  generalize hz : wN kk 5 = z
  refine drawK_of2 D298_4 [H ++ [z.O4 5], H ++ [S4.O4 { z with b := orB z.b k5 8 } 6]] (by kernel_rfl) rfl trivial ?_
  conv => whnf
  (refine dS ?_; (conv => whnf))
  apply Exists.intro
  apply And.intro
  ·conv => whnf
   exact oD
  conv => whnf
  apply Exists.intro
  apply And.intro
  ·conv => whnf
   exact oD
  conv => whnf
  apply Exists.intro
  apply And.intro
  ·conv => whnf
   ((conv in (_[_]?) => tactic => exact (z.look4 5 H)); (conv => whnf))
   exact ⟨rfl, rfl, trivial⟩
  conv => whnf
  iterate 3 (refine dS ?_; (conv => whnf))
  apply Exists.intro
  apply And.intro
  ·conv => whnf
   exact oD
  conv => whnf
  (refine dS ?_; (conv => whnf))
  apply Exists.intro
  apply And.intro
  ·conv => whnf
   exact oD
  conv => whnf
  (refine dS ?_; (conv => whnf))
  apply Exists.intro
  apply And.intro
  ·conv => whnf
   exact oD
  conv => whnf
  apply Exists.intro
  apply And.intro
  ·conv => whnf
   ((conv in (_[_]?) => tactic => exact (z.look4 5 H)); (conv => whnf))
   exact ⟨rfl, set_last H _ _, trivial⟩
  conv => whnf
  refine ⟨6, by decide, ⟨rfl, rfl, rfl, rfl, trivial⟩, ?_, by decide⟩
  subst hz hkk
  rfl
 | 6, _ =>
  conv => whnf
  refine ⟨fun _ => ?_, fun h => absurd (show ((6 : Nat) : Int) < 16 by decide) h⟩
  conv => whnf
  refine ⟨⟨by decide, by decide⟩, ?_⟩
  conv => whnf
  generalize hz : wN kk 6 = z
  refine drawK_of2 D298_4 [H ++ [z.O4 6], H ++ [S4.O4 { z with b := orB z.b k6 16 } 7]] (by kernel_rfl) rfl trivial ?_
  conv => whnf
  (refine dS ?_; (conv => whnf))
  apply Exists.intro
  apply And.intro
  ·conv => whnf
   exact oD
  conv => whnf
  apply Exists.intro
  apply And.intro
  ·conv => whnf
   exact oD
  conv => whnf
  apply Exists.intro
  apply And.intro
  ·conv => whnf
   ((conv in (_[_]?) => tactic => exact (z.look4 6 H)); (conv => whnf))
   exact ⟨rfl, rfl, trivial⟩
  conv => whnf
  iterate 3 (refine dS ?_; (conv => whnf))
  apply Exists.intro
  apply And.intro
  ·conv => whnf
   exact oD
  conv => whnf
  (refine dS ?_; (conv => whnf))
  apply Exists.intro
  apply And.intro
  ·conv => whnf
   exact oD
  conv => whnf
  (refine dS ?_; (conv => whnf))
  apply Exists.intro
  apply And.intro
  ·conv => whnf
   exact oD
  conv => whnf
  apply Exists.intro
  apply And.intro
  ·conv => whnf
   ((conv in (_[_]?) => tactic => exact (z.look4 6 H)); (conv => whnf))
   exact ⟨rfl, set_last H _ _, trivial⟩
  conv => whnf
  refine ⟨7, by decide, ⟨rfl, rfl, rfl, rfl, trivial⟩, ?_, by decide⟩
  subst hz hkk
  rfl
 | 7, _ =>
  conv => whnf
  refine ⟨fun _ => ?_, fun h => absurd (show ((7 : Nat) : Int) < 16 by decide) h⟩
  conv => whnf
  refine ⟨⟨by decide, by decide⟩, ?_⟩
  conv => whnf
  generalize hz : wN kk 7 = z
  refine drawK_of2 D298_4 [H ++ [z.O4 7], H ++ [S4.O4 { z with b := orB z.b k7 24 } 8]] (by kernel_rfl) rfl trivial ?_
  conv => whnf
  (refine dS ?_; (conv => whnf))
  apply Exists.intro
  apply And.intro
  ·conv => whnf
   exact oD
  conv => whnf
  apply Exists.intro
  apply And.intro
  ·conv => whnf
   exact oD
  conv => whnf
  apply Exists.intro
  apply And.intro
  ·conv => whnf
   ((conv in (_[_]?) => tactic => exact (z.look4 7 H)); (conv => whnf))
   exact ⟨rfl, rfl, trivial⟩
  conv => whnf
  iterate 3 (refine dS ?_; (conv => whnf))
  apply Exists.intro
  apply And.intro
  ·conv => whnf
   exact oD
  conv => whnf
  (refine dS ?_; (conv => whnf))
  apply Exists.intro
  apply And.intro
  ·conv => whnf
   exact oD
  conv => whnf
  (refine dS ?_; (conv => whnf))
  apply Exists.intro
  apply And.intro
  ·conv => whnf
   exact oD
  conv => whnf
  apply Exists.intro
  apply And.intro
  ·conv => whnf
   ((conv in (_[_]?) => tactic => exact (z.look4 7 H)); (conv => whnf))
   exact ⟨rfl, set_last H _ _, trivial⟩
  conv => whnf
  refine ⟨8, by decide, ⟨rfl, rfl, rfl, rfl, trivial⟩, ?_, by decide⟩
  subst hz hkk
  rfl
 | 8, _ =>
  conv => whnf
  refine ⟨fun _ => ?_, fun h => absurd (show ((8 : Nat) : Int) < 16 by decide) h⟩
  conv => whnf
  refine ⟨⟨by decide, by decide⟩, ?_⟩
  conv => whnf
  generalize hz : wN kk 8 = z
  refine drawK_of2 D298_4 [H ++ [z.O4 8], H ++ [S4.O4 { z with c := orB z.c k8 0 } 9]] (by kernel_rfl) rfl trivial ?_
  conv => whnf
  (refine dS ?_; (conv => whnf))
  apply Exists.intro
  apply And.intro
  ·conv => whnf
   exact oD
  conv => whnf
  apply Exists.intro
  apply And.intro
  ·conv => whnf
   exact oD
  conv => whnf
  apply Exists.intro
  apply And.intro
  ·conv => whnf
   ((conv in (_[_]?) => tactic => exact (z.look4 8 H)); (conv => whnf))
   exact ⟨rfl, rfl, trivial⟩
  conv => whnf
  iterate 3 (refine dS ?_; (conv => whnf))
  apply Exists.intro
  apply And.intro
  ·conv => whnf
   exact oD
  conv => whnf
  (refine dS ?_; (conv => whnf))
  apply Exists.intro
  apply And.intro
  ·conv => whnf
   exact oD
  conv => whnf
  (refine dS ?_; (conv => whnf))
  apply Exists.intro
  apply And.intro
  ·conv => whnf
   exact oD
  conv => whnf
  apply Exists.intro
  apply And.intro
  ·conv => whnf
   ((conv in (_[_]?) => tactic => exact (z.look4 8 H)); (conv => whnf))
   exact ⟨rfl, set_last H _ _, trivial⟩
  conv => whnf
  refine ⟨9, by decide, ⟨rfl, rfl, rfl, rfl, trivial⟩, ?_, by decide⟩
  subst hz hkk
  rfl
 | 9, _ =>
  conv => whnf
  refine ⟨fun _ => ?_, fun h => absurd (show ((9 : Nat) : Int) < 16 by decide) h⟩
  conv => whnf
  refine ⟨⟨by decide, by decide⟩, ?_⟩
  conv => whnf
  generalize hz : wN kk 9 = z
  refine drawK_of2 D298_4 [H ++ [z.O4 9], H ++ [S4.O4 { z with c := orB z.c k9 8 } 10]] (by kernel_rfl) rfl trivial ?_
  conv => whnf
  (refine dS ?_; (conv => whnf))
  apply Exists.intro
  apply And.intro
  ·conv => whnf
   exact oD
  conv => whnf
  apply Exists.intro
  apply And.intro
  ·conv => whnf
   exact oD
  conv => whnf
  apply Exists.intro
  apply And.intro
  ·conv => whnf
   ((conv in (_[_]?) => tactic => exact (z.look4 9 H)); (conv => whnf))
   exact ⟨rfl, rfl, trivial⟩
  conv => whnf
  iterate 3 (refine dS ?_; (conv => whnf))
  apply Exists.intro
  apply And.intro
  ·conv => whnf
   exact oD
  conv => whnf
  (refine dS ?_; (conv => whnf))
  apply Exists.intro
  apply And.intro
  ·conv => whnf
   exact oD
  conv => whnf
  (refine dS ?_; (conv => whnf))
  apply Exists.intro
  apply And.intro
  ·conv => whnf
   exact oD
  conv => whnf
  apply Exists.intro
  apply And.intro
  ·conv => whnf
   ((conv in (_[_]?) => tactic => exact (z.look4 9 H)); (conv => whnf))
   exact ⟨rfl, set_last H _ _, trivial⟩
  conv => whnf
  refine ⟨10, by decide, ⟨rfl, rfl, rfl, rfl, trivial⟩, ?_, by decide⟩
  subst hz hkk
  rfl
 | 10, _ =>
  conv => whnf
  refine ⟨fun _ => ?_, fun h => absurd (show ((10 : Nat) : Int) < 16 by decide) h⟩
  conv => whnf
  refine ⟨⟨by decide, by decide⟩, ?_⟩
  conv => whnf
  generalize hz : wN kk 10 = z
  refine drawK_of2 D298_4 [H ++ [z.O4 10], H ++ [S4.O4 { z with c := orB z.c ka 16 } 11]] (by kernel_rfl) rfl trivial ?_
  conv => whnf
  (refine dS ?_; (conv => whnf))
  apply Exists.intro
  apply And.intro
  ·conv => whnf
   exact oD
  conv => whnf
  apply Exists.intro
  apply And.intro
  ·conv => whnf
   exact oD
  conv => whnf
  apply Exists.intro
  apply And.intro
  ·conv => whnf
   ((conv in (_[_]?) => tactic => exact (z.look4 10 H)); (conv => whnf))
   exact ⟨rfl, rfl, trivial⟩
  conv => whnf
  iterate 3 (refine dS ?_; (conv => whnf))
  apply Exists.intro
  apply And.intro
  ·conv => whnf
   exact oD
  conv => whnf
  (refine dS ?_; (conv => whnf))
  apply Exists.intro
  apply And.intro
  ·conv => whnf
   exact oD
  conv => whnf
  (refine dS ?_; (conv => whnf))
  apply Exists.intro
  apply And.intro
  ·conv => whnf
   exact oD
  conv => whnf
  apply Exists.intro
  apply And.intro
  ·conv => whnf
   ((conv in (_[_]?) => tactic => exact (z.look4 10 H)); (conv => whnf))
   exact ⟨rfl, set_last H _ _, trivial⟩
  conv => whnf
  refine ⟨11, by decide, ⟨rfl, rfl, rfl, rfl, trivial⟩, ?_, by decide⟩
  subst hz hkk
  rfl
 | 11, _ =>
  conv => whnf
  refine ⟨fun _ => ?_, fun h => absurd (show ((11 : Nat) : Int) < 16 by decide) h⟩
  conv => whnf
  refine ⟨⟨by decide, by decide⟩, ?_⟩
  conv => whnf
  generalize hz : wN kk 11 = z
  refine drawK_of2 D298_4 [H ++ [z.O4 11], H ++ [S4.O4 { z with c := orB z.c kb 24 } 12]] (by kernel_rfl) rfl trivial ?_
  conv => whnf
  (refine dS ?_; (conv => whnf))
  apply Exists.intro
  apply And.intro
  ·conv => whnf
   exact oD
  conv => whnf
  apply Exists.intro
  apply And.intro
  ·conv => whnf
   exact oD
  conv => whnf
  apply Exists.intro
  apply And.intro
  ·conv => whnf
   ((conv in (_[_]?) => tactic => exact (z.look4 11 H)); (conv => whnf))
   exact ⟨rfl, rfl, trivial⟩
  conv => whnf
  iterate 3 (refine dS ?_; (conv => whnf))
  apply Exists.intro
  apply And.intro
  ·conv => whnf
   exact oD
  conv => whnf
  (refine dS ?_; (conv => whnf))
  apply Exists.intro
  apply And.intro
  ·conv => whnf
   exact oD
  conv => whnf
  (refine dS ?_; (conv => whnf))
  apply Exists.intro
  apply And.intro
  ·conv => whnf
   exact oD
  conv => whnf
  apply Exists.intro
  apply And.intro
  ·conv => whnf
   ((conv in (_[_]?) => tactic => exact (z.look4 11 H)); (conv => whnf))
   exact ⟨rfl, set_last H _ _, trivial⟩
  conv => whnf
  refine ⟨12, by decide, ⟨rfl, rfl, rfl, rfl, trivial⟩, ?_, by decide⟩
  subst hz hkk
  rfl
 | 12, _ =>
  conv => whnf
  refine ⟨fun _ => ?_, fun h => absurd (show ((12 : Nat) : Int) < 16 by decide) h⟩
  conv => whnf
  refine ⟨⟨by decide, by decide⟩, ?_⟩
  conv => whnf
  generalize hz : wN kk 12 = z
  refine drawK_of2 D298_4 [H ++ [z.O4 12], H ++ [S4.O4 { z with d := orB z.d kc 0 } 13]] (by kernel_rfl) rfl trivial ?_
  conv => whnf
  (refine dS ?_; (conv => whnf))
  apply Exists.intro
  apply And.intro
  ·conv => whnf
   exact oD
  conv => whnf
  apply Exists.intro
  apply And.intro
  ·conv => whnf
   exact oD
  conv => whnf
  apply Exists.intro
  apply And.intro
  ·conv => whnf
   ((conv in (_[_]?) => tactic => exact (z.look4 12 H)); (conv => whnf))
   exact ⟨rfl, rfl, trivial⟩
  conv => whnf
  iterate 3 (refine dS ?_; (conv => whnf))
  apply Exists.intro
  apply And.intro
  ·conv => whnf
   exact oD
  conv => whnf
  (refine dS ?_; (conv => whnf))
  apply Exists.intro
  apply And.intro
  ·conv => whnf
   exact oD
  conv => whnf
  (refine dS ?_; (conv => whnf))
  apply Exists.intro
  apply And.intro
  ·conv => whnf
   exact oD
  conv => whnf
  apply Exists.intro
  apply And.intro
  ·conv => whnf
   ((conv in (_[_]?) => tactic => exact (z.look4 12 H)); (conv => whnf))
   exact ⟨rfl, set_last H _ _, trivial⟩
  conv => whnf
  refine ⟨13, by decide, ⟨rfl, rfl, rfl, rfl, trivial⟩, ?_, by decide⟩
  subst hz hkk
  rfl
 | 13, _ =>
  conv => whnf
  refine ⟨fun _ => ?_, fun h => absurd (show ((13 : Nat) : Int) < 16 by decide) h⟩
  conv => whnf
  refine ⟨⟨by decide, by decide⟩, ?_⟩
  conv => whnf
  generalize hz : wN kk 13 = z
  refine drawK_of2 D298_4 [H ++ [z.O4 13], H ++ [S4.O4 { z with d := orB z.d kd 8 } 14]] (by kernel_rfl) rfl trivial ?_
  conv => whnf
  (refine dS ?_; (conv => whnf))
  apply Exists.intro
  apply And.intro
  ·conv => whnf
   exact oD
  conv => whnf
  apply Exists.intro
  apply And.intro
  ·conv => whnf
   exact oD
  conv => whnf
  apply Exists.intro
  apply And.intro
  ·conv => whnf
   ((conv in (_[_]?) => tactic => exact (z.look4 13 H)); (conv => whnf))
   exact ⟨rfl, rfl, trivial⟩
  conv => whnf
  iterate 3 (refine dS ?_; (conv => whnf))
  apply Exists.intro
  apply And.intro
  ·conv => whnf
   exact oD
  conv => whnf
  (refine dS ?_; (conv => whnf))
  apply Exists.intro
  apply And.intro
  ·conv => whnf
   exact oD
  conv => whnf
  (refine dS ?_; (conv => whnf))
  apply Exists.intro
  apply And.intro
  ·conv => whnf
   exact oD
  conv => whnf
  apply Exists.intro
  apply And.intro
  ·conv => whnf
   ((conv in (_[_]?) => tactic => exact (z.look4 13 H)); (conv => whnf))
   exact ⟨rfl, set_last H _ _, trivial⟩
  conv => whnf
  refine ⟨14, by decide, ⟨rfl, rfl, rfl, rfl, trivial⟩, ?_, by decide⟩
  subst hz hkk
  rfl
 | 14, _ =>
  conv => whnf
  refine ⟨fun _ => ?_, fun h => absurd (show ((14 : Nat) : Int) < 16 by decide) h⟩
  conv => whnf
  refine ⟨⟨by decide, by decide⟩, ?_⟩
  conv => whnf
  generalize hz : wN kk 14 = z
  refine drawK_of2 D298_4 [H ++ [z.O4 14], H ++ [S4.O4 { z with d := orB z.d ke 16 } 15]] (by kernel_rfl) rfl trivial ?_
  conv => whnf
  (refine dS ?_; (conv => whnf))
  apply Exists.intro
  apply And.intro
  ·conv => whnf
   exact oD
  conv => whnf
  apply Exists.intro
  apply And.intro
  ·conv => whnf
   exact oD
  conv => whnf
  apply Exists.intro
  apply And.intro
  ·conv => whnf
   ((conv in (_[_]?) => tactic => exact (z.look4 14 H)); (conv => whnf))
   exact ⟨rfl, rfl, trivial⟩
  conv => whnf
  iterate 3 (refine dS ?_; (conv => whnf))
  apply Exists.intro
  apply And.intro
  ·conv => whnf
   exact oD
  conv => whnf
  (refine dS ?_; (conv => whnf))
  apply Exists.intro
  apply And.intro
  ·conv => whnf
   exact oD
  conv => whnf
  (refine dS ?_; (conv => whnf))
  apply Exists.intro
  apply And.intro
  ·conv => whnf
   exact oD
  conv => whnf
  apply Exists.intro
  apply And.intro
  ·conv => whnf
   ((conv in (_[_]?) => tactic => exact (z.look4 14 H)); (conv => whnf))
   exact ⟨rfl, set_last H _ _, trivial⟩
  conv => whnf
  refine ⟨15, by decide, ⟨rfl, rfl, rfl, rfl, trivial⟩, ?_, by decide⟩
  subst hz hkk
  rfl
 | 15, _ =>
  conv => whnf
  refine ⟨fun _ => ?_, fun h => absurd (show ((15 : Nat) : Int) < 16 by decide) h⟩
  conv => whnf
  refine ⟨⟨by decide, by decide⟩, ?_⟩
  conv => whnf
  generalize hz : wN kk 15 = z
  refine drawK_of2 D298_4 [H ++ [z.O4 15], H ++ [S4.O4 { z with d := orB z.d kf 24 } 16]] (by kernel_rfl) rfl trivial ?_
  conv => whnf
  (refine dS ?_; (conv => whnf))
  apply Exists.intro
  apply And.intro
  ·conv => whnf
   exact oD
  conv => whnf
  apply Exists.intro
  apply And.intro
  ·conv => whnf
   exact oD
  conv => whnf
  apply Exists.intro
  apply And.intro
  ·conv => whnf
   ((conv in (_[_]?) => tactic => exact (z.look4 15 H)); (conv => whnf))
   exact ⟨rfl, rfl, trivial⟩
  conv => whnf
  iterate 3 (refine dS ?_; (conv => whnf))
  apply Exists.intro
  apply And.intro
  ·conv => whnf
   exact oD
  conv => whnf
  (refine dS ?_; (conv => whnf))
  apply Exists.intro
  apply And.intro
  ·conv => whnf
   exact oD
  conv => whnf
  (refine dS ?_; (conv => whnf))
  apply Exists.intro
  apply And.intro
  ·conv => whnf
   exact oD
  conv => whnf
  apply Exists.intro
  apply And.intro
  ·conv => whnf
   ((conv in (_[_]?) => tactic => exact (z.look4 15 H)); (conv => whnf))
   exact ⟨rfl, set_last H _ _, trivial⟩
  conv => whnf
  refine ⟨16, by decide, ⟨rfl, rfl, rfl, rfl, trivial⟩, ?_, by decide⟩
  subst hz hkk
  rfl
 | 16, _ =>
  conv => whnf
  refine ⟨fun h => absurd h (by decide), fun _ => ?_⟩
  conv => whnf
  refine drawK_pure2 (by kernel_rfl) ?_
  conv => whnf
  apply Exists.intro
  apply And.intro
  ·conv => whnf
   exact ⟨by decide, rfl, rfl, trivial⟩
  conv => whnf
  apply Exists.intro
  apply And.intro
  ·conv => whnf
   ((conv in (_[_]?) => tactic => exact ((wN kk 16).look4 16 H)); (conv => whnf))
   exact ⟨rfl, rfl, trivial⟩
  conv => whnf
  apply Exists.intro
  apply And.intro
  ·conv => whnf
   refine ⟨by decide, fun _ => ?_, fun h => absurd (show (1 : Int) < 4 by decide) h⟩
   conv => whnf
   exact ⟨rfl, rfl, trivial⟩
  conv => whnf
  iterate 2 (refine dS ?_; (conv => whnf))
  subst hkk
  refine loopK_of MkS (fun x => [(0, .ptr (some (kid, 0))), (5, .int .u32 (spN [k0, k1, k2, k3, k4, k5, k6, k7, k8, k9, ka, kb, kc, kd, ke, kf] x.i).a), (6, .sref x.lid x.off 3 x.cap), (33, .int .i64 x.i)]) (fun x => x.K) (fun x => MkOk [k0, k1, k2, k3, k4, k5, k6, k7, k8, k9, ka, kb, kc, kd, ke, kf] d m s md l kid H x) (fun x => 27 - x.i)
   ⟨⟨0, v, H.length, 1, 3, (wN [k0, k1, k2, k3, k4, k5, k6, k7, k8, k9, ka, kb, kc, kd, ke, kf] 16).O4 16, H ++ [(wN [k0, k1, k2, k3, k4, k5, k6, k7, k8, k9, ka, kb, kc, kd, ke, kf] 16).O4 16]⟩, ⟨Nat.zero_le _, by rw [List.getElem?_append_left hlt]; exact hid, by show H.length ≠ kid; omega, Nat.le_refl _, get_last H _, rfl, by show 1 + 3 ≤ 4; omega, by show 3 ≤ 3; omega, by simp, fun j hj _ => List.getElem?_append_left hj⟩, ⟨rfl, rfl, rfl, rfl, trivial⟩, rfl⟩ ?_
  rintro x hx
  obtain ⟨i, kv, lid, off, cap, ob, K⟩ := x
  have hx : MkOk [k0, k1, k2, k3, k4, k5, k6, k7, k8, k9, ka, kb, kc, kd, ke, kf] d m s md l kid H ⟨i, kv, lid, off, cap, ob, K⟩ := hx
  have hi : i ≤ 27 := hx.i
  have hKk : K[kid]? = some (keyO [k0, k1, k2, k3, k4, k5, k6, k7, k8, k9, ka, kb, kc, kd, ke, kf] d m s (spL [k0, k1, k2, k3, k4, k5, k6, k7, k8, k9, ka, kb, kc, kd, ke, kf] l i) md kv) := hx.key
  conv => whnf
  refine ⟨fun h => ?_, fun h => ?_⟩
  ·have h : (i : Int) < 27 := h
   have hspl : (spL [k0, k1, k2, k3, k4, k5, k6, k7, k8, k9, ka, kb, kc, kd, ke, kf] l i).length = 27 := by rw [spL_len _ _ _ hl hi]
   conv => whnf
   refine ⟨⟨by omega, h⟩, ?_⟩
   conv => whnf
   ((conv in (_[_]?) => tactic => exact hKk); (conv => whnf))
   ((conv in (Nat.ble _ _) => tactic => exact (show Nat.ble (0 + 19 + (i : Int).toNat * 1 + 1) (([k0, k1, k2, k3, k4, k5, k6, k7, k8, k9, ka, kb, kc, kd, ke, kf].map byteC ++ [PV.int .u32 d, PV.int .i32 m, PV.int .u32 s]) ++ (spL [k0, k1, k2, k3, k4, k5, k6, k7, k8, k9, ka, kb, kc, kd, ke, kf] l i).map u32C ++ [PV.int .u32 md]).length = true by rw [Nat.ble_eq]; simp [hspl]; omega)); (conv => whnf))
   generalize hg : setH kid _ _ _ = K1
   have hK1 : K1 = K.set kid (keyO [k0, k1, k2, k3, k4, k5, k6, k7, k8, k9, ka, kb, kc, kd, ke, kf] d m s (spL [k0, k1, k2, k3, k4, k5, k6, k7, k8, k9, ka, kb, kc, kd, ke, kf] l (i + 1)) md (kv + 1)) := by
    rw [← hg]
    show K.set kid ⟨301, setCells (0 + 19 + (i : Int).toNat * 1) [u32C (spN [k0, k1, k2, k3, k4, k5, k6, k7, k8, k9, ka, kb, kc, kd, ke, kf] i).a] (([k0, k1, k2, k3, k4, k5, k6, k7, k8, k9, ka, kb, kc, kd, ke, kf].map byteC ++ [PV.int .u32 d, PV.int .i32 m, PV.int .u32 s]) ++ (spL [k0, k1, k2, k3, k4, k5, k6, k7, k8, k9, ka, kb, kc, kd, ke, kf] l i).map u32C ++ [PV.int .u32 md]), kv + 1⟩ = _
    rw [setCells_mid _ _ _ i _ _ (by omega) (by simp), spL_set _ _ _ hl (by omega)]
    rfl
   have h1 : K1[lid]? = some ob := by rw [hK1, List.getElem?_set_ne (Ne.symm hx.ne)]; exact hx.lst
   have hk1 : K1[kid]? = some (keyO [k0, k1, k2, k3, k4, k5, k6, k7, k8, k9, ka, kb, kc, kd, ke, kf] d m s (spL [k0, k1, k2, k3, k4, k5, k6, k7, k8, k9, ka, kb, kc, kd, ke, kf] l (i + 1)) md (kv + 1)) := by rw [hK1]; exact get_set hKk
   have hl1 : K1.length = K.length := by rw [hK1, List.length_set]
   have ht : (ob.cs.drop off).take 3 = [u32C (spN [k0, k1, k2, k3, k4, k5, k6, k7, k8, k9, ka, kb, kc, kd, ke, kf] i).b, u32C (spN [k0, k1, k2, k3, k4, k5, k6, k7, k8, k9, ka, kb, kc, kd, ke, kf] i).c, u32C (spN [k0, k1, k2, k3, k4, k5, k6, k7, k8, k9, ka, kb, kc, kd, ke, kf] i).d] := hx.three
   have ht2 : ob.cs.drop off = u32C (spN [k0, k1, k2, k3, k4, k5, k6, k7, k8, k9, ka, kb, kc, kd, ke, kf] i).b :: u32C (spN [k0, k1, k2, k3, k4, k5, k6, k7, k8, k9, ka, kb, kc, kd, ke, kf] i).c :: u32C (spN [k0, k1, k2, k3, k4, k5, k6, k7, k8, k9, ka, kb, kc, kd, ke, kf] i).d :: (ob.cs.drop off).drop 3 := by
    conv => lhs; rw [← List.take_append_drop 3 (ob.cs.drop off), ht]
    rfl
   clear hg
   conv => whnf
   refine ⟨⟨by decide, by show (0 : Int) < ((3 : Nat) : Int); decide⟩, ?_⟩
   conv => whnf
   ((conv in (_[_]?) => tactic => exact h1); (conv => whnf))
   ((conv in (dropN _ _) => tactic => exact ((dropN_eq _ _).trans ht2)); (conv => whnf))
   refine callK_pure (c283 _ _) ?_
   conv => whnf
   refine callK_pure (c283 _ _) ?_
   conv => whnf
   refine ⟨⟨by decide, by show (1 : Int) ≤ ((3 : Nat) : Int); decide, by show ((3 : Nat) : Int) ≤ ((3 : Nat) : Int); decide⟩, fun _ => ?_, fun h => absurd (show (1 : Int) < ((3 : Nat) : Int) by decide) h⟩
   conv => whnf
   ((conv in (_[_]?) => tactic => exact h1); (conv => whnf))
   have hr1 : off + cap ≤ ob.cs.length := hx.room
   have hr2 : 3 ≤ cap := hx.cap
   have hlid : H.length ≤ lid := hx.new
   have hlen : H.length ≤ K.length := hx.len
   refine ⟨⟨by decide, rfl, rfl, by show off + 1 + 2 ≤ ob.cs.length; omega⟩, fun h4 => ?_, fun h4 cap' hc => ?_⟩
   ·have h4 : 3 ≤ cap - 1 := h4
    refine ⟨by show off + 1 + 3 ≤ ob.cs.length; omega, ?_⟩
    conv => whnf
    refine ⟨⟨i + 1, kv + 1, lid, off + 1, cap - 1, ⟨ob.T, setCells (off + 1 + 2) [u32C (spN [k0, k1, k2, k3, k4, k5, k6, k7, k8, k9, ka, kb, kc, kd, ke, kf] (i + 1)).d] ob.cs, ob.ver + 1⟩, K1.set lid ⟨ob.T, setCells (off + 1 + 2) [u32C (spN [k0, k1, k2, k3, k4, k5, k6, k7, k8, k9, ka, kb, kc, kd, ke, kf] (i + 1)).d] ob.cs, ob.ver + 1⟩⟩, ⟨by show i + 1 ≤ 27; omega, by rw [List.getElem?_set_ne hx.ne]; exact hk1, hx.ne, hx.new, get_set h1, slide ob.cs off _ _ _ _ ht2 (by omega) _, ?_, by show 3 ≤ cap - 1; omega, by show H.length ≤ (K1.set lid _).length; rw [List.length_set]; omega, fun j hj hjk => ?_⟩, ⟨rfl, rfl, rfl, ?_, trivial⟩, rfl, by show 27 - (i + 1) < 27 - i; omega⟩
    ·show off + 1 + (cap - 1) ≤ (setCells _ _ _).length
     rw [setCells_len _ _ _ (by show off + 1 + 2 + 1 ≤ _; omega)]; omega
    ·rw [List.getElem?_set_ne (by omega), hK1, List.getElem?_set_ne (Ne.symm hjk)]
     exact hx.fr j hj hjk
    ·show PV.int _ (IntKind.i64.wrap ((i : Int) + 1)) = PV.int _ _
     rw [wrap64 (by omega) (by omega)]; simp
   ·have hc : 3 ≤ cap' := hc
    conv => whnf
    have ht3 : ob.cs.drop (off + 1) = u32C (spN [k0, k1, k2, k3, k4, k5, k6, k7, k8, k9, ka, kb, kc, kd, ke, kf] i).c :: u32C (spN [k0, k1, k2, k3, k4, k5, k6, k7, k8, k9, ka, kb, kc, kd, ke, kf] i).d :: (ob.cs.drop off).drop 3 := by
     rw [← List.drop_drop, ht2]; rfl
    have hcell : ((ob.cs.drop (off + 1)).take 2).map dem = [u32C (spN [k0, k1, k2, k3, k4, k5, k6, k7, k8, k9, ka, kb, kc, kd, ke, kf] i).c, u32C (spN [k0, k1, k2, k3, k4, k5, k6, k7, k8, k9, ka, kb, kc, kd, ke, kf] i).d] := by rw [ht3]; rfl
    refine ⟨⟨i + 1, kv + 1, K1.length, 0, cap', ⟨226, ((ob.cs.drop (off + 1)).take 2).map dem ++ [u32C (spN [k0, k1, k2, k3, k4, k5, k6, k7, k8, k9, ka, kb, kc, kd, ke, kf] (i + 1)).d] ++ zerosOf [PV.int .u32 0] (cap' - 3), 0⟩, K1 ++ [⟨226, ((ob.cs.drop (off + 1)).take 2).map dem ++ [u32C (spN [k0, k1, k2, k3, k4, k5, k6, k7, k8, k9, ka, kb, kc, kd, ke, kf] (i + 1)).d] ++ zerosOf [PV.int .u32 0] (cap' - 3), 0⟩]⟩, ⟨by show i + 1 ≤ 27; omega, by rw [List.getElem?_append_left (List.getElem?_eq_some_iff.1 hk1).1]; exact hk1, by show K1.length ≠ kid; omega, by show H.length ≤ K1.length; omega, get_last K1 _, ?_, ?_, hc, by show H.length ≤ (K1 ++ [_]).length; rw [List.length_append]; omega, fun j hj hjk => ?_⟩, ⟨rfl, rfl, rfl, ?_, trivial⟩, rfl, by show 27 - (i + 1) < 27 - i; omega⟩
    ·rw [hcell]; rfl
    ·show 0 + cap' ≤ (((ob.cs.drop (off + 1)).take 2).map dem ++ [u32C (spN [k0, k1, k2, k3, k4, k5, k6, k7, k8, k9, ka, kb, kc, kd, ke, kf] (i + 1)).d] ++ zerosOf [PV.int .u32 0] (cap' - 3)).length
     rw [hcell, List.length_append, (zerosOf_get (z := [PV.int .u32 0]) (sz := 1) rfl (by omega) (cap' - 3)).1]
     show 0 + cap' ≤ 3 + (cap' - 3) * 1
     omega
    ·rw [List.getElem?_append_left (by omega), hK1, List.getElem?_set_ne (Ne.symm hjk)]
     exact hx.fr j hj hjk
    ·show PV.int _ (IntKind.i64.wrap ((i : Int) + 1)) = PV.int _ _
     rw [wrap64 (by omega) (by omega)]; simp
  ·have h : ¬ (i : Int) < 27 := h
   have e : i = 27 := by omega
   subst e
   have hspl : spL [k0, k1, k2, k3, k4, k5, k6, k7, k8, k9, ka, kb, kc, kd, ke, kf] l 27 = spW [k0, k1, k2, k3, k4, k5, k6, k7, k8, k9, ka, kb, kc, kd, ke, kf] := by
    unfold spL spW
    rw [List.drop_of_length_le (by omega), List.append_nil]
   rw [hspl] at hKk
   conv => whnf
   refine callK_of (c310 (o := keyO [k0, k1, k2, k3, k4, k5, k6, k7, k8, k9, ka, kb, kc, kd, ke, kf] d m s (spW [k0, k1, k2, k3, k4, k5, k6, k7, k8, k9, ka, kb, kc, kd, ke, kf]) md kv) (n := md) hKk rfl) ?_
   rintro _ _ ⟨rfl, rfl⟩
   conv => whnf
   exact ⟨rfl, K, kv, hKk, hx.len, hx.fr, rfl⟩
 | j + 17, hj => exact absurd hj (by omega)
set_option maxHeartbeats 1000000
theorem keyO_flat (k : List UInt8) (d m s : Int) (l : List Int) (md : Int) (v : Nat) : ∀ c ∈ (keyO k d m s l md v).cs, flatP c = true := by
 intro c hc
 simp only [keyO, List.mem_append, List.mem_map, List.mem_cons, List.not_mem_nil, or_false] at hc
 rcases hc with ((⟨b, _, rfl⟩ | rfl | rfl | rfl) | ⟨x, _, rfl⟩) | rfl <;> rfl
theorem split_set {H K : PH} {kid : Nat} {o : PObj} (hlt : kid < H.length) (hl : H.length ≤ K.length) (hf : ∀ j, j < H.length → j ≠ kid → K[j]? = H[j]?) : K.set kid o = H.set kid o ++ K.drop H.length := by
 apply List.ext_getElem?
 intro j
 by_cases h : j < H.length
 ·rw [List.getElem?_append_left (by rw [List.length_set]; exact h)]
  by_cases e : j = kid
  ·subst e
   rw [List.getElem?_set_self (by omega), List.getElem?_set_self h]
  ·rw [List.getElem?_set_ne (Ne.symm e), List.getElem?_set_ne (Ne.symm e)]
   exact hf j h e
 ·rw [List.getElem?_append_right (by rw [List.length_set]; omega), List.length_set, List.getElem?_drop, List.getElem?_set_ne (by omega)]
  congr 1; omega
theorem c298 (k : List UInt8) (hk : k.length = 16) (d m s md : Int) (l : List Int) (hl : l.length = 27) (v kid : Nat) (H : PH) (hid : H[kid]? = some (keyO k d m s l md v)) :
  CallOk prog 298 [.ptr (some (kid, 0))] H fun r H' => r = .tup [] ∧ ∃ v', H' = H.set kid (keyO k d m s (spW k) 1 v') := by
 have hlt : kid < H.length := (List.getElem?_eq_some_iff.1 hid).1
 refine CallOk.gcK (c298x k hk d m s md l hl v kid H hid) fun r H' hh => ?_
 obtain ⟨rfl, K, kv, h1, h2, h3, rfl⟩ := hh
 exact ⟨rfl, H.set kid (keyO k d m s (spW k) 1 (kv + 1)), _, split_set hlt h2 h3, kept_set hlt fun c hc => .inl (keyO_flat _ _ _ _ _ _ _ c hc), rfl, _, rfl⟩
def WordsOk : Prop := ∀ (k : List UInt8) (hk : k.length = 16) (kid : Nat) (H : PH), (∃ v, H[kid]? = some (keyO k 0 0 0 (List.replicate 27 0) 0 v)) ∨ (∃ v, H[kid]? = some (keyO k 1 0 0 (spW k) 1 v)) →
 CallOk prog 282 [.ptr (some (kid, 0))] H fun r H' => r = .sref kid 19 27 27 ∧ ∃ v', H' = H.set kid (keyO k 1 0 0 (spW k) 1 v')
def spR (w : Int) (p : Int × Int) : Int × Int := (xor32 (add32 (rot32 p.1 (-8)) p.2) w, xor32 (rot32 p.2 3) (xor32 (add32 (rot32 p.1 (-8)) p.2) w))
def spB (ws : List Int) (p : Int × Int) : Int × Int := ws.foldl (fun p w => spR w p) p
theorem spB_snoc (ws : List Int) (w : Int) (p : Int × Int) : spB (ws ++ [w]) p = spR w (spB ws p) := by unfold spB; rw [List.foldl_append]; rfl
theorem spW_len (k : List UInt8) : (spW k).length = 27 := by unfold spW; simp
theorem c257 (hw : WordsOk) (k : List UInt8) (hk : k.length = 16) (kid : Nat) (H : PH) (h0 : (∃ v, H[kid]? = some (keyO k 0 0 0 (List.replicate 27 0) 0 v)) ∨ (∃ v, H[kid]? = some (keyO k 1 0 0 (spW k) 1 v))) (x y : Int) :
  CallOk prog 257 [.ptr (some (kid, 0)), .int .u32 x, .int .u32 y] H fun r H' => r = .tup [.int .u32 (spB (spW k) (x, y)).1, .int .u32 (spB (spW k) (x, y)).2] ∧ ∃ v', H' = H.set kid (keyO k 1 0 0 (spW k) 1 v') := by
 have hlt : kid < H.length := by
  rcases h0 with ⟨v, h⟩ | ⟨v, h⟩ <;> exact (List.getElem?_eq_some_iff.1 h).1
 (refine fnS (imm := imm257) ttO_ok func257 ?_; (conv => whnf))
 refine callK_of (hw k hk kid H h0) ?_
 rintro _ _ ⟨rfl, v', rfl⟩
 have hK : (H.set kid (keyO k 1 0 0 (spW k) 1 v'))[kid]? = some (keyO k 1 0 0 (spW k) 1 v') := List.getElem?_set_self hlt
 generalize hKK : H.set kid (keyO k 1 0 0 (spW k) 1 v') = K at hK
 conv => whnf
 refine loopK_of Nat (fun i => [(13, .sref kid 19 27 27), (14, .int .i64 27), (15, .int .i64 i), (1, .int .u32 (spB ((spW k).take i) (x, y)).1), (2, .int .u32 (spB ((spW k).take i) (x, y)).2)]) (fun _ => K) (fun i => i ≤ 27) (fun i => 27 - i) ⟨0, Nat.zero_le _, ⟨rfl, rfl, rfl, rfl, rfl, trivial⟩, rfl⟩ ?_
 intro i hi
 conv => whnf
 refine ⟨fun h => ?_, fun h => ?_⟩
 ·have h : (i : Int) < 27 := h
  have hi' : i < (spW k).length := by rw [spW_len]; omega
  conv => whnf
  refine ⟨⟨by omega, by show (i : Int) < ((27 : Nat) : Int); exact h⟩, ?_⟩
  conv => whnf
  ((conv in (_[_]?) => tactic => exact hK); (conv => whnf))
  have hd : dropN (19 + (i : Int).toNat * 1) (keyO k 1 0 0 (spW k) 1 v').cs = u32C (spW k)[i] :: (((spW k).drop (i + 1)).map u32C ++ [u32C 1]) := by
   rw [dropN_eq]
   show ((k.map byteC ++ [PV.int .u32 1, PV.int .i32 0, PV.int .u32 0]) ++ (spW k).map u32C ++ [PV.int .u32 1]).drop _ = _
   have e : 19 + (i : Int).toNat * 1 = (k.map byteC ++ [PV.int .u32 1, PV.int .i32 0, PV.int .u32 0]).length + i := by simp [hk]
   rw [e, List.append_assoc, List.drop_length_add_append, List.drop_append_of_le_length (by rw [List.length_map]; omega), ← List.map_drop, List.drop_eq_getElem_cons hi']
   rfl
  ((conv in (dropN _ _) => tactic => exact hd); (conv => whnf))
  refine callK_pure (c283 _ _) ?_
  conv => whnf
  refine callK_pure (c283 _ _) ?_
  conv => whnf
  have et : spB ((spW k).take (i + 1)) (x, y) = spR (spW k)[i] (spB ((spW k).take i) (x, y)) := by rw [List.take_succ_eq_append_getElem hi', spB_snoc]
  refine ⟨i + 1, by omega, ⟨rfl, rfl, ?_, ?_, ?_, trivial⟩, rfl, by omega⟩
  ·show PV.int _ (IntKind.i64.wrap ((i : Int) + 1)) = PV.int _ _
   rw [wrap64 (by omega) (by omega)]; simp
  ·rw [et]; rfl
  ·rw [et]; rfl
 ·have h : ¬ (i : Int) < 27 := h
  have e : (spW k).take i = spW k := List.take_of_length_le (by rw [spW_len]; omega)
  rw [e]
  conv => whnf
  exact ⟨rfl, v', hKK.symm⟩
def KeySt (k : List UInt8) (o : PObj) : Prop := (∃ v, o = keyO k 0 0 0 (List.replicate 27 0) 0 v) ∨ (∃ v, o = keyO k 1 0 0 (spW k) 1 v)
theorem KeySt.flat {k : List UInt8} {o : PObj} (h : KeySt k o) : o.cs.all flatP = true := by
 rcases h with ⟨v, rfl⟩ | ⟨v, rfl⟩ <;> exact List.all_eq_true.2 fun c hc => keyO_flat _ _ _ _ _ _ _ c hc
def le4 (w : Int) : List UInt8 := [byteI w, byteI (ishr .u32 w 8), byteI (ishr .u32 w 16), byteI (ishr .u32 w 24)]
def blkP (k : List UInt8) (nn : Int) (i : Nat) : Int × Int := spB (spW k) (IntKind.u32.wrap (ishr .u64 nn 32), add32 (IntKind.u32.wrap nn) i)
def strN (k : List UInt8) (nn : Int) : Nat → List UInt8
 | 0 => []
 | i + 1 => strN k nn i ++ (le4 (blkP k nn i).1 ++ le4 (blkP k nn i).2)
theorem strN_len (k : List UInt8) (nn : Int) : ∀ i, (strN k nn i).length = 8 * i
 | 0 => rfl
 | i + 1 => by
  show (strN k nn i ++ (le4 _ ++ le4 _)).length = _
  rw [List.length_append, strN_len k nn i]
  show 8 * i + 8 = _
  omega
def streamV (k : List UInt8) (nn : Int) (n : Nat) : List UInt8 := (strN k nn ((n + 7) / 8)).take n
theorem streamV_len (k : List UInt8) (nn : Int) (n : Nat) : (streamV k nn n).length = n := by
 unfold streamV
 rw [List.length_take, strN_len]; omega
theorem le4_cells (w : Int) : [PV.int .u8 (IntKind.u8.wrap w), .int .u8 (IntKind.u8.wrap (ishr .u32 w 8)), .int .u8 (IntKind.u8.wrap (ishr .u32 w 16)), .int .u8 (IntKind.u8.wrap (ishr .u32 w 24))] = (le4 w).map byteC := by
 rw [byteC_I, byteC_I, byteC_I, byteC_I]; rfl
theorem ow_app' (a b : List UInt8) {n : Nat} (hn : n = b.length) : PV.slice (a.length + n) (a.map byteC ++ b.map byteC) (some 5) = ow (a ++ b) := by subst hn; exact ow_app a b
structure StS where
 i : Nat
 o : PObj
theorem wrap32 {n : Nat} (h : n < 4294967296) : IntKind.u32.wrap (n : Int) = (n : Int) := by
 show (n : Int) % _ = _
 have : (2 ^ IntKind.u32.bits : Int) = 4294967296 := by decide
 rw [this]; omega
set_option maxHeartbeats 1600000
open Go
theorem mDisable (w : World) : (callFunc 322 #[]).run prog w = .ok (.value (.tuple #[])) w := run_call_mark0 func322 (by kernel_rfl) (by kernel_rfl) (by kernel_rfl) .disable (by kernel_rfl) w
theorem mEnable (w : World) : (callFunc 324 #[]).run prog w = .ok (.value (.tuple #[])) w := run_call_mark0 func324 (by kernel_rfl) (by kernel_rfl) (by kernel_rfl) .enable (by kernel_rfl) w
theorem mAcquire (a : Addr) (w : World) : (callFunc 325 #[.pointer (some a)]).run prog w = .ok (.value (.tuple #[])) w := run_call_marked func325 (by kernel_rfl) (by kernel_rfl) (by kernel_rfl) .acquire (by kernel_rfl) a w
theorem mRelease (a : Addr) (w : World) : (callFunc 327 #[.pointer (some a)]).run prog w = .ok (.value (.tuple #[])) w := run_call_marked func327 (by kernel_rfl) (by kernel_rfl) (by kernel_rfl) .releaseMerge (by kernel_rfl) a w
theorem lock_free (a : Addr) (w : World) (hc : w.cell? a = some (.int .i32 0)) (hz : w.frozen? a = false) :
  Calls prog 314 #[.pointer (some a)] w fun e w' => e = .returned (.tuple #[]) ∧ w' = w.setCell a (.int .i32 1) := by
 have hd := mDisable
 have he := mEnable
 have ha := mAcquire
 have hcas := run_call_cas_hit (P := prog) func323 (by kernel_rfl) (by kernel_rfl) (by kernel_rfl) .i32 (by kernel_rfl) (y := 1) hc hz
 have hc' : (w.setCell a (.int .i32 1)).cell? a = some (.int .i32 1) := World.cell?_setCell_same w a _ hc
 have hcv := run_convert_to_unsafe (P := prog) (src := 404) (dst := 388) underlying404 underlying388 (by kernel_rfl) hc'
 go_enter func314, ntmps314
 go_wp2
 first | go_end0 | (simp only [Exit.inBlock, Exit.then]; refine bodyPost_ret (results_none rfl _ _ _) rfl ?_) | refine bodyPost_ret (results_none rfl _ _ _) rfl ?_
 go_wp2
 go_end0
 exact ⟨rfl, rfl⟩
theorem unlock_deferred (a : Addr) (u : FrameMode) (w : World) (hc : w.cell? a = some (.int .i32 1)) (hz : w.frozen? a = false) :
  CallsD prog 315 #[.pointer (some a)] u w fun e u' w' => u' = u ∧ (e = .returned (.tuple #[]) ∧ w' = w.setCell a (.int .i32 0)) := by
 have hd := mDisable
 have he := mEnable
 have hr := mRelease
 have hadd := run_call_add (P := prog) func328 (by kernel_rfl) (by kernel_rfl) (by kernel_rfl) .i32 (by kernel_rfl) (y := -1) (s := 0) hc hz (by simp [go_sem]; rfl)
 have hcv := run_convert_to_unsafe (P := prog) (src := 404) (dst := 388) underlying404 underlying388 (by kernel_rfl) hc
 go_enter_d func315, ntmps315
 go_wp2
 go_end0
 go_wp2
 go_end0
 exact ⟨rfl, rfl⟩
end Go.Proofs.Tryz
/- Calls that were deferred; and a walk of the kit's over what the calculus knows. -/
namespace Ps
open Go
def CallDOk (P : Program) (f : Nat) (args : List PV) (H : PH) (Q : PV → PH → Prop) : Prop :=
 ∀ (g : Gh) (w : World) (vs : Array Value) (u : FrameMode), vs.size = args.length → Rel P g w (valOf vs) (args0 0 args) H →
  (callFunc f vs).run P w = .ok (.enter f vs) w ∧ CallsD P f vs u w fun e u' w' => u' = u ∧ ∃ v r H' g', e = .returned v ∧ Q r H' ∧ Rel P g' w' (one v) [(0, r)] H' ∧ Step g w H (cellOwn g w H) g' w' H' ∧
   (∀ i b, ownAt v r i b → w.heap.size ≤ b ∨ cellOwn g w H b) ∧ ∀ b, cellOwn g' w' H' b → w.heap.size ≤ b ∨ cellOwn g w H b
section
variable {P : Program} {tt : TT} {imm : List Nat}
theorem callDOk_of_pFun {f : Nat} {fn : Func} {args : List PV} {H : PH} {Q : PV → PH → Prop} (hm : P.follows .mixedOrders = true) (hT : ttOk P tt = true) (hd : 6 ≤ P.depth) (hf : P.funcs[f]? = some fn)
  (hname : (fn.name == "runtime.NumGoroutine") = false) (hp : pFun P tt imm fn args H Q) : CallDOk P f args H Q := by
 intro g w vs u hs hr
 unfold pFun at hp
 split at hp
 ·rename_i c hc
  split at hp
  ·rename_i hle
   have hle : args.length ≤ fn.ntmps := Nat.le_of_ble_eq_true hle
   refine ⟨run_callFunc_body hf hname (by rw [hc]; rfl), callsD_of_wp hf hc ?_⟩
   have hval : ∀ t, vals { tmps := vs ++ Array.replicate (fn.ntmps - vs.size) undef, defers := [] } t = valOf vs t := fun t => by
    simp only [vals, valOf, Array.getD_eq_getD_getElem?]
    rcases Nat.lt_or_ge t vs.size with h | h
    ·rw [Array.getElem?_append_left h]
    ·rw [Array.getElem?_append_right h, Array.getElem?_eq_none h, Array.getElem?_replicate]
     split <;> rfl
   have hV : ∀ t, V g w (valOf vs t) (Env.get (args0 0 (args.map dem)) t) := fun t => by
    have := (hr.e t).dem
    rw [args0_get] at this ⊢
    simp only [Nat.zero_le, if_true, Nat.sub_zero, List.getD_eq_getElem?_getD, List.getElem?_map] at this ⊢
    cases h : args[t]? with
    | none => exact .undef _
    | some p => rw [h] at this; exact this
   have hinv : Inv P g w H (cellOwn g w H) fn.ntmps g w { tmps := vs ++ Array.replicate (fn.ntmps - vs.size) undef, defers := [] } (args0 0 (args.map dem)) H := by
    have hrel : Rel P g w (valOf vs) (args0 0 (args.map dem)) H := ⟨hr.h, fun t => (hV t).vc, fun t i t' i' b h => absurd h (no_own (hV t) i b), fun t i b h => absurd h (no_own (hV t) i b), hr.cc⟩
    refine ⟨?_, by simp; omega, rfl, ⟨Same.refl _ _ _, rfl, rfl, rfl, Nat.le_refl _, Keeps.refl _ _, fun _ _ h => .inl h, fun b _ _ _ => ⟨rfl, fun o h => h⟩, fun _ h => h⟩, fun t i b h => ?_, fun b h => .inr h⟩
    ·rw [show vals { tmps := vs ++ Array.replicate (fn.ntmps - vs.size) undef, defers := [] } = valOf vs from funext hval]; exact hrel
    ·rw [hval] at h; exact absurd h (no_own (hV t) i b)
   refine pCode_sound hm hT hd c _ _ (fun e g' w' a E H' inv hk => ?_) _ _ _ _ _ hinv hp
   have fin : ∀ (hk : pRes tt H' fn.results.toList E fun vs => Q (tupOf vs) H'), a.defers = [] ∧ ∃ v, (results fn a.tmps).run P w' = .ok v w' ∧
     ∃ v' r H2 g2, Ending.returned v = .returned v' ∧ Q r H2 ∧ Rel P g2 w' (one v') [(0, r)] H2 ∧ Step g w H (cellOwn g w H) g2 w' H2 ∧ (∀ i b, ownAt v' r i b → w.heap.size ≤ b ∨ cellOwn g w H b) ∧
      ∀ b, cellOwn g2 w' H2 b → w.heap.size ≤ b ∨ cellOwn g w H b := fun hk => by
    obtain ⟨us, ps, h1, h2, h3, h4, h5, h6⟩ := pRes_sound hT fn.results.toList E _ inv hk
    obtain ⟨j1, j2⟩ := res_VC h3 h4
    refine ⟨inv.defers, valRes us, results_eq fn a h1, _, tupOf ps, H', g', rfl, h2, ⟨inv.rel.h, fun t => ?_, fun t i t' i' b ho ho' => ?_, fun t i b ho => ?_, inv.rel.cc⟩, inv.step, fun i b ho => ?_, inv.cown⟩
    ·rw [Env.get_cons]
     unfold one
     by_cases e : t = 0
     ·rw [if_pos e, if_pos e.symm]; exact j1
     ·rw [if_neg e, if_neg (Ne.symm e)]; exact (V.undef _).vc
    ·rw [Env.get_cons] at ho ho'
     unfold one at ho ho'
     by_cases e : t = 0
     ·by_cases e' : t' = 0
      ·rw [if_pos e, if_pos e.symm] at ho
       rw [if_pos e', if_pos e'.symm] at ho'
       obtain ⟨c, u, y1, y2, y3, y4⟩ := j2 i b ho
       obtain ⟨c', u', z1, z2, z3, z4⟩ := j2 i' b ho'
       exact ⟨e.trans e'.symm, h6 i i' c c' u u' b y1 y2 y3 y4 z1 z2 z3 z4⟩
      ·rw [if_neg (Ne.symm e')] at ho'; cases ho'.2.1
     ·rw [if_neg (Ne.symm e)] at ho; cases ho.2.1
    ·rw [Env.get_cons] at ho
     unfold one at ho
     by_cases e : t = 0
     ·rw [if_pos e, if_pos e.symm] at ho
      obtain ⟨c, u, y1, y2, y3, y4⟩ := j2 i b ho
      obtain ⟨t', ht'⟩ := h5 i c u b y1 y2 y3 y4
      exact inv.rel.sc t' 0 b ht'
     ·rw [if_neg (Ne.symm e)] at ho; cases ho.2.1
    ·obtain ⟨c, u, y1, y2, y3, y4⟩ := j2 i b ho
     obtain ⟨t', ht'⟩ := h5 i c u b y1 y2 y3 y4
     exact inv.own t' 0 b ht'
   cases e with
   | normal => exact fin hk
   | ret => exact fin hk
   | exit i => exact hk.elim
  ·exact hp.elim
 ·exact hp.elim
end
theorem callDOk_of_pFun2 {P : Program} {tt : TT} {imm : List Nat} (hm : P.follows .mixedOrders = true) (hT : ttOk P tt = true) (hd : 6 ≤ P.depth) {f : Nat} {fn : Func} (hf : P.funcs[f]? = some fn)
  (hn : (fn.name == "runtime.NumGoroutine") = false) {args : List PV} {H : PH} {Q : PV → PH → Prop} (h : pFun2 P tt imm fn args H Q) : CallDOk P f args H Q :=
 callDOk_of_pFun hm hT hd hf hn (by rw [← pFunX.2]; exact h)
section
variable {P : Program}
def St (P : Program) (g0 : Gh) (w0 : World) (H0 : PH) (g : Gh) (w : World) (H : PH) : Prop := Inv P g0 w0 H0 (cellOwn g0 w0 H0) 0 g w { tmps := #[], defers := [] } [] H
theorem St.start {g : Gh} {w : World} {H : PH} {val : Nat → Value} {E : Env} (hr : Rel P g w val E H) : St P g w H g w H :=
 ⟨⟨hr.h, fun t => (V.undef _).vc, fun t i t' i' b h => (by cases h.2.1), fun t i b h => (by cases h.2.1), hr.cc⟩, rfl, rfl,
  ⟨Same.refl _ _ _, rfl, rfl, rfl, Nat.le_refl _, Keeps.refl _ _, fun _ _ h => .inl h, fun b _ _ _ => ⟨rfl, fun o h => h⟩, fun _ h => h⟩, fun t i b h => (by cases h.2.1), fun b h => .inr h⟩
theorem St.call {g0 g : Gh} {w0 w : World} {H0 H : PH} (h : St P g0 w0 H0 g w H) {f : Nat} {fn : Func} (hf : P.funcs[f]? = some fn) (hname : (fn.name == "runtime.NumGoroutine") = false) (hb : fn.body.isNone = false)
  {args : List PV} {Q : PV → PH → Prop} (hc : CallOk P f args H Q) {vs : Array Value} (hs : vs.size = args.length) (hv : ∀ (j : Nat) (c : PV), args[j]? = some c → V g w (vs.getD j undef) c) :
  Calls P f vs w fun e w' => ∃ v r H' g', e = .returned v ∧ Q r H' ∧ St P g0 w0 H0 g' w' H' ∧ Keeps g w g' w' ∧ VC P g' w' v r := by
 rcases hc g w vs hs (Rel.args h.rel.h h.rel.cc hs hv) with ⟨_, h2⟩ | ⟨v, w', h1, _⟩
 ·refine h2.mono ?_
  rintro e w' ⟨v, r, H', g', rfl, q, hr, hst, ho, hcc⟩
  obtain ⟨i1, i2, _⟩ := Inv.call h hr hst ho hcc
  exact ⟨v, r, H', g', rfl, q, i1, hst.keeps, i2⟩
 ·rw [run_callFunc_body hf hname hb] at h1
  cases h1
theorem St.callD {g0 g : Gh} {w0 w : World} {H0 H : PH} (h : St P g0 w0 H0 g w H) {f : Nat}
  {args : List PV} {Q : PV → PH → Prop} (hc : CallDOk P f args H Q) {vs : Array Value} (u : FrameMode) (hs : vs.size = args.length) (hv : ∀ (j : Nat) (c : PV), args[j]? = some c → V g w (vs.getD j undef) c) :
  (callFunc f vs).run P w = .ok (.enter f vs) w ∧ CallsD P f vs u w fun e u' w' => u' = u ∧ ∃ v r H' g', e = .returned v ∧ Q r H' ∧ St P g0 w0 H0 g' w' H' ∧ Keeps g w g' w' := by
 obtain ⟨h1, h2⟩ := hc g w vs u hs (Rel.args h.rel.h h.rel.cc hs hv)
 refine ⟨h1, h2.mono ?_⟩
 rintro e u' w' ⟨hu, v, r, H', g', rfl, q, hr, hst, ho, hcc⟩
 exact ⟨hu, v, r, H', g', rfl, q, (Inv.call h hr hst ho hcc).1, hst.keeps⟩
theorem St.fin {g0 g : Gh} {w0 w : World} {H0 H : PH} (h : St P g0 w0 H0 g w H) : Rel P g w (one (.tuple #[])) [(0, .tup [])] H ∧ Step g0 w0 H0 (cellOwn g0 w0 H0) g w H ∧
  (∀ i b, ownAt (.tuple #[]) (.tup []) i b → w0.heap.size ≤ b ∨ cellOwn g0 w0 H0 b) ∧ ∀ b, cellOwn g w H b → w0.heap.size ≤ b ∨ cellOwn g0 w0 H0 b := by
 refine ⟨⟨h.rel.h, fun t => ?_, fun t i t' i' b k => ?_, fun t i b k => ?_, h.rel.cc⟩, h.step, fun i b k => absurd k (unit_own i b), h.cown⟩
 ·rw [Env.get_cons]
  unfold one
  by_cases e : t = 0
  ·rw [if_pos e, if_pos e.symm]; exact unit_vc
  ·rw [if_neg e, if_neg (Ne.symm e)]; exact (V.undef _).vc
 ·rw [Env.get_cons] at k
  unfold one at k
  by_cases e : t = 0
  ·rw [if_pos e, if_pos e.symm] at k; exact absurd k (unit_own i b)
  ·rw [if_neg (Ne.symm e)] at k; cases k.2.1
 ·rw [Env.get_cons] at k
  unfold one at k
  by_cases e : t = 0
  ·rw [if_pos e, if_pos e.symm] at k; exact absurd k (unit_own i b)
  ·rw [if_neg (Ne.symm e)] at k; cases k.2.1
end
end Ps
set_option maxHeartbeats 3000000
namespace Go.Proofs.Tryz
open Go Ps
theorem c207D {H : PH} {id off : Nat} {o : PObj} {n : Int} (ho : H[id]? = some o) (hc : o.cs[off]? = some (.int .u32 n)) :
  CallDOk prog 310 [.ptr (some (id, off)), .bool true] H fun r H' => r = .tup [] ∧ H' = H.set id ⟨o.T, setCells off [.int .u32 1] o.cs, o.ver + 1⟩ := by
 refine callDOk_of_pFun2 (tt := ttO) (imm := imm310) follows ttO_ok depth6 func310 (by kernel_rfl) ?_
 conv => whnf
 refine drawK_of2 D310 [H, H.set id ⟨o.T, setCells off [.int .u32 1] o.cs, o.ver + 1⟩] (by kernel_rfl) rfl trivial ?_
 conv => whnf
 iterate 4 (refine dS ?_; (conv => whnf))
 refine ⟨_, callK_pure c317 ⟨rfl, rfl, trivial⟩, ?_⟩
 conv => whnf
 refine ⟨_, callK_of (c316 1 ho hc) (by rintro _ _ ⟨rfl, rfl⟩; exact ⟨rfl, rfl, trivial⟩), ?_⟩
 conv => whnf
 exact ⟨rfl, rfl⟩
theorem keyO_at (k : List UInt8) (hk : k.length = 16) (d m s : Int) (l : List Int) (md : Int) (v : Nat) : (keyO k d m s l md v).cs[16]? = some (.int .u32 d) ∧ (keyO k d m s l md v).cs[17]? = some (.int .i32 m) := by
 obtain ⟨k0, k1, k2, k3, k4, k5, k6, k7, k8, k9, ka, kb, kc, kd, ke, kf, rfl⟩ := len16 hk
 exact ⟨rfl, rfl⟩
theorem keyO_set16 (k : List UInt8) (hk : k.length = 16) (d m s : Int) (l : List Int) (md : Int) (v : Nat) (x : Int) : setCells 16 [.int .u32 x] (keyO k d m s l md v).cs = (keyO k x m s l md v).cs := by
 obtain ⟨k0, k1, k2, k3, k4, k5, k6, k7, k8, k9, ka, kb, kc, kd, ke, kf, rfl⟩ := len16 hk
 rfl
theorem keyO_set17 (k : List UInt8) (hk : k.length = 16) (d m s : Int) (l : List Int) (md : Int) (v : Nat) (x : Int) : setCells 17 [.int .i32 x] (keyO k d m s l md v).cs = (keyO k d x s l md v).cs := by
 obtain ⟨k0, k1, k2, k3, k4, k5, k6, k7, k8, k9, ka, kb, kc, kd, ke, kf, rfl⟩ := len16 hk
 rfl
theorem load_none (a : Addr) (w : World) (hc : w.cell? a = some (.int .u32 0)) :
  Calls prog 308 #[.pointer (some a)] w fun e w' => e = .returned (.bool false) ∧ w' = w := by
 have hl := run_call_load (P := prog) func313 (by kernel_rfl) (by kernel_rfl) (by kernel_rfl) .u32 (by kernel_rfl) (w := w) (a := a) (x := 0) hc
 go_enter func308, ntmps308
 go_wp2
 exact ⟨rfl, .bool false, by simp [results, f205, go_sem, Act.eval], rfl, rfl⟩
theorem c309 (k : List UInt8) (hk : k.length = 16) (kid v : Nat) (H : PH) (hid : H[kid]? = some (keyO k 0 0 0 (List.replicate 27 0) 0 v)) :
  CallOk prog 309 [.ptr (some (kid, 16)), .func 298 [.ptr (some (kid, 0))] []] H fun r H' => r = .tup [] ∧ ∃ v', H' = H.set kid (keyO k 1 0 0 (spW k) 1 v') := by
 intro g w vs hs hr
 obtain ⟨a, y, rfl, ha, hy⟩ := args2 hs hr.e
 obtain ⟨b, rfl, hι⟩ := (plain_of ha (by simp) (by simp)).inv_ptr
 obtain ⟨first, caps, rfl, e2, e3, e4, e5⟩ := (plain_of hy (by simp) (by simp)).inv_func
 have st0 := St.start hr
 obtain ⟨b1, q1, hd1, fd1, _⟩ := cell_at hr.h ha hid (keyO_at k hk 0 0 0 _ 0 v).1
 cases q1
 obtain ⟨b2, q2, hm1, fm1, hset1⟩ := cell_at hr.h ((V.ptr kid b 17 hι).vc) hid (keyO_at k hk 0 0 0 _ 0 v).2
 cases q2
 have st1 : St prog g w H g (w.setCell ⟨b, 17, none⟩ (.int .i32 1)) _ := hset1 1 _ _ _ st0
 rw [keyO_set17 k hk] at st1
 obtain ⟨p, rfl⟩ : ∃ p, first = #[p] := by
  match first, e2 with
  | ⟨[p]⟩, _ => exact ⟨p, rfl⟩
 obtain rfl : caps = #[] := Array.eq_empty_of_size_eq_zero e3
 have hp : V g w p (.ptr (some (kid, 0))) := e4 0 _ rfl
 obtain ⟨b3, rfl, hι3⟩ := hp.inv_ptr
 rw [hι] at hι3
 cases hι3
 refine .inl ⟨run_callFunc_body func309 (by kernel_rfl) (by kernel_rfl), ?_⟩
 have hd1' : (w.setCell ⟨b, 17, none⟩ (.int .i32 1)).cell? ⟨b, 16, none⟩ = some (.int .u32 0) := (World.cell?_setCell_other _ ⟨b, 17, none⟩ ⟨b, 16, none⟩ _ (by simp)).trans hd1
 have hid1 : (H.set kid ⟨(keyO k 0 0 0 (List.replicate 27 0) 0 v).T, (keyO k 0 1 0 (List.replicate 27 0) 0 v).cs, (keyO k 0 0 0 (List.replicate 27 0) 0 v).ver + 1⟩)[kid]? = some (keyO k 0 1 0 (List.replicate 27 0) 0 (v + 1)) := get_set hid
 have hmake := St.call st1 func298 (by kernel_rfl) (by kernel_rfl) (c298 k hk 0 1 0 0 (List.replicate 27 0) rfl (v + 1) kid _ hid1) (vs := #[.pointer (some ⟨b, 0, none⟩)]) rfl (fun j c hj => by
  match j, hj with
  | 0, hj => cases hj; exact .ptr kid b 0 hι
  | j + 1, hj => simp at hj)
 have hnot : ∀ (x : Bool) (w : World), (Op.unary .not (.bool x)).run prog w = .ok (.bool (!x)) w := fun _ _ => rfl
 go_enter_defers func309, ntmps309
 go_wp2_with (go_at_call 314; refine (lock_free ⟨b, 17, none⟩ _ hm1 fm1).mono ?_; rintro e w' ⟨rfl, rfl⟩)
 refine (load_none ⟨b, 16, none⟩ _ hd1').mono ?_
 rintro e w' ⟨rfl, rfl⟩
 go_wp2_with (go_at_call 298; refine hmake.mono ?_; rintro e w' ⟨v', r, H2, g2, rfl, ⟨rfl, v2, rfl⟩, st2, kp, hv2⟩)
 have hidk : ((H.set kid ⟨(keyO k 0 0 0 (List.replicate 27 0) 0 v).T, (keyO k 0 1 0 (List.replicate 27 0) 0 v).cs, (keyO k 0 0 0 (List.replicate 27 0) 0 v).ver + 1⟩).set kid (keyO k 0 1 0 (spW k) 1 v2))[kid]? = some (keyO k 0 1 0 (spW k) 1 v2) := get_set hid1
 have hι2 : g2.ι[kid]? = some (some b) := kp.ι kid b hι
 obtain ⟨hinv, hstore⟩ := St.callD st2 (c207D hidk (keyO_at k hk 0 1 0 (spW k) 1 v2).1) (vs := #[.pointer (some ⟨b, 16, none⟩), .bool true]) .returning rfl (fun j c hj => by
  match j, hj with
  | 0, hj => cases hj; exact .ptr kid b 16 hι2
  | 1, hj => cases hj; exact .bool true
  | j + 2, hj => simp at hj)
 show Leaves prog f309 _ _ _ .returning w'
 refine leaves_cons (f := 310) (args := #[.pointer (some ⟨b, 16, none⟩), .bool true]) (by simp) (by simp [invoke, hinv]) ?_
 refine hstore.mono ?_
 rintro e u' w3 ⟨rfl, v3, r3, H3, g3, rfl, ⟨rfl, rfl⟩, st3, kp3⟩
 rw [keyO_set16 k hk] at st3
 have hid3 := get_set (o' := ⟨(keyO k 0 1 0 (spW k) 1 v2).T, (keyO k 1 1 0 (spW k) 1 v2).cs, (keyO k 0 1 0 (spW k) 1 v2).ver + 1⟩) hidk
 have hι3 : g3.ι[kid]? = some (some b) := kp3.ι kid b hι2
 obtain ⟨b5, q5, hm3, fm3, hset3⟩ := cell_at st3.rel.h ((V.ptr kid b 17 hι3).vc) hid3 (keyO_at k hk 1 1 0 (spW k) 1 v2).2
 cases q5
 have st4 : St prog g w H g3 (w3.setCell ⟨b, 17, none⟩ (.int .i32 0)) _ := hset3 0 _ _ _ st3
 rw [show setCells 17 [PV.int .i32 0] (PObj.mk (keyO k 0 1 0 (spW k) 1 v2).T (keyO k 1 1 0 (spW k) 1 v2).cs ((keyO k 0 1 0 (spW k) 1 v2).ver + 1)).cs = (keyO k 1 0 0 (spW k) 1 v2).cs from keyO_set17 k hk 1 1 0 (spW k) 1 v2 0] at st4
 refine leaves_cons (f := 315) (args := #[.pointer (some ⟨b, 17, none⟩)]) (by simp [settle]) (by
  have := run_callFunc_body (P := prog) (vs := #[.pointer (some ⟨b, 17, none⟩)]) (w := w3) func315 (by kernel_rfl) (by kernel_rfl)
  simp [invoke, this]) ?_
 refine (unlock_deferred ⟨b, 17, none⟩ _ _ hm3 fm3).mono ?_
 rintro e u' w4 ⟨rfl, rfl, rfl⟩
 obtain ⟨f1, f2, f3, f4⟩ := st4.fin
 refine ⟨.tuple #[], results_none rfl _ _ _, .tuple #[], .tup [], _, g3, rfl, ⟨rfl, v2 + 1 + 1, ?_⟩, f1, f2, f3, f4⟩
 rw [List.set_set, List.set_set, List.set_set]
 rfl
set_option maxHeartbeats 1000000
theorem c313 {H : PH} {id off : Nat} {o : PObj} {n : Int} (ho : H[id]? = some o) (hc : o.cs[off]? = some (.int .u32 n)) :
  CallOk prog 313 [.ptr (some (id, off))] H fun r H' => r = .int .u32 n ∧ H' = H :=
 callOk_load func313 (by kernel_rfl) (by kernel_rfl) (by kernel_rfl) .u32 (by kernel_rfl) ho hc
theorem c308 {H : PH} {id off : Nat} {o : PObj} {n : Int} (ho : H[id]? = some o) (hc : o.cs[off]? = some (.int .u32 n)) :
  CallOk prog 308 [.ptr (some (id, off))] H fun r H' => r = .bool (!decide (n = 0)) ∧ H' = H := by
 (refine fnS (imm := imm308) ttO_ok func308 ?_; (conv => whnf))
 refine callK_of (c313 ho hc) ?_
 rintro _ _ ⟨rfl, rfl⟩
 conv => whnf
 refine ⟨fun h => ?_, fun h => ?_⟩
 ·conv => whnf
  have h : n = 0 := h
  exact ⟨congrArg PV.bool (by rw [decide_eq_true h]; rfl), rfl⟩
 ·conv => whnf
  have h : ¬ n = 0 := h
  exact ⟨congrArg PV.bool (by rw [decide_eq_false h]; rfl), rfl⟩
theorem c297a (k : List UInt8) (hk : k.length = 16) (kid v : Nat) (H : PH) (hid : H[kid]? = some (keyO k 0 0 0 (List.replicate 27 0) 0 v)) :
  CallOk prog 297 [.ptr (some (kid, 16)), .func 298 [.ptr (some (kid, 0))] []] H fun r H' => r = .tup [] ∧ ∃ v', H' = H.set kid (keyO k 1 0 0 (spW k) 1 v') := by
 (refine fnS (imm := imm297) ttO_ok func297 ?_; (conv => whnf))
 refine callK_of (c308 hid (keyO_at k hk 0 0 0 _ 0 v).1) ?_
 rintro _ _ ⟨rfl, rfl⟩
 conv => whnf
 refine callK_of (c309 k hk kid v _ hid) ?_
 rintro _ _ ⟨rfl, v', rfl⟩
 conv => whnf
 exact ⟨rfl, v', rfl⟩
theorem c297b (k : List UInt8) (hk : k.length = 16) (kid v : Nat) (H : PH) (hid : H[kid]? = some (keyO k 1 0 0 (spW k) 1 v)) :
  CallOk prog 297 [.ptr (some (kid, 16)), .func 298 [.ptr (some (kid, 0))] []] H fun r H' => r = .tup [] ∧ ∃ v', H' = H.set kid (keyO k 1 0 0 (spW k) 1 v') := by
 (refine fnS (imm := imm297) ttO_ok func297 ?_; (conv => whnf))
 refine callK_of (c308 hid (keyO_at k hk 1 0 0 _ 1 v).1) ?_
 rintro _ _ ⟨rfl, rfl⟩
 conv => whnf
 exact ⟨rfl, v, (set_self hid).symm⟩
theorem wordsOk : WordsOk := by
 intro k hk kid H h0
 have hlt : kid < H.length := by
  rcases h0 with ⟨v, h⟩ | ⟨v, h⟩ <;> exact (List.getElem?_eq_some_iff.1 h).1
 have hc : CallOk prog 297 [.ptr (some (kid, 16)), .func 298 [.ptr (some (kid, 0))] []] H fun r H' => r = .tup [] ∧ ∃ v', H' = H.set kid (keyO k 1 0 0 (spW k) 1 v') := by
  rcases h0 with ⟨v, h⟩ | ⟨v, h⟩
  ·exact c297a k hk kid v H h
  ·exact c297b k hk kid v H h
 (refine fnS (imm := imm282) ttO_ok func282 ?_; (conv => whnf))
 refine callK_of hc ?_
 rintro _ _ ⟨rfl, v', rfl⟩
 conv => whnf
 refine ⟨by decide, fun _ => ?_, fun h => absurd (show (0 : Int) < ((27 : Nat) : Int) by decide) h⟩
 conv => whnf
 exact ⟨rfl, v', rfl⟩
set_option maxHeartbeats 2000000
theorem byte_int (a b : UInt8) : ((a.toNat : Int) = (b.toNat : Int)) ↔ a = b := by
 constructor
 ·intro h
  have : a.toNat = b.toNat := by omega
  exact UInt8.toNat_inj.1 this
 ·rintro rfl; rfl
set_option maxHeartbeats 4000000
set_option maxHeartbeats 2000000
theorem oldPs_bytesY (l : List UInt8) : oldPs (l.map byteC) = true := by
 induction l with
 | nil => rfl
 | cons x l ih => simp [oldPs, oldP, byteC, ih]
set_option maxHeartbeats 1000000
/-! How the heap goes on while boxes seal and open. -/
theorem byteC_inj {a b : UInt8} (h : byteC a = byteC b) : a = b := by
 have h : PV.int .u8 (a.toNat : Int) = PV.int .u8 (b.toNat : Int) := h
 injection h with _ h
 exact (byte_int a b).1 h
theorem map_byteC_inj : ∀ {a b : List UInt8}, a.map byteC = b.map byteC → a = b
 | [], [], _ => rfl
 | [], _ :: _, h => by simp at h
 | _ :: _, [], h => by simp at h
 | x :: a, y :: b, h => by
  rw [List.map_cons, List.map_cons] at h
  injection h with h1 h2
  rw [byteC_inj h1, map_byteC_inj h2]
theorem keyO_take {k : List UInt8} (hk : k.length = 16) (d m s : Int) (l : List Int) (md : Int) (v : Nat) : (keyO k d m s l md v).cs.take 16 = k.map byteC := by
 show List.take 16 ((k.map byteC ++ [.int .u32 d, .int .i32 m, .int .u32 s]) ++ l.map u32C ++ [.int .u32 md]) = _
 rw [List.append_assoc, List.append_assoc, List.take_append_of_le_length (by simp [hk]), List.take_of_length_le (by simp [hk])]
theorem KeySt.take {k : List UInt8} {o : PObj} (h : KeySt k o) (hk : k.length = 16) : o.cs.take 16 = k.map byteC := by
 rcases h with ⟨v, rfl⟩ | ⟨v, rfl⟩
 ·exact keyO_take hk ..
 ·exact keyO_take hk ..
def keyT : Nat := (keyO [] 0 0 0 [] 0 0).T
def boxT : Nat := (boxS 0 [] 0 0 0 0).T
theorem KeySt.T {k : List UInt8} {o : PObj} (h : KeySt k o) : o.T = keyT := by rcases h with ⟨v, rfl⟩ | ⟨v, rfl⟩ <;> rfl
theorem key_box : keyT ≠ boxT := by decide
theorem boxS_inj {sid sid' : Nat} {sp sp' : List UInt8} {s o r s' o' r' : Int} {v v' : Nat} (h : boxS sid sp s o r v = boxS sid' sp' s' o' r' v') : sid = sid' ∧ sp = sp' := by
 have h : [PV.ptr (some (sid, 0))] ++ sp.map byteC ++ [.int .i64 s, .int .i64 o, .int .i64 r] = [PV.ptr (some (sid', 0))] ++ sp'.map byteC ++ [.int .i64 s', .int .i64 o', .int .i64 r'] := congrArg PObj.cs h
 have h1 := (List.append_inj' h rfl).1
 have h2 : PV.ptr (some (sid, 0)) :: sp.map byteC = PV.ptr (some (sid', 0)) :: sp'.map byteC := h1
 injection h2 with h3 h4
 injection h3 with h3
 injection h3 with h3
 injection h3 with h3 _
 exact ⟨h3, map_byteC_inj h4⟩
def BoxAt (H : PH) (bid : Nat) (key : List UInt8) : Prop := key.length = 32 ∧ ∃ sid s o r v so, H[bid]? = some (boxS sid (key.drop 16) s o r v) ∧ H[sid]? = some so ∧ KeySt (key.take 16) so
structure Evo (S : Nat → Prop) (H H' : PH) : Prop where
 len : H.length ≤ H'.length
 box : ∀ bid key, BoxAt H bid key → BoxAt H' bid key
 same : ∀ (id : Nat) (o : PObj), H[id]? = some o → ¬ S id → o.T ≠ keyT → o.T ≠ boxT → H'[id]? = some o
theorem Evo.refl {S : Nat → Prop} (H : PH) : Evo S H H := ⟨Nat.le_refl _, fun _ _ h => h, fun _ _ h _ _ _ => h⟩
theorem Evo.trans {S : Nat → Prop} {H H1 H2 : PH} (h : Evo S H H1) (k : Evo S H1 H2) : Evo S H H2 :=
 ⟨Nat.le_trans h.len k.len, fun b key hb => k.box b key (h.box b key hb), fun id o ho hs h1 h2 => k.same id o (h.same id o ho hs h1 h2) hs h1 h2⟩
theorem Evo.mono {S S' : Nat → Prop} {H H' : PH} (h : Evo S H H') (hs : ∀ id, S id → S' id) : Evo S' H H' := ⟨h.len, h.box, fun id o ho hn => h.same id o ho fun hh => hn (hs id hh)⟩
theorem Evo.app {S : Nat → Prop} (H l : PH) : Evo S H (H ++ l) :=
 have g : ∀ (id : Nat) (o : PObj), H[id]? = some o → (H ++ l)[id]? = some o := fun id o h => by rw [List.getElem?_append_left (List.getElem?_eq_some_iff.1 h).1]; exact h
 ⟨by simp, fun b key ⟨hk, sid, s, o, r, v, so, h1, h2, h3⟩ => ⟨hk, sid, s, o, r, v, so, g _ _ h1, g _ _ h2, h3⟩, fun id o h _ _ _ => g id o h⟩
theorem Evo.setBox {S : Nat → Prop} {H : PH} {bid sid : Nat} {sp : List UInt8} {s o r : Int} {v : Nat} (h : H[bid]? = some (boxS sid sp s o r v)) (s' o' r' : Int) (v' : Nat) : Evo S H (H.set bid (boxS sid sp s' o' r' v')) := by
 refine ⟨by simp, fun b key ⟨hk, sid2, s2, o2, r2, v2, so, h1, h2, h3⟩ => ?_, fun id x hx _ _ hb => ?_⟩
 ·have hne : bid ≠ sid2 := fun e => by
   subst e
   rw [h] at h2; cases h2
   exact key_box h3.T.symm
  by_cases e : bid = b
  ·subst e
   rw [h] at h1
   obtain ⟨rfl, rfl⟩ := boxS_inj (Option.some.inj h1)
   exact ⟨hk, sid, s', o', r', v', so, get_set h, by rw [List.getElem?_set_ne hne]; exact h2, h3⟩
  ·exact ⟨hk, sid2, s2, o2, r2, v2, so, by rw [List.getElem?_set_ne e]; exact h1, by rw [List.getElem?_set_ne hne]; exact h2, h3⟩
 ·have e : bid ≠ id := fun e => by
   subst e
   rw [h] at hx; cases hx
   exact hb rfl
  rw [List.getElem?_set_ne e]; exact hx
theorem Evo.setKey {S : Nat → Prop} {H : PH} {sid : Nat} {k : List UInt8} {so so' : PObj} (h : H[sid]? = some so) (hk : k.length = 16) (h1 : KeySt k so) (h2 : KeySt k so') : Evo S H (H.set sid so') := by
 refine ⟨by simp, fun b key ⟨hkl, sid2, s2, o2, r2, v2, so2, g1, g2, g3⟩ => ?_, fun id x hx _ hb _ => ?_⟩
 ·have hne : sid ≠ b := fun e => by
   subst e
   rw [h] at g1; cases g1
   exact key_box h1.T.symm
  by_cases e : sid = sid2
  ·subst e
   rw [h] at g2; cases g2
   have e2 : k = key.take 16 := map_byteC_inj ((h1.take hk).symm.trans (g3.take (by simp [hkl])))
   subst e2
   exact ⟨hkl, sid, s2, o2, r2, v2, so', by rw [List.getElem?_set_ne hne]; exact g1, get_set h, h2⟩
  ·exact ⟨hkl, sid2, s2, o2, r2, v2, so2, by rw [List.getElem?_set_ne hne]; exact g1, by rw [List.getElem?_set_ne e]; exact g2, g3⟩
 ·have e : sid ≠ id := fun e => by
   subst e
   rw [h] at hx; cases hx
   exact hb h1.T
  rw [List.getElem?_set_ne e]; exact hx
theorem Evo.setOther {S : Nat → Prop} {H : PH} {id : Nat} {o o' : PObj} (h : H[id]? = some o) (hs : S id) (h1 : o.T ≠ keyT) (h2 : o.T ≠ boxT) : Evo S H (H.set id o') := by
 refine ⟨by simp, fun b key ⟨hkl, sid2, s2, o2, r2, v2, so2, g1, g2, g3⟩ => ?_, fun id2 x hx hn _ _ => ?_⟩
 ·have e1 : id ≠ b := fun e => by
   subst e
   rw [h] at g1; cases g1
   exact h2 rfl
  have e2 : id ≠ sid2 := fun e => by
   subst e
   rw [h] at g2; cases g2
   exact h1 g3.T
  exact ⟨hkl, sid2, s2, o2, r2, v2, so2, by rw [List.getElem?_set_ne e1]; exact g1, by rw [List.getElem?_set_ne e2]; exact g2, g3⟩
 ·have e : id ≠ id2 := fun e => hn (e ▸ hs)
  rw [List.getElem?_set_ne e]; exact hx
/-! What is sealed, and opened. -/
def sealK (key : List UInt8) (u n : Int) (p : List UInt8) : List UInt8 := sealV (key.drop 16) u (IntKind.u64.wrap n) p (streamV (key.take 16) (mixN (IntKind.u64.wrap n) u) p.length)
theorem speck_key (k : List UInt8) : KeySt k (speckO k) := by
 refine .inl ⟨0, ?_⟩
 show PObj.mk _ (k.map byteC ++ ([.int .u32 0, .int .i32 0] ++ List.replicate 29 (.int .u32 0))) 0 = PObj.mk _ ((k.map byteC ++ [.int .u32 0, .int .i32 0, .int .u32 0]) ++ (List.replicate 27 (0 : Int)).map u32C ++ [.int .u32 0]) 0
 rw [List.append_assoc, List.append_assoc]
 rfl
theorem ringT (l : List Ent) (v : Nat) : (ringO l v).T ≠ keyT ∧ (ringO l v).T ≠ boxT := ⟨fun h => absurd (show (ringO [] 0).T = keyT from h) (by decide), fun h => absurd (show (ringO [] 0).T = boxT from h) (by decide)⟩
structure Adds (H : PH) (rid : Nat) (l : List Ent) (r n key : List UInt8) (H' : PH) : Prop where
 ex : ∃ (e : Ent) (v' : Nat), e.r = r ∧ e.n = n ∧ e.kv = nextKv (lastE (isP r n) l) ∧ e.key = key ∧ H'[rid]? = some (ringO (l ++ [e]) v') ∧ BoxAt H' e.box key
 evo : Evo (· = rid) H H'
def addB (l : List Ent) (r n : List UInt8) : Bool := isPrincB r n && !decide (40 ≤ l.length ∨ 255 < nextKv (lastE (isP r n) l))
structure RingAt (H : PH) (rid : Nat) (l : List Ent) : Prop where
 ex : ∃ v, H[rid]? = some (ringO l v)
 box : ∀ e ∈ l, BoxAt H e.box e.key
theorem RingAt.klen {H : PH} {rid : Nat} {l : List Ent} (h : RingAt H rid l) : ∀ e ∈ l, e.key.length = 32 := fun e he => (h.box e he).1
theorem RingAt.evo {S : Nat → Prop} {H H' : PH} {rid : Nat} {l : List Ent} (h : RingAt H rid l) (k : Evo S H H') (hs : ¬ S rid) : RingAt H' rid l := by
 obtain ⟨⟨v, h1⟩, h2⟩ := h
 exact ⟨⟨v, k.same _ _ h1 hs (ringT _ _).1 (ringT _ _).2⟩, fun e he => k.box _ _ (h2 e he)⟩
theorem RingAt.add {H H' : PH} {rid : Nat} {l : List Ent} {r n key : List UInt8} (h : RingAt H rid l) (k : Adds H rid l r n key H') : ∃ e, e.r = r ∧ e.n = n ∧ e.kv = nextKv (lastE (isP r n) l) ∧ e.key = key ∧ RingAt H' rid (l ++ [e]) := by
 obtain ⟨⟨e, v', h1, h2, h3, h4, h5, h6⟩, h7⟩ := k
 refine ⟨e, h1, h2, h3, h4, ⟨v', h5⟩, fun x hx => ?_⟩
 rcases List.mem_append.1 hx with hx | hx
 ·exact h7.box _ _ (h.box x hx)
 ·have : x = e := by simpa using hx
  subst this
  rw [h4]; exact h6
theorem lastE_mem {f : Ent → Bool} {l : List Ent} {e : Ent} (h : lastE f l = some e) : e ∈ l := List.mem_reverse.1 (List.mem_of_find?_eq_some h)
theorem lastGet {H : PH} {rid : Nat} {l : List Ent} (h : RingAt H rid l) (hl : l.length ≤ 1000) (r n : List UInt8) :
  CallOk prog 49 [.ptr (some (rid, 0)), .agg [.str r, .str n]] H fun x H' => x = lastR (lastE (isP r n) l) ∧ H' = H := by
 obtain ⟨v, hv⟩ := h.ex
 exact c49 hv hl h.klen r n
theorem newRing {H : PH} : RingAt (H ++ [ringO [] 0]) H.length [] := ⟨⟨0, by simp⟩, fun e he => by cases he⟩
theorem partL_784 {p : Prt} (h : isPartB p = true) : (partL p).length ≤ 784 := by
 have h0 := part_len p
 unfold isPartB at h
 simp only [Bool.and_eq_true] at h
 have gp := princ_len h.1.1
 have gt := isText_len h.1.2
 have g_st := inZ_le h.2.1
 have g_en := inZ_le h.2.2
 omega
theorem rptL_784 {p : Rpt} (h : isRptB p = true) : (rptL p).length ≤ 784 := by
 have h0 := rpt_len p
 unfold isRptB at h
 simp only [Bool.and_eq_true] at h
 have gp := princ_len h.1.1
 have g_st := inZ_le h.1.2.1
 have g_en := inZ_le h.1.2.2
 have g_nc := inZ_le h.2
 omega
structure RepO where
 cr : List UInt8
 cn : List UInt8
 sr : List UInt8
 sn : List UInt8
 kv : Int
 tb : List UInt8
 bl : List UInt8
def RepO.cells (r : RepO) : List PV := [.str r.cr, .str r.cn, .str r.sr, .str r.sn, .int .i64 r.kv, sl r.tb, sl r.bl]
def repZ : RepO := ⟨[], [], [], [], 0, [], []⟩
def rptOf (p : Prt) (sr sn : List UInt8) (nonce : Int) : Rpt := ⟨p.k, sr, sn, p.st, p.en, nonce⟩
def makeV (l : List Ent) (n : Int) (sr sn : List UInt8) (p : Prt) (nonce : Int) (bkey : List UInt8) (u : Int) : RepO × Int := match lastE (isP sr sn) l with
 | none => (repZ, 4)
 | some e => match isPartB p && isRptB (rptOf p sr sn nonce) with
  | true => (⟨p.r, p.n, sr, sn, e.kv, sealK e.key 2 (n + 1) (partL p), sealK bkey u (n + 2) (rptL (rptOf p sr sn nonce))⟩, 0)
  | false => (repZ, 2)
structure AsQ where
 cr : List UInt8
 cn : List UInt8
 sr : List UInt8
 sn : List UInt8
 till : Int
 nonce : Int
def AsQ.cells (q : AsQ) : List PV := [.str q.cr, .str q.cn, .str q.sr, .str q.sn, .int .i64 q.till, .int .i64 q.nonce]
def AsQ.ok (q : AsQ) : Bool := isPrincB q.cr q.cn && isPrincB q.sr q.sn && inZ q.till 0 1073741824 && inZ q.nonce 0 1073741824
def lateB (now : Int) : Bool := decide (now < 0) || decide (1073741824 < now)
def krb (r : List UInt8) : List UInt8 := krbB ++ r
def asPart (q : AsQ) (now : Int) (draw : Nat → UInt8) : Prt := ⟨q.cr, q.cn, draw, [], now, min q.till (now + 1000)⟩
def asV (realm : List UInt8) (l : List Ent) (n : Int) (q : AsQ) (now : Int) (draw : Nat → UInt8) : RepO × Int := match lateB now || !q.ok with
 | true => (repZ, 1)
 | false => match lastE (isP q.cr q.cn) l with
  | none => (repZ, 5)
  | some c => match decide (q.cr = realm) with
   | false => (repZ, 5)
   | true => match lastE (isP q.sr q.sn) l with
    | none => (repZ, 6)
    | some s => match decide (q.sr = realm ∧ q.sn = krb realm) with
     | false => (repZ, 6)
     | true => match decide (q.till < now) with
      | true => (repZ, 7)
      | false => makeV l n q.sr q.sn (asPart q now draw) q.nonce c.key 3
set_option maxHeartbeats 2000000
def ttXr : TT := [(3, ⟨.int .i64, 1, 8, [.int .i64 0]⟩), (4, ⟨.bool, 1, 1, [.bool false]⟩), (5, ⟨.int .u8, 1, 1, [.int .u8 0]⟩), (9, ⟨.str, 1, 16, [.str []]⟩), (25, ⟨.strct [(9, 0), (9, 1)], 2, 32, [.str [], .str []]⟩), (43, ⟨.arr 32 5, 32, 32, List.replicate 32 (.int .u8 0)⟩), (77, ⟨.fn, 1, 8, [.nilF]⟩), (93, ⟨.ptr, 1, 8, [.ptr none]⟩), (113, ⟨.slice 210, 1, 24, [.slice 0 [] (some 210)]⟩), (115, ⟨.strct [(113, 0)], 1, 24, [.slice 0 [] (some 210)]⟩), (86, ⟨.fn, 1, 8, [.nilF]⟩), (210, ⟨.strct [(25, 0), (3, 2), (43, 3)], 35, 72, [.str [], .str [], .int .i64 0] ++ List.replicate 32 (.int .u8 0)⟩)]
theorem ttXr_ok : ttOk prog ttXr = true := by kernel_rfl
def imm99 : List Nat := [3]
def imm45 : List Nat := [4, 5]
def Ent.xcells (e : Ent) : List PV := [.str e.r, .str e.n, .int .i64 e.kv] ++ e.key.map byteC
def xringO (l : List Ent) (v : Nat) : PObj := ⟨115, [.slice l.length (l.flatMap Ent.xcells) (some 210)], v⟩
theorem xcells_len {e : Ent} (h : e.key.length = 32) : e.xcells.length = 35 := by simp [Ent.xcells, h]
theorem xflat_at {l : List Ent} (hk : ∀ e ∈ l, e.key.length = 32) {i : Nat} (hi : i < l.length) (j : Nat) (c : PV) (h : l[i].xcells[j]? = some c) : (l.flatMap Ent.xcells)[i * 35 + j]? = some c := by
 induction l generalizing i with
 | nil => simp at hi
 | cons e l ih =>
  rw [List.flatMap_cons]
  have he := xcells_len (hk e List.mem_cons_self)
  cases i with
  | zero =>
   have hj : j < e.xcells.length := (List.getElem?_eq_some_iff.1 h).1
   rw [Nat.zero_mul, Nat.zero_add, List.getElem?_append_left hj]; exact h
  | succ i =>
   rw [List.getElem?_append_right (by omega), show (i + 1) * 35 + j - e.xcells.length = i * 35 + j by omega]
   exact ih (fun e he => hk e (List.mem_cons_of_mem _ he)) (by simpa using hi) h
theorem fitXr (a b : List UInt8) : FitP ttXr 6 25 [.str a, .str b] := ⟨rfl, ⟨by show 1 ≤ 2; omega, a, rfl⟩, rfl, ⟨by show 1 ≤ 1; omega, b, rfl⟩, rfl⟩
theorem pair_eq {a b c d : List UInt8} : ([PV.str a, PV.str b] = [PV.str c, PV.str d]) ↔ (a = c ∧ b = d) := by
 constructor
 ·intro h
  injection h with h1 h2
  injection h1 with h1
  injection h2 with h2 _
  injection h2 with h2
  exact ⟨h1, h2⟩
 ·rintro ⟨rfl, rfl⟩; rfl
theorem lastE_take (f : Ent → Bool) (l : List Ent) {m : Nat} (hm : m < l.length) : lastE f (l.take (m + 1)) = if f l[m] then some l[m] else lastE f (l.take m) := by
 rw [List.take_succ_eq_append_getElem hm]; exact lastE_snoc f _ _
def kvOf : Option Ent → Nat
 | none => 0
 | some e => e.kv
theorem c99 {H : PH} {rid v : Nat} {l : List Ent} (hid : H[rid]? = some (xringO l v)) (hl : l.length ≤ 1000) (hk : ∀ e ∈ l, e.key.length = 32) (r n : List UInt8) :
  CallOk prog 99 [.ptr (some (rid, 0)), .agg [.str r, .str n]] H fun x H' => x = .int .i64 (kvOf (lastE (isP r n) l)) ∧ H' = H := by
 (refine fnS (imm := imm99) ttXr_ok func99 ?_; (conv => whnf))
 refine loopK_of FiS (fun x => [(0, .ptr (some (rid, 0))), (3, .elem [.str r, .str n]), (5, .int .i64 (kvOf (lastE (isP r n) (l.take x.k)))), (6, .int .i64 x.k)]) (fun _ => H) (fun x => x.k ≤ l.length) (fun x => l.length - x.k)
  ⟨⟨0⟩, Nat.zero_le _, ⟨rfl, rfl, rfl, rfl, trivial⟩, rfl⟩ ?_
 rintro ⟨k⟩ hkl
 replace hkl : k ≤ l.length := hkl
 conv => whnf
 ((conv in (_[_]?) => tactic => exact hid); (conv => whnf))
 refine ⟨fun h => ?_, fun h => ?_⟩
 ·have h : (k : Int) < l.length := h
  have hi : k < l.length := by omega
  have hkey := hk _ (List.getElem_mem hi)
  have hlast := lastE_take (isP r n) l hi
  have hat := fun j c hj => xflat_at hk hi j c hj
  generalize l[k] = e at hkey hlast hat
  obtain ⟨er, en, kv, key, box⟩ := e
  match key, hkey with
  | [a0, a1, a2, a3, a4, a5, a6, a7, a8, a9, a10, a11, a12, a13, a14, a15, b0, b1, b2, b3, b4, b5, b6, b7, b8, b9, b10, b11, b12, b13, b14, b15], _ =>
   conv => whnf
   refine drawK_pure2 (by kernel_rfl) ?_
   conv => whnf
   iterate 3 (refine dS ?_; (conv => whnf))
   apply Exists.intro
   apply And.intro
   ·conv => whnf
    ((conv in (_[_]?) => tactic => exact hid); (conv => whnf))
    exact ⟨rfl, rfl, trivial⟩
   conv => whnf
   (refine dS ?_; (conv => whnf))
   refine ⟨.elem (Ent.mk er en kv [a0, a1, a2, a3, a4, a5, a6, a7, a8, a9, a10, a11, a12, a13, a14, a15, b0, b1, b2, b3, b4, b5, b6, b7, b8, b9, b10, b11, b12, b13, b14, b15] box).xcells, ⟨⟨by omega, h⟩, (Ent.mk er en kv [a0, a1, a2, a3, a4, a5, a6, a7, a8, a9, a10, a11, a12, a13, a14, a15, b0, b1, b2, b3, b4, b5, b6, b7, b8, b9, b10, b11, b12, b13, b14, b15] box).xcells, hat, rfl, rfl, trivial⟩, ?_⟩
   conv => whnf
   iterate 3 (refine dS ?_; (conv => whnf))
   by_cases hp : er = r ∧ en = n
   ·have hpt : isP r n ⟨er, en, kv, [a0, a1, a2, a3, a4, a5, a6, a7, a8, a9, a10, a11, a12, a13, a14, a15, b0, b1, b2, b3, b4, b5, b6, b7, b8, b9, b10, b11, b12, b13, b14, b15], box⟩ = true := decide_eq_true hp
    rw [if_pos hpt] at hlast
    refine ⟨.bool true, ?_, ?_⟩
    ·conv => whnf
     refine ⟨⟨fitXr _ _, fitXr _ _⟩, ?_⟩
     conv => whnf
     exact ⟨fun _ => ⟨rfl, rfl, trivial⟩, fun h => absurd (pair_eq.2 hp) h⟩
    conv => whnf
    ((conv in (_[_]?) => tactic => exact hid); (conv => whnf))
    refine ⟨⟨by omega, h⟩, (Ent.mk er en kv [a0, a1, a2, a3, a4, a5, a6, a7, a8, a9, a10, a11, a12, a13, a14, a15, b0, b1, b2, b3, b4, b5, b6, b7, b8, b9, b10, b11, b12, b13, b14, b15] box).xcells, hat, ?_⟩
    conv => whnf
    refine ⟨⟨k + 1⟩, by show k + 1 ≤ l.length; omega, ⟨rfl, rfl, ?_, ?_, trivial⟩, rfl, by show l.length - (k + 1) < l.length - k; omega⟩
    ·show PV.int .i64 kv = _
     rw [hlast]; rfl
    ·show PV.int _ (IntKind.i64.wrap ((k : Int) + 1)) = PV.int _ _
     rw [wrap64 (by omega) (by omega)]; simp
   ·have hpt : ¬ isP r n ⟨er, en, kv, [a0, a1, a2, a3, a4, a5, a6, a7, a8, a9, a10, a11, a12, a13, a14, a15, b0, b1, b2, b3, b4, b5, b6, b7, b8, b9, b10, b11, b12, b13, b14, b15], box⟩ = true := by
     unfold isP
     rw [decide_eq_false hp]; exact Bool.false_ne_true
    rw [if_neg hpt] at hlast
    refine ⟨.bool false, ?_, ?_⟩
    ·conv => whnf
     refine ⟨⟨fitXr _ _, fitXr _ _⟩, ?_⟩
     conv => whnf
     exact ⟨fun h => absurd (pair_eq.1 h) hp, fun _ => ⟨rfl, rfl, trivial⟩⟩
    conv => whnf
    refine ⟨⟨k + 1⟩, by show k + 1 ≤ l.length; omega, ⟨rfl, rfl, ?_, ?_, trivial⟩, rfl, by show l.length - (k + 1) < l.length - k; omega⟩
    ·rw [hlast]; rfl
    ·show PV.int _ (IntKind.i64.wrap ((k : Int) + 1)) = PV.int _ _
     rw [wrap64 (by omega) (by omega)]; simp
 ·have h : ¬ (k : Int) < l.length := h
  have e : l.take k = l := List.take_of_length_le (by omega)
  rw [e]
  conv => whnf
  exact ⟨rfl, rfl⟩
def xaddH (H : PH) (rid v : Nat) (l : List Ent) (e : Ent) : PH := match addB l e.r e.n with
 | true => H.set rid (xringO (l ++ [e]) (v + 2))
 | false => H
def D45 (rid : Nat) : Draw := { cons := [(14, [36])], imp := [11, 14], win := [(0, 0, 1), (12, 1, 1), (13, 1, 1), (14, 1, 1)], fs := [(4, 11, .cell rid 0)] }
theorem c45 {H : PH} {rid v : Nat} {l : List Ent} (hid : H[rid]? = some (xringO l v)) (hl : l.length ≤ 1000) (hk : ∀ e ∈ l, e.key.length = 32 ∧ e.kv ≤ 1000) (e : Ent) (hkey : e.key.length = 32) (hkv : e.kv = nextKv (lastE (isP e.r e.n) l))
  (hr : e.r.length ≤ 1099511627775) (hn : e.n.length ≤ 1099511627775) :
  CallOk prog 45 [.ptr (some (rid, 0)), .agg [.str e.r, .str e.n], .agg (e.key.map byteC)] H fun x H' => x = addR l e.r e.n ∧ H' = xaddH H rid v l e := by
 have hkvB : kvOf (lastE (isP e.r e.n) l) ≤ 1000 := by
  cases he : lastE (isP e.r e.n) l with
  | none => exact Nat.zero_le _
  | some x => exact (hk x (lastE_mem he)).2
 have hN : nextKv (lastE (isP e.r e.n) l) = kvOf (lastE (isP e.r e.n) l) + 1 := by cases lastE (isP e.r e.n) l <;> rfl
 unfold addR xaddH addB
 generalize hL : kvOf (lastE (isP e.r e.n) l) = N at hkvB hN
 rw [hN] at hkv ⊢
 obtain ⟨r, n, kv, key, box⟩ := e
 replace hkv : kv = N + 1 := hkv
 match key, hkey with
 | [a0, a1, a2, a3, a4, a5, a6, a7, a8, a9, a10, a11, a12, a13, a14, a15, b0, b1, b2, b3, b4, b5, b6, b7, b8, b9, b10, b11, b12, b13, b14, b15], hkey =>
  (refine fnS (imm := imm45) ttXr_ok func45 ?_; (conv => whnf))
  refine callK_pure (c32 r n hr hn) ?_
  cases hp : isPrincB r n
  ·conv => whnf
   exact ⟨rfl, rfl⟩
  ·conv => whnf
   refine callK_of (c99 hid hl (fun e he => (hk e he).1) r n) ?_
   rintro x H' ⟨hx, hH⟩
   rw [hx, hH]; clear hx hH
   rw [hL]
   conv => whnf
   ((conv in (_[_]?) => tactic => exact hid); (conv => whnf))
   refine ⟨fun h40 => ?_, fun h40 => ?_⟩
   ·have h40 : (l.length : Int) ≥ 40 := h40
    have hc : 40 ≤ l.length ∨ 255 < N + 1 := by omega
    simp only [if_pos hc, decide_eq_true hc]
    conv => whnf
    exact ⟨rfl, rfl⟩
   have h40 : ¬ (l.length : Int) ≥ 40 := h40
   conv => whnf
   refine ⟨fun h255 => ?_, fun h255 => ?_⟩
   ·have h255 : (N : Int) ≥ 255 := h255
    have hc : 40 ≤ l.length ∨ 255 < N + 1 := by omega
    simp only [if_pos hc, decide_eq_true hc]
    conv => whnf
    exact ⟨rfl, rfl⟩
   have h255 : ¬ (N : Int) ≥ 255 := h255
   have hc : ¬ (40 ≤ l.length ∨ 255 < N + 1) := by omega
   simp only [if_neg hc, decide_eq_false hc]
   conv => whnf
   have h2 : (H.set rid ⟨115, [.slice l.length (l.flatMap Ent.xcells) none], v + 1⟩)[rid]? = some ⟨115, [.slice l.length (l.flatMap Ent.xcells) none], v + 1⟩ := get_set hid
   refine drawK_of2 (D45 rid) [H, H.set rid ⟨115, [.slice l.length (l.flatMap Ent.xcells) none], v + 1⟩, H.set rid (xringO (l ++ [⟨r, n, kv, [a0, a1, a2, a3, a4, a5, a6, a7, a8, a9, a10, a11, a12, a13, a14, a15, b0, b1, b2, b3, b4, b5, b6, b7, b8, b9, b10, b11, b12, b13, b14, b15], box⟩]) (v + 2))] (by kernel_rfl) rfl ?_ ?_
   ·refine ⟨fun k h3 h4 => ?_, trivial⟩
    exact absurd h4 (by show ¬ k < 0; omega)
   conv => whnf
   (refine dS2 ?_; (conv => whnf))
   iterate 3 (refine dS ?_; (conv => whnf))
   apply Exists.intro
   apply And.intro
   ·conv => whnf
    ((conv in (_[_]?) => tactic => exact hid); (conv => whnf))
    exact ⟨rfl, rfl, rfl, trivial⟩
   conv => whnf
   iterate 6 (refine dS ?_; (conv => whnf))
   apply Exists.intro
   apply And.intro
   ·conv => whnf
    ((conv in (_[_]?) => tactic => exact hid); (conv => whnf))
    refine ⟨⟨by show (l.length + 1) * 72 ≤ _; omega, rfl, rfl⟩, ?_⟩
    conv => whnf
    exact ⟨rfl, rfl, trivial⟩
   conv => whnf
   iterate 2 (refine dS ?_; (conv => whnf))
   have hw : IntKind.i64.wrap ((N : Int) + 1) = (kv : Int) := by rw [wrap64 (by omega) (by omega), hkv]; rfl
   apply Exists.intro
   apply And.intro
   ·conv => whnf
    ((conv in (_[_]?) => tactic => exact h2); (conv => whnf))
    refine ⟨rfl, ?_, trivial⟩
    show (List.set H rid ⟨115, [.slice l.length (l.flatMap Ent.xcells) none], v + 1⟩).set rid ⟨115, [PV.slice (l.length + 1) (l.flatMap Ent.xcells ++ ([.str r, .str n, .int .i64 (IntKind.i64.wrap ((N : Int) + 1))] ++ [a0, a1, a2, a3, a4, a5, a6, a7, a8, a9, a10, a11, a12, a13, a14, a15, b0, b1, b2, b3, b4, b5, b6, b7, b8, b9, b10, b11, b12, b13, b14, b15].map byteC)) (some 210)], v + 1 + 1⟩ = List.set H rid (xringO (l ++ [⟨r, n, kv, [a0, a1, a2, a3, a4, a5, a6, a7, a8, a9, a10, a11, a12, a13, a14, a15, b0, b1, b2, b3, b4, b5, b6, b7, b8, b9, b10, b11, b12, b13, b14, b15], box⟩]) (v + 2))
    rw [List.set_set, hw]
    unfold xringO
    rw [List.flatMap_append, List.length_append]
    rfl
   conv => whnf
   refine ⟨?_, rfl⟩
   show PV.tup [.int .i64 (IntKind.i64.wrap ((N : Int) + 1)), .int .i64 0] = PV.tup [.int .i64 ((N + 1 : Nat) : Int), .int .i64 0]
   rw [hw, hkv]
def Inc (l : List Ent) : Prop := (∀ (i j : Nat) (e f : Ent), i < j → l[i]? = some e → l[j]? = some f → e.r = f.r → e.n = f.n → e.kv < f.kv) ∧ ∀ e ∈ l, 1 ≤ e.kv
theorem Inc.nil : Inc [] := ⟨fun i j e f _ h => by simp at h, fun e h => by cases h⟩
theorem lastE_none {f : Ent → Bool} {l : List Ent} : lastE f l = none ↔ ∀ e ∈ l, f e = false := by
 unfold lastE
 rw [List.find?_eq_none]
 simp
theorem lastE_ok {f : Ent → Bool} {l : List Ent} {e : Ent} (h : lastE f l = some e) : f e = true := List.find?_some h
theorem lastE_last {f : Ent → Bool} : ∀ {l : List Ent} {e : Ent}, lastE f l = some e → ∃ i : Nat, l[i]? = some e ∧ ∀ (j : Nat) (x : Ent), i < j → l[j]? = some x → f x = false := by
 intro l
 induction h : l.length generalizing l with
 | zero =>
  intro e he
  rw [List.length_eq_zero_iff.1 h] at he; cases he
 | succ n ih =>
  intro e he
  have hne : l ≠ [] := by rintro rfl; simp at h
  have hd := List.dropLast_concat_getLast hne
  have hdl : l.dropLast.length = n := by simp [h]
  rw [← hd, lastE_snoc] at he
  by_cases hf : f (l.getLast hne) = true
  ·rw [if_pos hf] at he; cases he
   refine ⟨n, by rw [List.getLast_eq_getElem, List.getElem?_eq_getElem (by omega)]; congr 1; congr 1; omega, fun j x hj hx => ?_⟩
   have := (List.getElem?_eq_some_iff.1 hx).1
   omega
  ·rw [if_neg hf] at he
   obtain ⟨i, h1, h2⟩ := ih hdl he
   have hi : i < n := by have := (List.getElem?_eq_some_iff.1 h1).1; omega
   refine ⟨i, by rw [← hd, List.getElem?_append_left (by omega)]; exact h1, fun j x hj hx => ?_⟩
   rw [← hd] at hx
   by_cases hjn : j < n
   ·rw [List.getElem?_append_left (by omega)] at hx
    exact h2 j x hj hx
   ·have e0 : j = n := by
     have := (List.getElem?_eq_some_iff.1 hx).1
     rw [List.length_append, hdl] at this
     simp at this; omega
    subst e0
    rw [List.getElem?_append_right (by omega), hdl, Nat.sub_self] at hx
    have : l.getLast hne = x := by simpa using hx
    subst this
    simpa using hf
theorem isP_iff {r n : List UInt8} {e : Ent} : isP r n e = true ↔ e.r = r ∧ e.n = n := by unfold isP; exact decide_eq_true_iff
theorem Inc.snoc {l : List Ent} (h : Inc l) {e : Ent} (he : e.kv = nextKv (lastE (isP e.r e.n) l)) : Inc (l ++ [e]) := by
 refine ⟨fun i j x y hij hi hj hr hn => ?_, fun x hx => ?_⟩
 ·by_cases hjl : j < l.length
  ·rw [List.getElem?_append_left hjl] at hj
   rw [List.getElem?_append_left (by omega)] at hi
   exact h.1 i j x y hij hi hj hr hn
  ·have e0 : j = l.length := by
    have := (List.getElem?_eq_some_iff.1 hj).1
    simp at this; omega
   subst e0
   rw [List.getElem?_append_right (by omega), Nat.sub_self] at hj
   rw [List.getElem?_append_left hij] at hi
   have : e = y := by simpa using hj
   subst this
   have hx : x ∈ l := List.mem_of_getElem? hi
   cases hg : lastE (isP e.r e.n) l with
   | none =>
    have := lastE_none.1 hg x hx
    rw [isP_iff.2 ⟨hr, hn⟩] at this; cases this
   | some f =>
    rw [hg] at he
    have he : e.kv = f.kv + 1 := he
    obtain ⟨b1, b2⟩ := isP_iff.1 (lastE_ok hg)
    obtain ⟨q, hq, hlast⟩ := lastE_last hg
    rcases Nat.lt_trichotomy i q with c | c | c
    ·have := h.1 i q x f c hi hq (hr.trans b1.symm) (hn.trans b2.symm); omega
    ·subst c; rw [hi] at hq; cases hq; omega
    ·have := hlast i x c hi
     rw [isP_iff.2 ⟨hr, hn⟩] at this; cases this
 ·rcases List.mem_append.1 hx with hx | hx
  ·exact h.2 x hx
  ·have : x = e := by simpa using hx
   subst this
   rw [he]
   cases lastE (isP x.r x.n) l with
   | none => exact Nat.le_refl _
   | some f => show 1 ≤ f.kv + 1; omega
end Go.Proofs.Tryz
/- PSem, part 33: counts of writes are ours to name. -/
namespace Ps
open Go
theorem CallOk.ver {P : Program} {f : Nat} {args : List PV} {H : PH} {Q R : PV → PH → Prop} {kid : Nat} (h : CallOk P f args H Q)
  (hq : ∀ r H', Q r H' → ∃ o' V, H'[kid]? = some o' ∧ (∀ o, H[kid]? = some o → o.ver < V) ∧ R r (H'.set kid ⟨o'.T, o'.cs, V⟩)) : CallOk P f args H R := fun g w vs hs hr => by
 refine (h g w vs hs hr).mono ?_
 rintro e w' ⟨v, r, H', g', he, q, hr', st, ho, hc⟩
 obtain ⟨o', V, h1, h2, h3⟩ := hq r H' q
 have hlt : kid < H'.length := (List.getElem?_eq_some_iff.1 h1).1
 have hget : ∀ (id : Nat) (o : PObj), (H'.set kid ⟨o'.T, o'.cs, V⟩)[id]? = some o → ∃ o0, H'[id]? = some o0 ∧ o0.T = o.T ∧ o0.cs = o.cs := fun id o ho => by
  by_cases e : kid = id
  ·subst e
   rw [List.getElem?_set_self hlt] at ho
   cases ho
   exact ⟨o', h1, rfl, rfl⟩
  ·rw [List.getElem?_set_ne e] at ho
   exact ⟨o, ho, rfl, rfl⟩
 have hcell : ∀ id j b, cellOwnAt g' w' (H'.set kid ⟨o'.T, o'.cs, V⟩) id j b → cellOwnAt g' w' H' id j b := fun id j b ⟨o, c, b0, u, k1, k2, k3, k4, k5, k6⟩ => by
  obtain ⟨o0, z1, z2, z3⟩ := hget id o k1
  exact ⟨o0, c, b0, u, z1, by rw [z3]; exact k2, k3, k4, k5, k6⟩
 refine ⟨v, r, _, g', he, h3, ⟨⟨by rw [List.length_set]; exact hr'.h.len, hr'.h.inj, hr'.h.full, fun id b o k1 k2 => ?_, hr'.h.imm⟩, hr'.e, hr'.ss, fun t i b k1 ⟨id, j, k2⟩ => hr'.sc t i b k1 ⟨id, j, hcell _ _ _ k2⟩,
  fun id j id' j' b k1 k2 => hr'.cc id j id' j' b (hcell _ _ _ k1) (hcell _ _ _ k2)⟩, ⟨⟨fun id o k1 => ?_, fun id b o o2 hi k1 k2 hv => ?_⟩, st.os, st.tape, st.output, st.size, st.keeps, st.ι, st.far, st.nil⟩, ho, fun b ⟨id, j, k⟩ => hc b ⟨id, j, hcell _ _ _ k⟩⟩
 ·obtain ⟨o0, z1, z2, z3⟩ := hget id o k1
  rw [← z2, ← z3]
  exact hr'.h.obj id b o0 z1 k2
 ·by_cases e : kid = id
  ·subst e
   exact ⟨_, List.getElem?_set_self hlt, Nat.le_of_lt (h2 o k1)⟩
  ·obtain ⟨o2, k2, k3⟩ := st.fr.more id o k1
   exact ⟨o2, by rw [List.getElem?_set_ne e]; exact k2, k3⟩
 ·by_cases e : kid = id
  ·subst e
   rw [List.getElem?_set_self hlt] at k2
   cases k2
   have := h2 o k1
   have hv : V = o.ver := hv
   omega
  ·rw [List.getElem?_set_ne e] at k2
   exact st.fr.same id b o o2 hi k1 k2 hv
end Ps
set_option maxHeartbeats 1000000
namespace Go.Proofs.Tryz
open Go Ps
def Made (k : List UInt8) (o : PObj) : Prop := ∃ v, o = keyO k 1 0 0 (spW k) 1 v
theorem Made.st {k : List UInt8} {o : PObj} (h : Made k o) : KeySt k o := .inr h
theorem c225m (hw : WordsOk) (k : List UInt8) (hk : k.length = 16) (kid : Nat) (nn : Int) (n : Nat) (hn : n ≤ 1000000) (h0 : 0 < n) (so : PObj) (hso : KeySt k so) (H : PH) (hid : H[kid]? = some so) :
  CallOk prog 225 [.ptr (some (kid, 0)), .int .u64 nn, .int .i64 n] H fun r H' => r = sl (streamV k nn n) ∧ ∃ o', Made k o' ∧ H' = H.set kid o' := by
 have hlt : kid < H.length := (List.getElem?_eq_some_iff.1 hid).1
 (refine fnS (imm := imm225) ttS_ok func225 ?_; (conv => whnf))
 refine ⟨fun h => absurd h (by omega), fun _ => ?_⟩
 conv => whnf
 have hw8 : IntKind.i64.wrap ((n : Int) + 8) = (n : Int) + 8 := wrap64 (by omega) (by omega)
 refine ⟨⟨by decide, by rw [hw8]; omega, by rw [hw8]; show ((n : Int) + 8) * ((1 : Nat) : Int) ≤ _; omega⟩, ?_⟩
 conv => whnf
 refine loopK_of StS (fun x => [(0, .ptr (some (kid, 0))), (1, .int .u64 nn), (2, .int .i64 n), (7, ow (strN k nn x.i)), (8, .int .u32 x.i)]) (fun x => H.set kid x.o) (fun x => x.i ≤ (n + 7) / 8 ∧ KeySt k x.o ∧ (0 < x.i → Made k x.o)) (fun x => (n + 7) / 8 - x.i) ⟨⟨0, so⟩, ⟨Nat.zero_le _, hso, fun h => absurd h (Nat.lt_irrefl 0)⟩, ⟨rfl, rfl, rfl, rfl, rfl, trivial⟩, (set_self hid).symm⟩ ?_
 rintro ⟨i, o⟩ ⟨hi, ho, hm⟩
 replace hi : i ≤ (n + 7) / 8 := hi
 replace ho : KeySt k o := ho
 replace hm : 0 < i → Made k o := hm
 have hsl := strN_len k nn i
 conv => whnf
 refine ⟨fun h => ?_, fun h => ?_⟩
 ·have h : ((strN k nn i).length : Int) < n := h
  rw [hsl] at h
  conv => whnf
  refine ⟨by decide, ?_⟩
  conv => whnf
  have hst : (∃ v, (H.set kid o)[kid]? = some (keyO k 0 0 0 (List.replicate 27 0) 0 v)) ∨ (∃ v, (H.set kid o)[kid]? = some (keyO k 1 0 0 (spW k) 1 v)) := by
   rw [List.getElem?_set_self hlt]
   rcases ho with ⟨v, rfl⟩ | ⟨v, rfl⟩
   ·exact .inl ⟨v, rfl⟩
   ·exact .inr ⟨v, rfl⟩
  refine callK_of (Q := fun r H' => r = .tup [.int .u32 (blkP k nn i).1, .int .u32 (blkP k nn i).2] ∧ ∃ v', H' = H.set kid (keyO k 1 0 0 (spW k) 1 v')) ((c257 hw k hk kid (H.set kid o) hst _ _).mono fun r H' hh => ?_) ?_
  ·obtain ⟨h1, v', h2⟩ := hh
   exact ⟨h1, v', by rw [h2, List.set_set]⟩
  rintro _ _ ⟨rfl, v', rfl⟩
  conv => whnf
  generalize hx : (blkP k nn i).1 = x
  generalize hy : (blkP k nn i).2 = y
  refine loopK_of Nat (fun j => [(0, .ptr (some (kid, 0))), (1, .int .u64 nn), (2, .int .i64 n), (7, ow (strN k nn i ++ (le4 x ++ le4 y).take (4 * j))), (8, .int .u32 i), (42, .slice 2 [.int .u32 x, .int .u32 y] (some 226)), (43, .int .i64 2), (44, .int .i64 j)]) (fun _ => H.set kid (keyO k 1 0 0 (spW k) 1 v')) (fun j => j ≤ 2) (fun j => 2 - j) ⟨0, Nat.zero_le _, ⟨rfl, rfl, rfl, ?_, rfl, rfl, rfl, rfl, trivial⟩, rfl⟩ ?_
  ·show ow (strN k nn i) = ow (strN k nn i ++ [])
   rw [List.append_nil]
  intro j hj
  have happ : ∀ (a b : List UInt8), b.length = 4 → a.length ≤ 2000000 → (a.length + 4) * 1 ≤ 140737488355328 ∧ (b.map byteC).length = 4 * 1 ∧ (b.map byteC).all oneP = true := fun a b hb ha => ⟨by omega, by simp [hb], allOne b⟩
  match j, hj with
  | 0, _ =>
   conv => whnf
   refine ⟨fun _ => ?_, fun h => absurd (show ((0 : Nat) : Int) < 2 by decide) h⟩
   conv => whnf
   refine ⟨⟨by decide, by decide⟩, [.int .u32 x], at1' (k := 0) rfl, ?_⟩
   conv => whnf
   refine ⟨by decide, ?_⟩
   conv => whnf
   refine ⟨by decide, ?_⟩
   conv => whnf
   refine ⟨by decide, ?_⟩
   conv => whnf
   refine ⟨⟨by show ((strN k nn i ++ (le4 x ++ le4 y).take (4 * 0)).length + 4) * 1 ≤ _; rw [List.length_append, hsl]; simp; omega, rfl, rfl⟩, ?_⟩
   conv => whnf
   refine ⟨1, by decide, ⟨rfl, rfl, rfl, ?_, rfl, rfl, rfl, rfl, trivial⟩, rfl, by decide⟩
   show PV.slice ((strN k nn i ++ (le4 x ++ le4 y).take (4 * 0)).length + 4) ((strN k nn i ++ (le4 x ++ le4 y).take (4 * 0)).map byteC ++ [PV.int .u8 (IntKind.u8.wrap x), .int .u8 (IntKind.u8.wrap (ishr .u32 x 8)), .int .u8 (IntKind.u8.wrap (ishr .u32 x 16)), .int .u8 (IntKind.u8.wrap (ishr .u32 x 24))]) (some 5) = ow (strN k nn i ++ (le4 x ++ le4 y).take (4 * 1))
   rw [le4_cells, ow_app' _ (le4 x) (n := 4) rfl, List.append_assoc]
   rfl
  | 1, _ =>
   conv => whnf
   refine ⟨fun _ => ?_, fun h => absurd (show ((1 : Nat) : Int) < 2 by decide) h⟩
   conv => whnf
   refine ⟨⟨by decide, by decide⟩, [.int .u32 y], at1' (k := 1) rfl, ?_⟩
   conv => whnf
   refine ⟨by decide, ?_⟩
   conv => whnf
   refine ⟨by decide, ?_⟩
   conv => whnf
   refine ⟨by decide, ?_⟩
   conv => whnf
   refine ⟨⟨by show ((strN k nn i ++ (le4 x ++ le4 y).take (4 * 1)).length + 4) * 1 ≤ _; rw [List.length_append, hsl]; simp; omega, rfl, rfl⟩, ?_⟩
   conv => whnf
   refine ⟨2, by decide, ⟨rfl, rfl, rfl, ?_, rfl, rfl, rfl, rfl, trivial⟩, rfl, by decide⟩
   show PV.slice ((strN k nn i ++ (le4 x ++ le4 y).take (4 * 1)).length + 4) ((strN k nn i ++ (le4 x ++ le4 y).take (4 * 1)).map byteC ++ [PV.int .u8 (IntKind.u8.wrap y), .int .u8 (IntKind.u8.wrap (ishr .u32 y 8)), .int .u8 (IntKind.u8.wrap (ishr .u32 y 16)), .int .u8 (IntKind.u8.wrap (ishr .u32 y 24))]) (some 5) = ow (strN k nn i ++ (le4 x ++ le4 y).take (4 * 2))
   rw [le4_cells, ow_app' _ (le4 y) (n := 4) rfl, List.append_assoc]
   rfl
  | 2, _ =>
   conv => whnf
   refine ⟨fun h => absurd h (by decide), fun _ => ?_⟩
   conv => whnf
   refine ⟨⟨i + 1, keyO k 1 0 0 (spW k) 1 v'⟩, ⟨by show i + 1 ≤ (n + 7) / 8; omega, .inr ⟨v', rfl⟩, fun _ => ⟨v', rfl⟩⟩, ⟨rfl, rfl, rfl, ?_, ?_, trivial⟩, rfl, by show (n + 7) / 8 - (i + 1) < (n + 7) / 8 - i; omega⟩
   ·subst hx hy
    rfl
   ·show PV.int _ (IntKind.u32.wrap ((i : Int) + 1)) = PV.int _ ((i + 1 : Nat) : Int)
    rw [← wrap32 (n := i + 1) (by omega)]; rfl
 ·have h : ¬ ((strN k nn i).length : Int) < n := h
  rw [hsl] at h
  have e : i = (n + 7) / 8 := by omega
  conv => whnf
  refine ⟨⟨by decide, by omega, by show (n : Int) ≤ ((strN k nn i).length : Int); omega⟩, ?_⟩
  conv => whnf
  refine ⟨?_, o, hm (by omega), rfl⟩
  refine (sl_cut2 (strN k nn i) 0 n ⟨by omega, by omega, by omega⟩).trans ?_
  rw [Int.toNat_natCast, e]
  rfl
theorem sealX {H : PH} {bid : Nat} {key : List UInt8} (hb : BoxAt H bid key) (u n : Int) (hu : isUseB u = true) (hn0 : 0 ≤ n) (hn1 : n ≤ 1099511627776) (p : List UInt8) (hp : p.length ≤ 784) (h0 : 0 < p.length) :
  ∃ H1, Evo (fun _ => False) H H1 ∧ H1.length = H.length ∧ CallOk prog 108 [.ptr (some (bid, 0)), .int .i64 u, .int .i64 n, sl p] H fun x H' => x = .tup [ow (sealK key u n p), .int .i64 0] ∧ H' = H1 := by
 obtain ⟨hk, sid, s, o, r, v, so, h1, h2, h3⟩ := hb
 have hne : bid ≠ sid := fun e => by
  subst e
  rw [h1] at h2; cases h2
  exact key_box h3.T.symm
 have hk16 : (key.take 16).length = 16 := by simp [hk]
 have h4 : (H.set bid (boxS sid (key.drop 16) (IntKind.i64.wrap (s + 1)) o r (v + 1)))[sid]? = some so := by rw [List.getElem?_set_ne hne]; exact h2
 refine ⟨(H.set bid (boxS sid (key.drop 16) (IntKind.i64.wrap (s + 1)) o r (v + 1))).set sid (keyO (key.take 16) 1 0 0 (spW (key.take 16)) 1 (so.ver + 1)),
  (Evo.setBox h1 (IntKind.i64.wrap (s + 1)) o r (v + 1)).trans (Evo.setKey (k := key.take 16) (so := so) h4 hk16 h3 (.inr ⟨_, rfl⟩)), by simp, ?_⟩
 have hc := c108 (Made (key.take 16)) (fun o' h => h.st.flat) so sid n u hu hn0 hn1 p (streamV (key.take 16) (mixN (IntKind.u64.wrap n) u) p.length) (streamV_len _ _ _) hp
  (fun H' hs => c225m wordsOk (key.take 16) hk16 sid _ p.length (by omega) h0 so h3 H' hs) (key.drop 16) (by simp [hk]) s o r v bid H h1 h2 hne
 refine hc.ver (kid := sid) fun x H' hh => ?_
 obtain ⟨rfl, o', ⟨v', rfl⟩, rfl⟩ := hh
 refine ⟨_, so.ver + 1, get_set h4, fun o2 ho2 => ?_, rfl, ?_⟩
 ·rw [h2] at ho2; cases ho2; exact Nat.lt_succ_self _
 ·rw [List.set_set]; rfl
set_option maxHeartbeats 4000000
def ttK : TT := [(2, ⟨.int .i64, 1, 8, [.int .i64 0]⟩), (3, ⟨.int .i64, 1, 8, [.int .i64 0]⟩), (4, ⟨.bool, 1, 1, [.bool false]⟩), (5, ⟨.int .u8, 1, 1, [.int .u8 0]⟩), (9, ⟨.str, 1, 16, [.str []]⟩), (25, ⟨.strct [(9, 0), (9, 1)], 2, 32, [.str [], .str []]⟩), (26, ⟨.slice 5, 1, 24, [.slice 0 [] (some 5)]⟩), (28, ⟨.strct [(25, 0), (3, 2), (26, 3)], 4, 64, [.str [], .str [], .int .i64 0, .slice 0 [] (some 5)]⟩), (30, ⟨.strct [(25, 0), (28, 2), (26, 6)], 7, 120, [.str [], .str [], .str [], .str [], .int .i64 0, .slice 0 [] (some 5), .slice 0 [] (some 5)]⟩), (31, ⟨.int .i64, 1, 8, [.int .i64 0]⟩), (33, ⟨.ptr, 1, 8, [.ptr none]⟩), (41, ⟨.strct [(25, 0), (25, 2), (3, 4), (3, 5)], 6, 80, [.str [], .str [], .str [], .str [], .int .i64 0, .int .i64 0]⟩), (43, ⟨.arr 32 5, 32, 32, List.replicate 32 (.int .u8 0)⟩), (50, ⟨.strct [(25, 0), (43, 2), (9, 34), (3, 35), (3, 36)], 37, 96, [.str [], .str []] ++ List.replicate 32 (.int .u8 0) ++ [.str [], .int .i64 0, .int .i64 0]⟩), (54, ⟨.strct [(43, 0), (25, 32), (3, 34), (3, 35), (3, 36)], 37, 88, List.replicate 32 (.int .u8 0) ++ [.str [], .str [], .int .i64 0, .int .i64 0, .int .i64 0]⟩), (64, ⟨.strct [(28, 0), (26, 4), (25, 5), (3, 7), (3, 8)], 9, 136, [.str [], .str [], .int .i64 0, .slice 0 [] (some 5), .slice 0 [] (some 5), .str [], .str [], .int .i64 0, .int .i64 0]⟩), (88, ⟨.slice 9, 1, 24, [.slice 0 [] (some 9)]⟩), (89, ⟨.slice 200, 1, 24, [.slice 0 [] (some 200)]⟩), (90, ⟨.slice 261, 1, 24, [.slice 0 [] (some 261)]⟩), (92, ⟨.strct [(88, 0), (89, 1), (90, 2)], 3, 72, [.slice 0 [] (some 9), .slice 0 [] (some 200), .slice 0 [] (some 261)]⟩), (98, ⟨.strct [(28, 0), (26, 4)], 5, 88, [.str [], .str [], .int .i64 0, .slice 0 [] (some 5), .slice 0 [] (some 5)]⟩), (100, ⟨.strct [(31, 0), (3, 1)], 2, 16, [.int .i64 0, .int .i64 0]⟩), (102, ⟨.strct [(3, 0), (41, 1), (64, 7), (30, 16), (98, 23), (100, 28)], 30, 448, [.int .i64 0, .str [], .str [], .str [], .str [], .int .i64 0, .int .i64 0, .str [], .str [], .int .i64 0, .slice 0 [] (some 5), .slice 0 [] (some 5), .str [], .str [], .int .i64 0, .int .i64 0, .str [], .str [], .str [], .str [], .int .i64 0, .slice 0 [] (some 5), .slice 0 [] (some 5), .str [], .str [], .int .i64 0, .slice 0 [] (some 5), .slice 0 [] (some 5), .int .i64 0, .int .i64 0]⟩), (110, ⟨.ptr, 1, 8, [.ptr none]⟩), (126, ⟨.ptr, 1, 8, [.ptr none]⟩), (132, ⟨.strB [(129, 0), (130, 0), (2, 0)], 1, 8, [.int .i64 0]⟩), (134, ⟨.strct [(9, 0), (92, 1), (110, 4), (132, 5), (132, 6)], 7, 112, [.str [], .slice 0 [] (some 9), .slice 0 [] (some 200), .slice 0 [] (some 261), .ptr none, .int .i64 0, .int .i64 0]⟩), (139, ⟨.strct [(25, 0), (50, 2), (3, 39), (126, 40), (3, 41)], 42, 152, [.str [], .str [], .str [], .str []] ++ List.replicate 32 (.int .u8 0) ++ [.str [], .int .i64 0, .int .i64 0, .int .i64 0, .ptr none, .int .i64 0]⟩), (200, ⟨.arr 2 9, 2, 32, [.str [], .str []]⟩), (261, ⟨.strct [(9, 0), (9, 1), (88, 2)], 3, 56, [.str [], .str [], .slice 0 [] (some 9)]⟩)]
theorem ttK_ok : ttOk prog ttK = true := by kernel_rfl
def imm51 : List Nat := [3]
def imm109 : List Nat := []
def imm50 : List Nat := []
def imm48 : List Nat := []
def imm105 : List Nat := []
def imm16 : List Nat := [5, 7]
def kdcO (realm : List UInt8) (rs ls ps : PV) (rid : Nat) (n i : Int) (v : Nat) : PObj := ⟨134, [.str realm, rs, ls, ps, .ptr (some (rid, 0)), .int .i64 n, .int .i64 i], v⟩
theorem kdcT (realm : List UInt8) (rs ls ps : PV) (rid : Nat) (n i : Int) (v : Nat) : (kdcO realm rs ls ps rid n i v).T ≠ keyT ∧ (kdcO realm rs ls ps rid n i v).T ≠ boxT :=
 ⟨fun h => absurd (show 134 = keyT from h) (by decide), fun h => absurd (show 134 = boxT from h) (by decide)⟩
structure Kd (H : PH) (kid rid : Nat) (realm : List UInt8) (rs ls ps : PV) (l : List Ent) (n i : Nat) : Prop where
 ring : RingAt H rid l
 len : l.length ≤ 40
 k : ∃ v, H[kid]? = some (kdcO realm rs ls ps rid n i v)
theorem Kd.evo {S : Nat → Prop} {H H' : PH} {kid rid : Nat} {realm : List UInt8} {rs ls ps : PV} {l : List Ent} {n i : Nat} (h : Kd H kid rid realm rs ls ps l n i) (k : Evo S H H') (h1 : ¬ S kid) (h2 : ¬ S rid) : Kd H' kid rid realm rs ls ps l n i := by
 obtain ⟨v, hv⟩ := h.k
 exact ⟨h.ring.evo k h2, h.len, v, k.same _ _ hv h1 (kdcT ..).1 (kdcT ..).2⟩
theorem Kd.ne {H : PH} {kid rid : Nat} {realm : List UInt8} {rs ls ps : PV} {l : List Ent} {n i : Nat} (h : Kd H kid rid realm rs ls ps l n i) : rid ≠ kid := by
 obtain ⟨v, hv⟩ := h.k
 obtain ⟨w, hw⟩ := h.ring.ex
 rintro rfl
 rw [hv] at hw
 have := congrArg (fun o => o.map PObj.T) hw
 exact absurd (Option.some.inj this) (show ¬ 134 = (ringO [] 0).T by decide)
theorem Kd.put {H : PH} {kid rid : Nat} {realm : List UInt8} {rs ls ps : PV} {l : List Ent} {n i : Nat} (h : Kd H kid rid realm rs ls ps l n i) (n' i' v : Nat) :
  Kd (H.set kid (kdcO realm rs ls ps rid n' i' v)) kid rid realm rs ls ps l n' i' ∧ Evo (· = kid) H (H.set kid (kdcO realm rs ls ps rid n' i' v)) := by
 obtain ⟨w, hw⟩ := h.k
 have he : Evo (· = kid) H (H.set kid (kdcO realm rs ls ps rid n' i' v)) := Evo.setOther hw rfl (kdcT ..).1 (kdcT ..).2
 exact ⟨⟨h.ring.evo he h.ne, h.len, v, get_set hw⟩, he⟩
theorem c109x {H : PH} {kid rid : Nat} {realm : List UInt8} {rs ls ps : PV} {n i v : Nat} (hv : H[kid]? = some (kdcO realm rs ls ps rid n i v)) (hn : n ≤ 1000000000) :
  CallOk prog 109 [.ptr (some (kid, 0))] H fun r H' => r = .int .i64 ((n + 1 : Nat) : Int) ∧ H' = H.set kid (kdcO realm rs ls ps rid ((n + 1 : Nat) : Int) i (v + 1)) := by
 have hw : IntKind.i64.wrap ((n : Int) + 1) = ((n + 1 : Nat) : Int) := by rw [wrap64 (by omega) (by omega)]; rfl
 (refine fnS (imm := imm109) ttK_ok func109 ?_; (conv => whnf))
 refine callK_of (c110 (off := 5) (n := n) 1 hv rfl) ?_
 rintro _ _ ⟨rfl, rfl⟩
 conv => whnf
 refine ⟨congrArg (PV.int _) hw, ?_⟩
 have e : (⟨(kdcO realm rs ls ps rid n i v).T, setCells 5 [.int .i64 (IntKind.i64.wrap ((n : Int) + 1))] (kdcO realm rs ls ps rid n i v).cs, (kdcO realm rs ls ps rid n i v).ver + 1⟩ : PObj) = kdcO realm rs ls ps rid ((n + 1 : Nat) : Int) i (v + 1) := by
  rw [hw]; rfl
 rw [e]
theorem c48 (n : Int) : Pure prog 48 [.int .i64 n] (.bool (!lateB n)) := by
 intro H
 (refine fnS (imm := imm48) ttK_ok func48 ?_; (conv => whnf))
 unfold lateB
 refine ⟨fun h => ?_, fun h => ?_⟩
 ·have h : (0 : Int) ≤ n := h
  conv => whnf
  refine ⟨fun h2 => ?_, fun h2 => ?_⟩
  ·have h2 : n ≤ 1073741824 := h2
   conv => whnf
   exact ⟨congrArg PV.bool (by rw [decide_eq_false (by omega), decide_eq_false (by omega)]; rfl), rfl⟩
  ·have h2 : ¬ n ≤ 1073741824 := h2
   conv => whnf
   exact ⟨congrArg PV.bool (by rw [decide_eq_true (p := 1073741824 < n) (by omega), Bool.or_true]; rfl), rfl⟩
 ·have h : ¬ (0 : Int) ≤ n := h
  conv => whnf
  exact ⟨congrArg PV.bool (by rw [decide_eq_true (p := n < 0) (by omega)]; rfl), rfl⟩
theorem c105 (r : List UInt8) (hr : r.length ≤ 1099511627775) : Pure prog 105 [.str r] (.str (krb r)) := by
 intro H
 (refine fnS (imm := imm105) ttK_ok func105 ?_; (conv => whnf))
 refine ⟨by show 7 + r.length ≤ 9223372036854775807; omega, ?_⟩
 conv => whnf
 exact ⟨rfl, rfl⟩
theorem Evo.drop {S : Nat → Prop} {H H' : PH} {a : Nat} (h : Evo (fun i => S i ∨ i = a) H H') (ha : H.length ≤ a) : Evo S H H' :=
 ⟨h.len, h.box, fun id o ho hs => h.same id o ho fun hh => by
  rcases hh with hh | hh
  ·exact hs hh
  ·have := (List.getElem?_eq_some_iff.1 ho).1
   omega⟩
def ansO : PObj := ⟨30, [.str [], .str [], .str [], .str [], .int .i64 0, .slice 0 [] (some 5), .slice 0 [] (some 5)], 0⟩
theorem ansT : ansO.T ≠ keyT ∧ ansO.T ≠ boxT := by decide
def D51 : Draw := { imp := [5, 7], win := [(0, 0, 1), (1, 0, 1), (2, 0, 1), (3, 0, 1), (6, 0, 1), (7, 1, 1), (8, 2, 2), (9, 2, 2), (10, 2, 2), (11, 2, 2), (12, 2, 2)] }
def bump (x : RepO × Int) (n : Nat) (k : Nat) : Nat := if x.2 = 0 then n + k else n
theorem ePrt (p : Prt) : (isPartB p = true → eBPrt p = partL p ∧ eEPrt p = 0) ∧ (isPartB p = false → eEPrt p = 1) := by
 unfold eBPrt eEPrt
 constructor
 ·intro h; rw [if_pos h, if_pos h]; exact ⟨rfl, rfl⟩
 ·intro h; rw [if_neg (by rw [h]; decide)]
theorem eRpt (p : Rpt) : (isRptB p = true → eBRpt p = rptL p ∧ eERpt p = 0) ∧ (isRptB p = false → eERpt p = 1) := by
 unfold eBRpt eERpt
 constructor
 ·intro h; rw [if_pos h, if_pos h]; exact ⟨rfl, rfl⟩
 ·intro h; rw [if_neg (by rw [h]; decide)]
set_option maxHeartbeats 2000000
def imm149t : List Nat := []
def imm150t : List Nat := []
def imm151t : List Nat := []
def imm96t : List Nat := []
theorem allStr (l : List (List UInt8)) : (l.map PV.str).all oneP = true := List.all_eq_true.2 fun x hx => by obtain ⟨b, _, rfl⟩ := List.mem_map.1 hx; rfl
theorem allPr (l : List Pr) : (l.flatMap prC).all oneP = true := List.all_eq_true.2 fun x hx => by
 obtain ⟨b, _, hb⟩ := List.mem_flatMap.1 hx
 have hb : x ∈ [PV.str b.1, .str b.2] := hb
 simp at hb
 rcases hb with rfl | rfl <;> rfl
theorem c149 (l : List (List UInt8)) (o : Option Nat) (hb : l.length ≤ 1000000) : Pure prog 149 [.slice l.length (l.map .str) o] (.slice l.length (l.map .str) (some 9)) := by
 intro H
 have ho : ([.slice l.length (l.map .str) o] : List PV).map dem = [.slice l.length (l.map .str) none] := by cases o <;> rfl
 (refine fnS (imm := imm149t) ttT_ok func149 ?_; (conv => whnf))
 have happ : (0 + l.length) * 16 ≤ 140737488355328 ∧ (l.map PV.str).length = l.length * 1 ∧ (l.map PV.str).all oneP = true := ⟨by omega, by simp, allStr l⟩
 cases o
 all_goals
  refine ⟨fun h => ?_, fun h => ⟨?_, ?_⟩⟩
  ·conv => whnf
   refine ⟨happ, ?_⟩
   conv => whnf
   exact ⟨by rw [Nat.zero_add]; rfl, rfl⟩
  ·conv => whnf
   have e : l = [] := List.length_eq_zero_iff.1 h
   subst e
   exact ⟨rfl, rfl⟩
  ·conv => whnf
   refine ⟨happ, ?_⟩
   conv => whnf
   exact ⟨by rw [Nat.zero_add]; rfl, rfl⟩
theorem c150 (l : List Pr) (o : Option Nat) (hb : l.length ≤ 1000000) : Pure prog 150 [.slice l.length (l.flatMap prC) o] (.slice l.length (l.flatMap prC) (some 200)) := by
 intro H
 (refine fnS (imm := imm150t) ttT_ok func150 ?_; (conv => whnf))
 have happ : (0 + l.length) * 32 ≤ 140737488355328 ∧ (l.flatMap prC).length = l.length * 2 ∧ (l.flatMap prC).all oneP = true := ⟨by omega, prC_flat_len l, allPr l⟩
 cases o
 all_goals
  refine ⟨fun h => ?_, fun h => ⟨?_, ?_⟩⟩
  ·conv => whnf
   refine ⟨happ, ?_⟩
   conv => whnf
   exact ⟨by rw [Nat.zero_add]; rfl, rfl⟩
  ·conv => whnf
   have e : l = [] := List.length_eq_zero_iff.1 h
   subst e
   exact ⟨rfl, rfl⟩
  ·conv => whnf
   refine ⟨happ, ?_⟩
   conv => whnf
   exact ⟨by rw [Nat.zero_add]; rfl, rfl⟩
theorem c151 (o : Option Nat) : Pure prog 151 [.slice 0 [] o] (.slice 0 [] (some 261)) := by
 intro H
 (refine fnS (imm := imm151t) ttT_ok func151 ?_; (conv => whnf))
 cases o
 all_goals
  refine ⟨fun h => absurd h (by decide), fun h => ⟨?_, ?_⟩⟩
  ·conv => whnf
   exact ⟨rfl, rfl⟩
  ·conv => whnf
   refine ⟨⟨by decide, rfl, rfl⟩, ?_⟩
   conv => whnf
   exact ⟨rfl, rfl⟩
def D96 : Draw := { imp := [10, 12, 14], win := [(11, 1, 1), (12, 1, 1), (13, 2, 2), (14, 2, 2)] }
def trO (rs : List (List UInt8)) (ls : List Pr) (a b c : Option Nat) (v : Nat) : PObj := ⟨92, treeC rs ls a b c, v⟩
theorem c96x (rs : List (List UInt8)) (ls : List Pr) (h1 : rs.length ≤ 1000000) (h2 : ls.length ≤ 1000000) (H : PH) :
  CallOk prog 96 [.agg (treeC rs ls none none none)] H fun r H' => r = .agg (treeC rs ls none none none) ∧ ∃ ext, H' = H ++ ext := by
 (refine fnS (imm := imm96t) ttT_ok func96 ?_; (conv => whnf))
 have a0 : ∀ A B : PObj, (H ++ [A] ++ [B])[H.length]? = some A := fun A B => by simp
 have sA : ∀ A B A' : PObj, (H ++ [A] ++ [B]).set H.length A' = H ++ [A'] ++ [B] := fun A B A' => by simp
 have hB : ∀ A B : PObj, (H ++ [A] ++ [B])[(H ++ [A]).length]? = some B := fun A B => get_last _ _
 have sB : ∀ A B B' : PObj, (H ++ [A] ++ [B]).set (H ++ [A]).length B' = H ++ [A] ++ [B'] := fun A B B' => set_last _ _ _
 refine drawK_of2 D96 [H ++ [trO rs ls none none none 0] ++ [trO [] [] (some 9) (some 200) (some 261) 0], H ++ [trO rs ls none none none 1] ++ [trO [] [] (some 9) (some 200) (some 261) 0], H ++ [trO rs ls none none none 2] ++ [trO [] [] (some 9) (some 200) (some 261) 0], H ++ [trO rs ls none none none 3] ++ [trO [] [] (some 9) (some 200) (some 261) 0]] (by kernel_rfl) rfl trivial ?_
 conv => whnf
 (refine dS ?_; (conv => whnf))
 apply Exists.intro
 apply And.intro
 ·conv => whnf
  ((conv in (_[_]?) => tactic => exact a0 _ _); (conv => whnf))
  exact ⟨rfl, rfl, trivial⟩
 conv => whnf
 refine ⟨_, callK_pure (c149 rs none h1) ⟨rfl, rfl, trivial⟩, ?_⟩
 conv => whnf
 (refine dS ?_; (conv => whnf))
 apply Exists.intro
 apply And.intro
 ·conv => whnf
  ((conv in (_[_]?) => tactic => exact a0 _ _); (conv => whnf))
  exact ⟨rfl, rfl, trivial⟩
 conv => whnf
 refine ⟨_, callK_pure (c150 ls none h2) ⟨rfl, rfl, trivial⟩, ?_⟩
 conv => whnf
 (refine dS ?_; (conv => whnf))
 apply Exists.intro
 apply And.intro
 ·conv => whnf
  ((conv in (_[_]?) => tactic => exact a0 _ _); (conv => whnf))
  exact ⟨rfl, rfl, trivial⟩
 conv => whnf
 refine ⟨_, callK_pure (c151 none) ⟨rfl, rfl, trivial⟩, ?_⟩
 conv => whnf
 (refine dS ?_; (conv => whnf))
 apply Exists.intro
 apply And.intro
 ·conv => whnf
  ((conv in (_[_]?) => tactic => exact a0 _ _); (conv => whnf))
  exact ⟨rfl, sA _ _ _, trivial⟩
 conv => whnf
 (refine dS ?_; (conv => whnf))
 apply Exists.intro
 apply And.intro
 ·conv => whnf
  ((conv in (_[_]?) => tactic => exact a0 _ _); (conv => whnf))
  exact ⟨rfl, sA _ _ _, trivial⟩
 conv => whnf
 (refine dS ?_; (conv => whnf))
 apply Exists.intro
 apply And.intro
 ·conv => whnf
  ((conv in (_[_]?) => tactic => exact a0 _ _); (conv => whnf))
  exact ⟨rfl, sA _ _ _, trivial⟩
 conv => whnf
 ((conv in (_[_]?) => tactic => exact a0 (trO rs ls none none none 3) (trO [] [] (some 9) (some 200) (some 261) 0)); (conv => whnf))
 have el : ∀ A : PObj, (H ++ [A]).length = H.length + 1 := fun A => by simp
 refine loopK_of Unit (fun _ => [(1, .ptr (some (H.length, 0))), (2, .ptr (some (H.length + 1, 0))), (19, .int .i64 0), (20, .int .i64 0)]) (fun _ => H ++ [trO rs ls none none none 3] ++ [trO [] [] (some 9) (some 200) (some 261) 0]) (fun _ => True) (fun _ => 0) ⟨(), trivial, ⟨rfl, by rw [← el]; rfl, rfl, rfl, trivial⟩, rfl⟩ ?_
 rintro _ _
 conv => whnf
 refine ⟨fun h => absurd (show (0 : Int) < 0 from h) (by decide), fun _ => ?_⟩
 conv => whnf
 ((conv in (_[_]?) => tactic => exact a0 (trO rs ls none none none 3) (trO [] [] (some 9) (some 200) (some 261) 0)); (conv => whnf))
 have hB' : ∀ A B : PObj, (H ++ [A] ++ [B])[H.length + 1]? = some B := fun A B => by rw [← el A]; exact hB A B
 have sB' : ∀ A B B' : PObj, (H ++ [A] ++ [B]).set (H.length + 1) B' = H ++ [A] ++ [B'] := fun A B B' => by rw [← el A]; exact sB A B B'
 ((conv in (_[_]?) => tactic => exact hB' _ _); (conv => whnf))
 ((conv in (_[_]?) => tactic => exact (show ((H ++ [_] ++ [_]).set (H.length + 1) _)[H.length + 1]? = some _ from get_set (hB' _ _))); (conv => whnf))
 refine ⟨rfl, [trO rs ls none none none 3, trO rs ls none none none 1], ?_⟩
 exact (sB' _ _ _).trans (List.append_assoc _ _ _)
theorem oldPs_str : ∀ l : List (List UInt8), oldPs (l.map PV.str) = true
 | [] => rfl
 | x :: l => by
  show (true && oldPs (l.map PV.str)) = true
  rw [oldPs_str l]; rfl
theorem oldPs_pr : ∀ l : List Pr, oldPs (l.flatMap prC) = true
 | [] => rfl
 | x :: l => by
  rw [List.flatMap_cons]
  show (true && (true && oldPs (l.flatMap prC))) = true
  rw [oldPs_pr l]; rfl
theorem treeC_old (rs : List (List UInt8)) (ls : List Pr) : oldR (.agg (treeC rs ls none none none)) = true := by
 show (oldPs (rs.map PV.str) && (oldPs (ls.flatMap prC) && true)) = true
 rw [oldPs_str, oldPs_pr]; rfl
theorem c96 (rs : List (List UInt8)) (ls : List Pr) (h1 : rs.length ≤ 1000000) (h2 : ls.length ≤ 1000000) : Pure prog 96 [.agg (treeC rs ls none none none)] (.agg (treeC rs ls none none none)) := fun H =>
 ((c96x rs ls h1 h2 H).gc fun r H' hh => ⟨by rw [hh.1]; exact treeC_old rs ls, hh.2⟩).mono fun x H' hh => ⟨hh.2.elim fun _ h => h.1, hh.1⟩
def edu : List UInt8 := [69, 68, 85]
def aedu : List UInt8 := [65, 46, 69, 68, 85]
def bedu : List UInt8 := [66, 46, 69, 68, 85]
def rs0 : List (List UInt8) := [aedu, edu, bedu]
def ls0 : List Pr := [(aedu, edu), (edu, aedu), (edu, bedu), (bedu, edu)]
theorem tree0 : Tree rs0 ls0 where
 pos := by decide
 six := by decide
 nd := by decide
 len := by decide
 nl := by decide
 good := by
  intro p hp
  have : (decide (p.1 ∈ rs0) && decide (p.2 ∈ rs0) && decide (p.1 ≠ p.2)) = true := by
   revert p
   rw [← List.all_eq_true (l := ls0)]
   decide
  simp only [Bool.and_eq_true, decide_eq_true_eq] at this
  exact ⟨this.1.1, this.1.2, this.2⟩
 is := by
  intro r hr
  have : (decide ((labelsB r).1 ≠ 0) && decide (r.length ≤ 1000)) = true := by
   revert r
   rw [← List.all_eq_true (l := rs0)]
   kernel_rfl
  simp only [Bool.and_eq_true, decide_eq_true_eq] at this
  exact this
def imm42t : List Nat := []
theorem c42x (H : PH) : CallOk prog 42 [] H fun r H' => r = .agg (treeC rs0 ls0 none none none) ∧ ∃ ext, H' = H ++ ext := by
 (refine fnS (imm := imm42t) ttT_ok func42 ?_; (conv => whnf))
 ((conv in (_[_]?) => tactic => exact get_last H _); (conv => whnf))
 ((conv in (_[_]?) => tactic => exact (show ((H ++ [_]).set H.length _)[H.length]? = some _ from get_set (get_last H _))); (conv => whnf))
 refine ⟨rfl, [⟨92, treeC rs0 ls0 none none (some 261), 1⟩], ?_⟩
 show (H ++ [_]).set H.length _ = _
 rw [set_last]; rfl
theorem c42 : Pure prog 42 [] (.agg (treeC rs0 ls0 none none none)) := fun H =>
 ((c42x H).gc fun r H' hh => ⟨by rw [hh.1]; exact treeC_old rs0 ls0, hh.2⟩).mono fun x H' hh => ⟨hh.2.elim fun _ h => h.1, hh.1⟩
def ttKn : TT := [(3, ⟨.int .i64, 1, 8, [.int .i64 0]⟩), (4, ⟨.bool, 1, 1, [.bool false]⟩), (5, ⟨.int .u8, 1, 1, [.int .u8 0]⟩), (9, ⟨.str, 1, 16, [.str []]⟩), (2, ⟨.int .i64, 1, 8, [.int .i64 0]⟩), (31, ⟨.int .i64, 1, 8, [.int .i64 0]⟩), (33, ⟨.ptr, 1, 8, [.ptr none]⟩), (88, ⟨.slice 9, 1, 24, [.slice 0 [] (some 9)]⟩), (89, ⟨.slice 200, 1, 24, [.slice 0 [] (some 200)]⟩), (90, ⟨.slice 261, 1, 24, [.slice 0 [] (some 261)]⟩), (92, ⟨.strct [(88, 0), (89, 1), (90, 2)], 3, 72, [.slice 0 [] (some 9), .slice 0 [] (some 200), .slice 0 [] (some 261)]⟩), (110, ⟨.ptr, 1, 8, [.ptr none]⟩), (132, ⟨.strB [(129, 0), (130, 0), (2, 0)], 1, 8, [.int .i64 0]⟩), (134, ⟨.strct [(9, 0), (92, 1), (110, 4), (132, 5), (132, 6)], 7, 112, [.str [], .slice 0 [] (some 9), .slice 0 [] (some 200), .slice 0 [] (some 261), .ptr none, .int .i64 0, .int .i64 0]⟩), (200, ⟨.arr 2 9, 2, 32, [.str [], .str []]⟩), (261, ⟨.strct [(9, 0), (9, 1), (88, 2)], 3, 56, [.str [], .str [], .slice 0 [] (some 9)]⟩)]
theorem ttKn_ok : ttOk prog ttKn = true := by kernel_rfl
def imm41t : List Nat := [4]
theorem c41 {rs : List (List UInt8)} {ls : List Pr} (t : Tree rs ls) (r : List UInt8) (hr : r ∈ rs) (rid off : Nat) (H : PH) :
  CallOk prog 41 [.str r, .agg (treeC rs ls none none none), .ptr (some (rid, off))] H fun x H' => x = .tup [.ptr (some (H.length, 0)), .int .i64 0] ∧
   H' = H ++ [⟨134, [.str r, .slice rs.length (rs.map .str) none, .slice ls.length (ls.flatMap prC) none, .slice 0 [] none, .ptr (some (rid, off)), .int .i64 0, .int .i64 0], 0⟩] := by
 have h2 := t.six
 have h3 := t.len
 (refine fnS (imm := imm41t) ttKn_ok func41 ?_; (conv => whnf))
 refine callK_of (c94x t none none none H) ?_
 rintro _ _ ⟨rfl, rfl⟩
 conv => whnf
 refine callK_pure (c95 rs r none (by omega)) ?_
 rw [decide_eq_true hr]
 conv => whnf
 refine callK_pure (c96 rs ls (by omega) (by omega)) ?_
 conv => whnf
 exact ⟨rfl, rfl⟩
def imm101t : List Nat := []
def imm156t : List Nat := []
def imm100t : List Nat := [1]
theorem c101r (l : List (List UInt8)) (x : List UInt8) (o : Option Nat) (hs : l.length ≤ 1099511627775) : Pure prog 101 [.slice l.length (l.map .str) o, .str x] (.int .i64 (idxF (fun y => decide (y = x)) l)) := by
 intro H
 generalize hp : (fun y => decide (y = x)) = p
 (refine fnS (imm := imm101t) ttT_ok func101 ?_; (conv => whnf))
 refine loopK_of Nat (fun i => [(0, .slice l.length (l.map .str) none), (1, .str x), (5, .int .i64 i)]) (fun _ => H)
  (fun i => i ≤ l.length ∧ idxF p l = if idxF p (l.drop i) < 0 then -1 else idxF p (l.drop i) + i) (fun i => l.length - i) ⟨0, ⟨Nat.zero_le _, by have := idxF_ge p l; simp; omega⟩, ⟨?_, rfl, rfl, trivial⟩, rfl⟩ ?_
 ·cases o <;> rfl
 rintro i ⟨h1, h2⟩
 conv => whnf
 refine ⟨fun h3 => ?_, fun h3 => ?_⟩
 ·conv => whnf
  have h3 : (i : Int) < l.length := h3
  have hi : i < l.length := by omega
  have hgi := List.getElem?_eq_getElem hi
  refine ⟨⟨by omega, h3⟩, [.str l[i]], elem_cells l hgi, ?_⟩
  conv => whnf
  have hdr := List.drop_eq_getElem_cons hi
  have hge := idxF_ge p (l.drop (i + 1))
  rw [hdr, idxF_cons] at h2
  refine ⟨fun h5 => ?_, fun h5 => ?_⟩
  ·conv => whnf
   have hb : p l[i] = true := by rw [← hp]; exact decide_eq_true h5
   rw [hb] at h2
   refine ⟨?_, rfl⟩
   show PV.int _ _ = PV.int _ _
   rw [h2]; simp
  ·conv => whnf
   have hb : p l[i] = false := by rw [← hp]; exact decide_eq_false h5
   rw [hb] at h2
   refine ⟨i + 1, ⟨by omega, ?_⟩, ⟨rfl, rfl, ?_, trivial⟩, rfl, by omega⟩
   ·rw [h2]
    simp only [Bool.false_eq_true, if_false]
    split <;> split <;> (try split) <;> omega
   ·show PV.int _ (IntKind.i64.wrap ((i : Int) + 1)) = PV.int _ _
    rw [wrap64 (by omega) (by omega)]; simp
 ·conv => whnf
  have h3 : ¬ (i : Int) < l.length := h3
  refine ⟨?_, rfl⟩
  show PV.int _ _ = PV.int _ _
  rw [h2, List.drop_eq_nil_of_le (by omega)]; simp [idxF]
theorem place {l : List (List UInt8)} {x : List UInt8} : (0 ≤ idxF (fun y => decide (y = x)) l ↔ x ∈ l) := by
 rw [idxF_neg, List.any_eq_true]
 constructor
 ·rintro ⟨y, hy, e⟩; rw [← of_decide_eq_true e]; exact hy
 ·intro h; exact ⟨x, h, decide_eq_true rfl⟩
theorem c156 {rs : List (List UInt8)} (o : Option Nat) (h0 : 0 < rs.length) (h6 : rs.length ≤ 6) (hnd : rs.Nodup) (his : ∀ r ∈ rs, isRealmB r = true ∧ r.length ≤ 1000) : Pure prog 156 [.slice rs.length (rs.map .str) o] (.bool true) := by
 intro H
 (refine fnS (imm := imm156t) ttT_ok func156 ?_; (conv => whnf))
 refine loopK_of Nat (fun i => [(0, .slice rs.length (rs.map .str) none), (3, .int .i64 i)]) (fun _ => H) (fun i => i ≤ rs.length) (fun i => rs.length - i) ⟨0, Nat.zero_le _, ⟨?_, rfl, trivial⟩, rfl⟩ ?_
 ·cases o <;> rfl
 rintro i h1
 replace h1 : i ≤ rs.length := h1
 conv => whnf
 refine ⟨fun h3 => ?_, fun h3 => ?_⟩
 ·conv => whnf
  have h3 : (i : Int) < rs.length := h3
  have hi : i < rs.length := by omega
  have hgi := List.getElem?_eq_getElem hi
  obtain ⟨hr1, hr2⟩ := his _ (List.getElem_mem hi)
  have h78 : Pure prog 78 [.str rs[i]] (.bool true) := (c78 rs[i] (by omega)).of_eq (by rw [hr1])
  have hnm : rs[i] ∉ rs.take i := ((nodup_take hi).1 (nodup_of hnd)).2
  have ha : [PV.slice ((i : Int).toNat - 0) (List.drop (0 * 1) (List.take ((i : Int).toNat * 1) (rs.map PV.str))) none, .str rs[i]] = [.slice (rs.take i).length ((rs.take i).map .str) none, .str rs[i]] := by
   have e : (rs.take i).length = i := by rw [List.length_take]; omega
   rw [e, List.map_take, Int.toNat_natCast, Nat.sub_zero, Nat.mul_one, Nat.mul_one, List.drop_zero]
  refine drawK_pure2 (by kernel_rfl) ?_
  conv => whnf
  iterate 2 (refine dS ?_; (conv => whnf))
  apply Exists.intro
  apply And.intro
  ·conv => whnf
   exact ⟨⟨by omega, h3⟩, [.str rs[i]], elem_cells rs hgi, rfl, rfl, trivial⟩
  conv => whnf
  (refine dS ?_; (conv => whnf))
  refine ⟨_, callK_pure h78 ⟨rfl, rfl, trivial⟩, ?_⟩
  conv => whnf
  iterate 4 (refine dS ?_; (conv => whnf))
  apply Exists.intro
  apply And.intro
  ·conv => whnf
   exact ⟨⟨by decide, by omega, by omega⟩, rfl, rfl, trivial⟩
  conv => whnf
  iterate 2 (refine dS ?_; (conv => whnf))
  apply Exists.intro
  apply And.intro
  ·conv => whnf
   exact ⟨⟨by omega, h3⟩, [.str rs[i]], elem_cells rs hgi, rfl, rfl, trivial⟩
  conv => whnf
  (refine dS ?_; (conv => whnf))
  refine ⟨_, callK_args ha (callK_pure (c101r (rs.take i) rs[i] none (by simp; omega)) ⟨rfl, rfl, trivial⟩), ?_⟩
  conv => whnf
  refine ⟨.bool false, ?_, ?_⟩
  ·conv => whnf
   exact ⟨fun h => absurd (place.1 h) hnm, fun _ => ⟨rfl, rfl, trivial⟩⟩
  conv => whnf
  (refine dS ?_; (conv => whnf))
  conv => whnf
  refine ⟨i + 1, by omega, ⟨rfl, ?_, trivial⟩, rfl, by omega⟩
  show PV.int _ (IntKind.i64.wrap ((i : Int) + 1)) = PV.int _ _
  rw [wrap64 (by omega) (by omega)]; simp
 ·conv => whnf
  refine ⟨fun _ => ?_, fun h => absurd (show (1 : Int) ≤ rs.length by omega) h⟩
  conv => whnf
  refine ⟨fun _ => ?_, fun h => absurd (show (rs.length : Int) ≤ 6 by omega) h⟩
  conv => whnf
  exact ⟨rfl, rfl⟩
theorem c100 {rs : List (List UInt8)} {ls : List Pr} (t : Tree rs ls) (his : ∀ r ∈ rs, isRealmB r = true ∧ r.length ≤ 1000) (o1 o2 o3 : Option Nat) (H : PH) :
  CallOk prog 100 [.agg (treeC rs ls o1 o2 o3)] H fun r H' => r = .bool true ∧ ∃ ext, H' = H ++ ext := by
 have h1 := t.pos
 have h2 := t.six
 have h3 := t.len
 (refine fnS (imm := imm100t) ttT_ok func100 ?_; (conv => whnf))
 refine callK_args (args' := [.slice rs.length (rs.map .str) none]) (by cases o1 <;> rfl) (callK_pure (c156 none h1 h2 t.nd his) ?_)
 conv => whnf
 refine ⟨fun h => absurd (show (20 : Int) < ls.length from h) (by omega), fun _ => ?_⟩
 conv => whnf
 refine ⟨fun h => absurd (show (8 : Int) < 0 from h) (by decide), fun _ => ?_⟩
 conv => whnf
 refine loopK_of (Nat × PH) (fun s => [(1, .elem (treeC rs ls o1 o2 o3)), (3, .int .i64 s.1)]) (fun s => H ++ s.2) (fun s => s.1 ≤ ls.length) (fun s => ls.length - s.1) ⟨(0, []), Nat.zero_le _, ⟨rfl, rfl, trivial⟩, (List.append_nil H).symm⟩ ?_
 rintro ⟨i, X⟩ k1
 replace k1 : i ≤ ls.length := k1
 conv => whnf
 refine ⟨fun k3 => ?_, fun k3 => ?_⟩
 ·conv => whnf
  have k3 : (i : Int) < ls.length := k3
  have hi : i < ls.length := by omega
  have hgi := List.getElem?_eq_getElem hi
  obtain ⟨g1, g2, g3⟩ := t.good _ (List.getElem_mem hi)
  refine ⟨⟨by omega, k3⟩, prC ls[i], pr_cells ls hgi, ?_⟩
  conv => whnf
  ((conv in (_[_]?) => tactic => exact get_last (H ++ X) _); (conv => whnf))
  have hat : ∀ A B : PObj, (((H ++ X) ++ [A]).set (H ++ X).length B)[(H ++ X).length]? = some B := fun A B => get_set (get_last (H ++ X) _)
  refine ⟨⟨by decide, by decide⟩, ?_⟩
  conv => whnf
  ((conv in (_[_]?) => tactic => exact hat _ _); (conv => whnf))
  refine callK_args (args' := [.slice rs.length (rs.map .str) none, .str ls[i].1]) (by cases o1 <;> rfl) (callK_pure (c101r rs ls[i].1 none (by omega)) ?_)
  conv => whnf
  refine ⟨fun h => absurd (place.2 g1) (Int.not_le.2 h), fun _ => ?_⟩
  conv => whnf
  refine ⟨⟨by decide, by decide⟩, ?_⟩
  conv => whnf
  ((conv in (_[_]?) => tactic => exact hat _ _); (conv => whnf))
  refine callK_args (args' := [.slice rs.length (rs.map .str) none, .str ls[i].2]) (by cases o1 <;> rfl) (callK_pure (c101r rs ls[i].2 none (by omega)) ?_)
  conv => whnf
  refine ⟨fun h => absurd (place.2 g2) (Int.not_le.2 h), fun _ => ?_⟩
  conv => whnf
  refine ⟨⟨by decide, by decide⟩, ?_⟩
  conv => whnf
  ((conv in (_[_]?) => tactic => exact hat _ _); (conv => whnf))
  refine ⟨⟨by decide, by decide⟩, ?_⟩
  conv => whnf
  ((conv in (_[_]?) => tactic => exact hat _ _); (conv => whnf))
  refine ⟨fun h => absurd h g3, fun _ => ?_⟩
  conv => whnf
  refine loopK_of Nat (fun j => [(1, .elem (treeC rs ls o1 o2 o3)), (3, .int .i64 i), (4, .ptr (some ((H ++ X).length, 0))), (5, .int .i64 j)]) (fun _ => H ++ (X ++ [(⟨200, [.str ls[i].1, .str ls[i].2], 1⟩ : PObj)])) (fun j => j ≤ i) (fun j => i - j) ⟨0, Nat.zero_le _, ⟨rfl, rfl, rfl, rfl, trivial⟩, set_appK H X _ _⟩ ?_
  have hat2 : ∀ A : PObj, (H ++ (X ++ [A]))[(H ++ X).length]? = some A := fun A => by rw [← List.append_assoc]; exact get_last _ _
  intro j kj
  replace kj : j ≤ i := kj
  conv => whnf
  refine ⟨fun k4 => ?_, fun k4 => ?_⟩
  ·conv => whnf
   have k4 : (j : Int) < i := k4
   have hj : j < ls.length := by omega
   have hgj := List.getElem?_eq_getElem hj
   have hne : ls[j] ≠ ls[i] := fun e => by
    have := (List.getElem_inj (h₀ := hj) (h₁ := hi) t.nl).1 e
    omega
   refine drawK_pure2 (by kernel_rfl) ?_
   conv => whnf
   iterate 3 (refine dS ?_; (conv => whnf))
   apply Exists.intro
   apply And.intro
   ·conv => whnf
    exact ⟨⟨by omega, by omega⟩, prC ls[j], pr_cells ls hgj, rfl, rfl, trivial⟩
   conv => whnf
   (refine dS ?_; (conv => whnf))
   apply Exists.intro
   apply And.intro
   ·conv => whnf
    ((conv in (_[_]?) => tactic => exact hat2 _); (conv => whnf))
    exact ⟨rfl, rfl, trivial⟩
   conv => whnf
   refine ⟨.bool false, ?_, ?_⟩
   ·conv => whnf
    exact ⟨⟨fitT _ _, fitT _ _⟩, fun h => absurd (prEq h) hne, fun _ => ⟨rfl, rfl, trivial⟩⟩
   conv => whnf
   refine ⟨j + 1, by show j + 1 ≤ i; omega, ⟨rfl, rfl, rfl, ?_, trivial⟩, rfl, by omega⟩
   show PV.int _ (IntKind.i64.wrap ((j : Int) + 1)) = PV.int _ _
   rw [wrap64 (by omega) (by omega)]; simp
  ·conv => whnf
   refine ⟨(i + 1, X ++ [(⟨200, [.str ls[i].1, .str ls[i].2], 1⟩ : PObj)]), by show i + 1 ≤ ls.length; omega, ⟨rfl, ?_, trivial⟩, rfl, by show ls.length - (i + 1) < ls.length - i; omega⟩
   show PV.int _ (IntKind.i64.wrap ((i : Int) + 1)) = PV.int _ _
   rw [wrap64 (by omega) (by omega)]; simp
 ·conv => whnf
  have k3 : ¬ (i : Int) < ls.length := k3
  refine loopK_of Unit (fun _ => [(1, .elem (treeC rs ls o1 o2 o3)), (6, .int .i64 0)]) (fun _ => H ++ X) (fun _ => True) (fun _ => 0) ⟨(), trivial, ⟨rfl, rfl, trivial⟩, rfl⟩ ?_
  rintro _ _
  conv => whnf
  refine ⟨fun h => absurd (show (0 : Int) < 0 from h) (by decide), fun _ => ?_⟩
  conv => whnf
  exact ⟨rfl, X, rfl⟩
def ttBg : TT := [(2, ⟨.int .i64, 1, 8, [.int .i64 0]⟩), (3, ⟨.int .i64, 1, 8, [.int .i64 0]⟩), (4, ⟨.bool, 1, 1, [.bool false]⟩), (5, ⟨.int .u8, 1, 1, [.int .u8 0]⟩), (9, ⟨.str, 1, 16, [.str []]⟩), (25, ⟨.strct [(9, 0), (9, 1)], 2, 32, [.str [], .str []]⟩), (31, ⟨.int .i64, 1, 8, [.int .i64 0]⟩), (33, ⟨.ptr, 1, 8, [.ptr none]⟩), (34, ⟨.ptr, 1, 8, [.ptr none]⟩), (36, ⟨.strct [(33, 0), (34, 1)], 2, 16, [.ptr none, .ptr none]⟩), (43, ⟨.arr 32 5, 32, 32, List.replicate 32 (.int .u8 0)⟩), (88, ⟨.slice 9, 1, 24, [.slice 0 [] (some 9)]⟩), (89, ⟨.slice 200, 1, 24, [.slice 0 [] (some 200)]⟩), (90, ⟨.slice 261, 1, 24, [.slice 0 [] (some 261)]⟩), (92, ⟨.strct [(88, 0), (89, 1), (90, 2)], 3, 72, [.slice 0 [] (some 9), .slice 0 [] (some 200), .slice 0 [] (some 261)]⟩), (93, ⟨.ptr, 1, 8, [.ptr none]⟩), (95, ⟨.strct [(9, 0), (92, 1), (93, 4), (3, 5), (3, 6)], 7, 112, [.str [], .slice 0 [] (some 9), .slice 0 [] (some 200), .slice 0 [] (some 261), .ptr none, .int .i64 0, .int .i64 0]⟩), (110, ⟨.ptr, 1, 8, [.ptr none]⟩), (113, ⟨.slice 210, 1, 24, [.slice 0 [] (some 210)]⟩), (115, ⟨.strct [(113, 0)], 1, 24, [.slice 0 [] (some 210)]⟩), (116, ⟨.slice 25, 1, 24, [.slice 0 [] (some 25)]⟩), (132, ⟨.strB [(129, 0), (130, 0), (2, 0)], 1, 8, [.int .i64 0]⟩), (134, ⟨.strct [(9, 0), (92, 1), (110, 4), (132, 5), (132, 6)], 7, 112, [.str [], .slice 0 [] (some 9), .slice 0 [] (some 200), .slice 0 [] (some 261), .ptr none, .int .i64 0, .int .i64 0]⟩), (200, ⟨.arr 2 9, 2, 32, [.str [], .str []]⟩), (210, ⟨.strct [(25, 0), (3, 2), (43, 3)], 35, 72, [.str [], .str [], .int .i64 0] ++ List.replicate 32 (.int .u8 0)⟩), (261, ⟨.strct [(9, 0), (9, 1), (88, 2)], 3, 56, [.str [], .str [], .slice 0 [] (some 9)]⟩)]
theorem ttBg_ok : ttOk prog ttBg = true := by kernel_rfl
def imm46t : List Nat := [4]
def imm17t : List Nat := []
def xkdcO (realm : List UInt8) (rs : List (List UInt8)) (ls : List Pr) (rid off : Nat) (n i : Int) (v : Nat) : PObj := ⟨95, [.str realm, .slice rs.length (rs.map .str) none, .slice ls.length (ls.flatMap prC) none, .slice 0 [] none, .ptr (some (rid, off)), .int .i64 n, .int .i64 i], v⟩
theorem c100p {rs : List (List UInt8)} {ls : List Pr} (t : Tree rs ls) (his : ∀ r ∈ rs, isRealmB r = true ∧ r.length ≤ 1000) (o1 o2 o3 : Option Nat) : Pure prog 100 [.agg (treeC rs ls o1 o2 o3)] (.bool true) := fun H =>
 ((c100 t his o1 o2 o3 H).gc fun r H' hh => ⟨by rw [hh.1]; rfl, hh.2⟩).mono fun x H' hh => ⟨hh.2.elim fun _ h => h.1, hh.1⟩
theorem c46 {rs : List (List UInt8)} {ls : List Pr} (t : Tree rs ls) (his : ∀ r ∈ rs, isRealmB r = true ∧ r.length ≤ 1000) (r : List UInt8) (hr : r ∈ rs) (rid off : Nat) (H : PH) :
  CallOk prog 46 [.str r, .agg (treeC rs ls none none none), .ptr (some (rid, off))] H fun x H' => x = .tup [.ptr (some (H.length, 0)), .int .i64 0] ∧ H' = H ++ [xkdcO r rs ls rid off 0 0 0] := by
 have h2 := t.six
 have h3 := t.len
 (refine fnS (imm := imm46t) ttBg_ok func46 ?_; (conv => whnf))
 refine callK_pure (c100p t his none none none) ?_
 conv => whnf
 refine callK_pure (c101r rs r none (by omega)) ?_
 conv => whnf
 refine ⟨fun h => absurd (place.2 hr) (Int.not_le.2 h), fun _ => ?_⟩
 conv => whnf
 exact ⟨rfl, rfl⟩
theorem c52 (r : List UInt8) (hr : r.length ≤ 1000000) : Pure prog 52 [.str r] (.str (krb r)) := by
 intro H
 (refine fnS (imm := imm17t) ttBg_ok func52 ?_; (conv => whnf))
 refine ⟨by show 7 + r.length ≤ 9223372036854775807; omega, ?_⟩
 conv => whnf
 exact ⟨rfl, rfl⟩
def ann : List UInt8 := [97, 110, 110]
theorem c17 : Pure prog 17 [] (.agg [.str aedu, .str ann]) := fun H =>
 ((show CallOk prog 17 [] H fun r H' => r = .agg [.str aedu, .str ann] ∧ ∃ ext, H' = H ++ ext by
  (refine fnS (imm := imm17t) ttBg_ok func17 ?_; (conv => whnf))
  ((conv in (_[_]?) => tactic => exact get_last H _); (conv => whnf))
  ((conv in (_[_]?) => tactic => exact (show ((H ++ [_]).set H.length _)[H.length]? = some _ from get_set (get_last H _))); (conv => whnf))
  refine ⟨rfl, [⟨25, [.str aedu, .str ann], 1⟩], ?_⟩
  show (H ++ [_]).set H.length _ = _
  rw [set_last]; rfl).gc fun r H' hh => ⟨by rw [hh.1]; rfl, hh.2⟩).mono fun x H' hh => ⟨hh.2.elim fun _ h => h.1, hh.1⟩
theorem c18 (a b : List UInt8) (hb : b.length ≤ 1000000) : Pure prog 18 [.str a, .str b] (.agg [.str a, .str (krb b)]) := fun H =>
 ((show CallOk prog 18 [.str a, .str b] H fun r H' => r = .agg [.str a, .str (krb b)] ∧ ∃ ext, H' = H ++ ext by
  (refine fnS (imm := imm17t) ttBg_ok func18 ?_; (conv => whnf))
  refine callK_pure (c52 b hb) ?_
  conv => whnf
  ((conv in (_[_]?) => tactic => exact get_last H _); (conv => whnf))
  ((conv in (_[_]?) => tactic => exact (show ((H ++ [_]).set H.length _)[H.length]? = some _ from get_set (get_last H _))); (conv => whnf))
  refine ⟨rfl, [⟨25, [.str a, .str (krb b)], 1⟩], ?_⟩
  show (H ++ [_]).set H.length _ = _
  rw [set_last]; rfl).gc fun r H' hh => ⟨by rw [hh.1]; rfl, hh.2⟩).mono fun x H' hh => ⟨hh.2.elim fun _ h => h.1, hh.1⟩
def keyN (n : UInt8) : List UInt8 := n :: 7 :: List.replicate 30 0
theorem keyN_old (n : UInt8) : oldR (.agg ((keyN n).map byteC)) = true := oldPs_bytesY _
theorem c19 (n : UInt8) : Pure prog 19 [byteC n] (.agg ((keyN n).map byteC)) := fun H =>
 ((show CallOk prog 19 [byteC n] H fun r H' => r = .agg ((keyN n).map byteC) ∧ ∃ ext, H' = H ++ ext by
  (refine fnS (imm := imm17t) ttBg_ok func19 ?_; (conv => whnf))
  ((conv in (_[_]?) => tactic => exact get_last H _); (conv => whnf))
  ((conv in (_[_]?) => tactic => exact (show ((H ++ [_]).set H.length _)[H.length]? = some _ from get_set (get_last H _))); (conv => whnf))
  refine ⟨rfl, [⟨43, (keyN n).map byteC, 1⟩], ?_⟩
  show (H ++ [_]).set H.length _ = _
  rw [set_last]; rfl).gc fun r H' hh => ⟨by rw [hh.1]; exact keyN_old n, hh.2⟩).mono fun x H' hh => ⟨hh.2.elim fun _ h => h.1, hh.1⟩
theorem c20 {H : PH} {kid : Nat} {realm : List UInt8} {rs ls ps : PV} {rid : Nat} {n i : Int} {v : Nat} (hv : H[kid]? = some (kdcO realm rs ls ps rid n i v)) :
  CallOk prog 20 [.ptr (some (kid, 0))] H fun r H' => r = .int .i64 i ∧ H' = H := by
 (refine fnS (imm := imm17t) ttBg_ok func20 ?_; (conv => whnf))
 refine callK_of (c53 (off := 6) (n := i) hv rfl) ?_
 rintro _ _ ⟨rfl, rfl⟩
 conv => whnf
 exact ⟨rfl, rfl⟩
set_option maxHeartbeats 4000000
def mail : List UInt8 := [109, 97, 105, 108]
theorem c27 : Pure prog 27 [] (.agg [.str aedu, .str mail]) := fun H =>
 ((show CallOk prog 27 [] H fun r H' => r = .agg [.str aedu, .str mail] ∧ ∃ ext, H' = H ++ ext by
  (refine fnS (imm := imm17t) ttBg_ok func27 ?_; (conv => whnf))
  ((conv in (_[_]?) => tactic => exact get_last H _); (conv => whnf))
  ((conv in (_[_]?) => tactic => exact (show ((H ++ [_]).set H.length _)[H.length]? = some _ from get_set (get_last H _))); (conv => whnf))
  refine ⟨rfl, [⟨25, [.str aedu, .str mail], 1⟩], ?_⟩
  show (H ++ [_]).set H.length _ = _
  rw [set_last]; rfl).gc fun r H' hh => ⟨by rw [hh.1]; rfl, hh.2⟩).mono fun x H' hh => ⟨hh.2.elim fun _ h => h.1, hh.1⟩
def nm0 : List (Pr × UInt8) := [((aedu, krb aedu), 10), ((aedu, krb edu), 99), ((edu, krb aedu), 12), ((aedu, ann), 13), ((aedu, mail), 14)]
def Small (l : List Ent) (k : Nat) : Prop := l.map (fun e => (e.r, e.n, e.kv, e.key)) = (nm0.take k).map fun x => (x.1.1, x.1.2, 1, keyN x.2)
theorem Small.len {l : List Ent} {k : Nat} (h : Small l k) (hk : k ≤ 5) : l.length = k := by
 have := congrArg List.length h
 rw [List.length_map, List.length_map, List.length_take] at this
 have e : nm0.length = 5 := rfl
 omega
theorem Small.mem {l : List Ent} {k : Nat} (h : Small l k) {e : Ent} (he : e ∈ l) : ∃ x ∈ nm0.take k, e.r = x.1.1 ∧ e.n = x.1.2 ∧ e.kv = 1 ∧ e.key = keyN x.2 := by
 have hm : (e.r, e.n, e.kv, e.key) ∈ l.map (fun e => (e.r, e.n, e.kv, e.key)) := List.mem_map.2 ⟨e, he, rfl⟩
 rw [h] at hm
 obtain ⟨x, hx, hh⟩ := List.mem_map.1 hm
 injection hh with h1 h2
 injection h2 with h2 h3
 injection h3 with h3 h4
 exact ⟨x, hx, h1.symm, h2.symm, h3.symm, h4.symm⟩
theorem Small.none {l : List Ent} {k : Nat} (h : Small l k) {r n : List UInt8} (hn : ∀ x ∈ nm0.take k, ¬ (x.1.1 = r ∧ x.1.2 = n)) : lastE (isP r n) l = none := by
 cases he : lastE (isP r n) l with
 | none => rfl
 | some e =>
  have h2 : isP r n e = true := by
   have := List.find?_some he
   exact this
  obtain ⟨x, hx, e1, e2, _, _⟩ := h.mem (lastE_mem he)
  obtain ⟨a, b⟩ := isP_iff.1 h2
  exact absurd ⟨e1.symm.trans a, e2.symm.trans b⟩ (hn x hx)
theorem Small.snoc {l : List Ent} {k : Nat} (h : Small l k) {x : Pr × UInt8} (hx : nm0[k]? = some x) (e : Ent) (h1 : e.r = x.1.1) (h2 : e.n = x.1.2) (h3 : e.kv = 1) (h4 : e.key = keyN x.2) : Small (l ++ [e]) (k + 1) := by
 obtain ⟨hk, rfl⟩ := List.getElem?_eq_some_iff.1 hx
 unfold Small at h ⊢
 rw [List.take_succ_eq_append_getElem hk, List.map_append, List.map_append, h]
 simp [h1, h2, h3, h4]
def imm15t : List Nat := []
def D15 : Draw := { imp := [6], win := [(7, 1, 1), (8, 1, 1), (9, 1, 1), (10, 1, 1), (11, 1, 1)] }
def D16 : Draw := { imp := [6], win := [] }
theorem nmAt {k : Nat} {x : Pr × UInt8} (h : nm0[k]? = some x) : ∀ (j : Nat) (c : PV), (prC x.1)[j]? = some c → (nm0.flatMap fun x => prC x.1)[(k : Int).toNat * 2 + j]? = some c := by
 have e : (nm0.flatMap fun x => prC x.1) = (nm0.map Prod.fst).flatMap prC := by rw [List.flatMap_map]
 rw [e]
 exact pr_cells _ (by rw [List.getElem?_map, h]; rfl)
theorem fitBg (a b : List UInt8) : FitP ttBg 6 25 [.str a, .str b] := ⟨rfl, ⟨by show 1 ≤ 2; omega, a, rfl⟩, rfl, ⟨by show 1 ≤ 1; omega, b, rfl⟩, rfl⟩
theorem keyN_len (n : UInt8) : (keyN n).length = 32 := by unfold keyN; simp
structure BegS where
 k : Nat
 X : PH
structure BegOk (H : PH) (s : BegS) : Prop where
 le : s.k ≤ 5
 ex : ∃ l v, Small l s.k ∧ Inc l ∧ RingAt s.X H.length l ∧ s.X[H.length + 1]? = some (xringO l v)
 evo : Evo (fun i => i = H.length ∨ i = H.length + 1) (H ++ [ringO [] 0] ++ [xringO [] 0]) s.X
theorem xringT (l : List Ent) (v : Nat) : (xringO l v).T ≠ keyT ∧ (xringO l v).T ≠ boxT := ⟨fun h => absurd (show 115 = keyT from h) (by decide), fun h => absurd (show 115 = boxT from h) (by decide)⟩
theorem addY {H : PH} {rid v : Nat} {l : List Ent} (hid : H[rid]? = some (ringO l v)) (hl : l.length ≤ 4) (r n key : List UInt8) (hkey : key.length = 32) (hp : isPrincB r n = true) (hno : lastE (isP r n) l = none) :
  addR l r n = .tup [.int .i64 1, .int .i64 0] ∧ addB l r n = true ∧ Adds H rid l r n key (addH H rid v l r n key) := by
 have hlt : rid < H.length := (List.getElem?_eq_some_iff.1 hid).1
 have hc : ¬ (40 ≤ l.length ∨ 255 < nextKv (lastE (isP r n) l)) := by rw [hno]; show ¬ (40 ≤ l.length ∨ 255 < 1); omega
 have hR : addR l r n = .tup [.int .i64 1, .int .i64 0] := by unfold addR; rw [hp]; simp only [if_neg hc]; rw [hno]; rfl
 have hB : addB l r n = true := by unfold addB; rw [hp, decide_eq_false hc]; rfl
 refine ⟨hR, hB, ?_⟩
 have h2 : addH H rid v l r n key = (H ++ [speckO (key.take 16), boxO key H.length]).set rid (ringO (l ++ [addE H l r n key]) (v + 2)) := by unfold addH; rw [hp]; simp only [if_neg hc]
 have hid2 : (H ++ [speckO (key.take 16), boxO key H.length])[rid]? = some (ringO l v) := by rw [List.getElem?_append_left hlt]; exact hid
 refine ⟨⟨addE H l r n key, v + 2, rfl, rfl, rfl, rfl, ?_, ?_⟩, ?_⟩
 ·rw [h2, List.getElem?_set_self (by simp; omega)]
 ·rw [h2]
  refine (Evo.setOther (S := (· = rid)) hid2 rfl (ringT _ _).1 (ringT _ _).2).box _ _ ⟨hkey, H.length, 0, 0, 0, 0, speckO (key.take 16), ?_, ?_, speck_key _⟩
  ·show (H ++ [speckO (key.take 16), boxO key H.length])[H.length + 1]? = _
   rw [List.getElem?_append_right (by omega), show H.length + 1 - H.length = 1 by omega]; rfl
  ·rw [List.getElem?_append_right (by omega), show H.length - H.length = 0 by omega]; rfl
 ·rw [h2]
  exact (Evo.app H _).trans (Evo.setOther hid2 rfl (ringT _ _).1 (ringT _ _).2)
theorem c15x (H : PH) : CallOk prog 15 [.bool false] H fun r H' => ∃ kid xid pid l v, r = .ptr (some (pid, 0)) ∧ Small l 5 ∧ Inc l ∧ Kd H' kid H.length aedu (.slice 3 (rs0.map .str) none) (.slice 4 (ls0.flatMap prC) none) (.slice 0 [] none) l 0 0 ∧
  H'[xid]? = some (xkdcO aedu rs0 ls0 (H.length + 1) 0 0 0 0) ∧ H'[H.length + 1]? = some (xringO l v) ∧ H'[pid]? = some ⟨36, [.ptr (some (kid, 0)), .ptr (some (xid, 0))], 0⟩ ∧ Evo (fun _ => False) H H' := by
 (refine fnS (imm := imm15t) ttBg_ok func15 ?_; (conv => whnf))
 refine callK_of (c43 H) ?_
 rintro _ _ ⟨rfl, rfl⟩
 conv => whnf
 have k1 : Pure prog 18 [.str aedu, .str aedu] (.agg [.str aedu, .str (krb aedu)]) := c18 _ _ (by decide)
 have k2 : Pure prog 18 [.str aedu, .str edu] (.agg [.str aedu, .str (krb edu)]) := c18 _ _ (by decide)
 have k3 : Pure prog 18 [.str edu, .str aedu] (.agg [.str edu, .str (krb aedu)]) := c18 _ _ (by decide)
 refine callK_pure k1 ?_
 conv => whnf
 refine callK_pure k2 ?_
 conv => whnf
 refine callK_pure k3 ?_
 conv => whnf
 refine callK_pure c17 ?_
 conv => whnf
 refine callK_pure c27 ?_
 conv => whnf
 refine loopK_of BegS (fun s => [(3, .ptr (some (H.length, 0))), (4, .ptr (some ((H ++ [ringO [] 0]).length, 0))), (5, .str aedu), (6, .slice 5 (nm0.flatMap fun x => prC x.1) (some 25)), (7, .int .i64 s.k)]) (fun s => s.X) (BegOk H) (fun s => 5 - s.k)
  ⟨⟨0, H ++ [ringO [] 0] ++ [xringO [] 0]⟩, ⟨Nat.zero_le _, ⟨[], 0, rfl, Inc.nil, ?_, ?_⟩, Evo.refl _⟩, ⟨rfl, rfl, rfl, rfl, rfl, trivial⟩, rfl⟩ ?_
 ·exact newRing.evo (S := fun _ => False) (Evo.app _ _) id
 ·have e : (H ++ [ringO [] 0]).length = H.length + 1 := by simp
  rw [← e]; exact get_last _ _
 rintro ⟨k, X⟩ ⟨hk, ⟨l, v, hsm, hinc, hra, hx⟩, hev⟩
 replace hk : k ≤ 5 := hk
 replace hsm : Small l k := hsm
 replace hra : RingAt X H.length l := hra
 replace hx : X[H.length + 1]? = some (xringO l v) := hx
 have hat : ∀ A B : PObj, ((X ++ [A]).set X.length B)[X.length]? = some B := fun A B => get_set (get_last X _)
 match k, hk, hsm with
 | 0, hk, hsm =>
  conv => whnf
  refine ⟨fun _ => ?_, fun h => absurd (show ((0 : Nat) : Int) < 5 by decide) h⟩
  conv => whnf
  refine callK_args (args' := [byteC 10]) rfl (callK_pure (c19 10) ?_)
  conv => whnf
  ((conv in (_[_]?) => tactic => exact get_last X _); (conv => whnf))
  refine drawK_pure2 (by kernel_rfl) ?_
  conv => whnf
  iterate 2 (refine dS ?_; (conv => whnf))
  apply Exists.intro
  apply And.intro
  ·conv => whnf
   exact ⟨⟨show (0 : Int) ≤ ((0 : Nat) : Int) by decide, show ((0 : Nat) : Int) < 5 by decide⟩, [.str aedu, .str (krb aedu)], nmAt (x := nm0[0]) rfl, rfl, rfl, trivial⟩
  conv => whnf
  (refine dS ?_; (conv => whnf))
  refine ⟨_, callK_pure k2 ⟨rfl, rfl, trivial⟩, ?_⟩
  conv => whnf
  refine ⟨.bool false, ?_, ?_⟩
  ·conv => whnf
   exact ⟨⟨fitBg _ _, fitBg _ _⟩, fun h => absurd (prEq h) (by decide), fun _ => ⟨rfl, rfl, trivial⟩⟩
  conv => whnf
  obtain ⟨v1, hv1⟩ := (hra.evo (S := fun _ => False) (Evo.app X [(⟨43, (keyN 10).map byteC, 1⟩ : PObj)]) id).ex
  have hx1 : (X ++ [(⟨43, (keyN 10).map byteC, 1⟩ : PObj)])[H.length + 1]? = some (xringO l v) := by rw [List.getElem?_append_left (List.getElem?_eq_some_iff.1 hx).1]; exact hx
  have hno : lastE (isP aedu (krb aedu)) l = none := hsm.none (by decide)
  have hpr : isPrincB aedu (krb aedu) = true := by kernel_rfl
  obtain ⟨X2, hX2⟩ : ∃ X2, X2 = addH (X ++ [(⟨43, (keyN 10).map byteC, 1⟩ : PObj)]) H.length v1 l aedu (krb aedu) (keyN 10) := ⟨_, rfl⟩
  have hl5 : l.length ≤ 4 := by have := hsm.len hk; omega
  have hkk : ∀ e ∈ l, e.key.length = 32 ∧ e.kv ≤ 1000 := fun e he => ⟨hra.klen e he, by obtain ⟨x, _, _, _, h3, _⟩ := hsm.mem he; omega⟩
  obtain ⟨hR, hb, hA⟩ := addY hv1 hl5 aedu (krb aedu) (keyN 10) (keyN_len _) hpr hno
  rw [← hX2] at hA
  have h44 := c44 hv1 (by omega) hkk aedu (krb aedu) (keyN 10) (keyN_len _) (by decide) (by decide)
  rw [hR, ← hX2] at h44
  refine drawK_of2 D15 [X ++ [(⟨43, (keyN 10).map byteC, 1⟩ : PObj)], X2] (by kernel_rfl) ?_ trivial ?_
  ·exact (set_last X _ _).symm
  conv => whnf
  iterate 3 (refine dS ?_; (conv => whnf))
  apply Exists.intro
  apply And.intro
  ·conv => whnf
   exact ⟨⟨show (0 : Int) ≤ ((0 : Nat) : Int) by decide, show ((0 : Nat) : Int) < 5 by decide⟩, [.str aedu, .str (krb aedu)], nmAt (x := nm0[0]) rfl, rfl, rfl, trivial⟩
  conv => whnf
  (refine dS ?_; (conv => whnf))
  apply Exists.intro
  apply And.intro
  ·conv => whnf
   ((conv in (_[_]?) => tactic => exact get_last X _); (conv => whnf))
   exact ⟨rfl, rfl, trivial⟩
  conv => whnf
  refine ⟨_, callK_of h44 (by rintro _ _ ⟨rfl, rfl⟩; exact ⟨rfl, rfl, trivial⟩), ?_⟩
  conv => whnf
  iterate 5 (refine dS ?_; (conv => whnf))
  conv => whnf
  obtain ⟨e, q1, q2, q3, q4, hra2⟩ := (hra.evo (S := fun _ => False) (Evo.app X [(⟨43, (keyN 10).map byteC, 1⟩ : PObj)]) id).add hA
  have hE := hA.evo
  have hlt := (List.getElem?_eq_some_iff.1 hx).1
  have hx2 : X2[H.length + 1]? = some (xringO l v) := hE.same _ _ hx1 (by show ¬ H.length + 1 = H.length; omega) (xringT l v).1 (xringT l v).2
  have ho2 : X2[X.length]? = some (⟨43, (keyN 10).map byteC, 1⟩ : PObj) := hE.same _ _ (get_last X _) (by show ¬ X.length = H.length; omega) (fun h => absurd (show 43 = keyT from h) (by decide)) (fun h => absurd (show 43 = boxT from h) (by decide))
  have h45 := c45 hx2 (by omega) hkk e (by rw [q4]; exact keyN_len _) (by rw [q1, q2, q3]) (by rw [q1]; decide) (by rw [q2]; decide)
  rw [q1, q2, q4, hR] at h45
  have hX3 : xaddH X2 (H.length + 1) v l e = X2.set (H.length + 1) (xringO (l ++ [e]) (v + 2)) := by unfold xaddH; rw [q1, q2, hb]
  rw [hX3] at h45
  have eX : (H ++ [ringO [] 0]).length = H.length + 1 := by simp
  refine drawK_of2 D16 [X2, X2.set (H.length + 1) (xringO (l ++ [e]) (v + 2))] (by kernel_rfl) ?_ trivial ?_
  ·exact rfl
  conv => whnf
  iterate 3 (refine dS ?_; (conv => whnf))
  apply Exists.intro
  apply And.intro
  ·conv => whnf
   exact ⟨⟨show (0 : Int) ≤ ((0 : Nat) : Int) by decide, show ((0 : Nat) : Int) < 5 by decide⟩, [.str aedu, .str (krb aedu)], nmAt (x := nm0[0]) rfl, rfl, rfl, trivial⟩
  conv => whnf
  (refine dS ?_; (conv => whnf))
  apply Exists.intro
  apply And.intro
  ·conv => whnf
   ((conv in (_[_]?) => tactic => exact ho2); (conv => whnf))
   exact ⟨rfl, rfl, trivial⟩
  conv => whnf
  refine ⟨_, callK_args (args' := [.ptr (some (H.length + 1, 0)), .agg [.str aedu, .str (krb aedu)], .agg ((keyN 10).map byteC)]) (by rw [← eX]; rfl) (callK_of h45 (by rintro _ _ ⟨rfl, rfl⟩; exact ⟨rfl, rfl, trivial⟩)), ?_⟩
  conv => whnf
  refine ⟨fun _ => ?_, fun h => absurd rfl h⟩
  conv => whnf
  have eS : Evo (· = H.length + 1) X2 (X2.set (H.length + 1) (xringO (l ++ [e]) (v + 2))) := Evo.setOther hx2 rfl (xringT l v).1 (xringT l v).2
  refine ⟨⟨0 + 1, X2.set (H.length + 1) (xringO (l ++ [e]) (v + 2))⟩, ⟨(show 0 + 1 ≤ 5 by decide), ⟨l ++ [e], v + 2, hsm.snoc (x := nm0[0]) rfl e q1 q2 (q3.trans (by rw [hno]; rfl)) q4, hinc.snoc (by rw [q1, q2, q3]), hra2.evo eS (by show ¬ H.length = H.length + 1; omega), get_set hx2⟩,
   ((hev.trans (Evo.app X [(⟨43, (keyN 10).map byteC, 1⟩ : PObj)])).trans (hE.mono fun _ h => .inl h)).trans (eS.mono fun _ h => .inr h)⟩, ⟨rfl, rfl, rfl, rfl, rfl, trivial⟩, rfl, (show 5 - (0 + 1) < 5 - 0 by decide)⟩
 | 1, hk, hsm =>
  conv => whnf
  refine ⟨fun _ => ?_, fun h => absurd (show ((1 : Nat) : Int) < 5 by decide) h⟩
  conv => whnf
  refine callK_args (args' := [byteC 11]) rfl (callK_pure (c19 11) ?_)
  conv => whnf
  ((conv in (_[_]?) => tactic => exact get_last X _); (conv => whnf))
  refine drawK_pure2 (by kernel_rfl) ?_
  conv => whnf
  iterate 2 (refine dS ?_; (conv => whnf))
  apply Exists.intro
  apply And.intro
  ·conv => whnf
   exact ⟨⟨show (0 : Int) ≤ ((1 : Nat) : Int) by decide, show ((1 : Nat) : Int) < 5 by decide⟩, [.str aedu, .str (krb edu)], nmAt (x := nm0[1]) rfl, rfl, rfl, trivial⟩
  conv => whnf
  (refine dS ?_; (conv => whnf))
  refine ⟨_, callK_pure k2 ⟨rfl, rfl, trivial⟩, ?_⟩
  conv => whnf
  refine ⟨.bool true, ?_, ?_⟩
  ·conv => whnf
   exact ⟨⟨fitBg _ _, fitBg _ _⟩, fun _ => ⟨rfl, rfl, trivial⟩, fun h => absurd rfl h⟩
  conv => whnf
  refine callK_args (args' := [byteC 99]) rfl (callK_pure (c19 99) ?_)
  conv => whnf
  ((conv in (_[_]?) => tactic => exact hat _ _); (conv => whnf))
  obtain ⟨v1, hv1⟩ := (hra.evo (S := fun _ => False) (Evo.app X [(⟨43, (keyN 99).map byteC, 2⟩ : PObj)]) id).ex
  have hx1 : (X ++ [(⟨43, (keyN 99).map byteC, 2⟩ : PObj)])[H.length + 1]? = some (xringO l v) := by rw [List.getElem?_append_left (List.getElem?_eq_some_iff.1 hx).1]; exact hx
  have hno : lastE (isP aedu (krb edu)) l = none := hsm.none (by decide)
  have hpr : isPrincB aedu (krb edu) = true := by kernel_rfl
  obtain ⟨X2, hX2⟩ : ∃ X2, X2 = addH (X ++ [(⟨43, (keyN 99).map byteC, 2⟩ : PObj)]) H.length v1 l aedu (krb edu) (keyN 99) := ⟨_, rfl⟩
  have hl5 : l.length ≤ 4 := by have := hsm.len hk; omega
  have hkk : ∀ e ∈ l, e.key.length = 32 ∧ e.kv ≤ 1000 := fun e he => ⟨hra.klen e he, by obtain ⟨x, _, _, _, h3, _⟩ := hsm.mem he; omega⟩
  obtain ⟨hR, hb, hA⟩ := addY hv1 hl5 aedu (krb edu) (keyN 99) (keyN_len _) hpr hno
  rw [← hX2] at hA
  have h44 := c44 hv1 (by omega) hkk aedu (krb edu) (keyN 99) (keyN_len _) (by decide) (by decide)
  rw [hR, ← hX2] at h44
  refine drawK_of2 D15 [X ++ [(⟨43, (keyN 99).map byteC, 2⟩ : PObj)], X2] (by kernel_rfl) ?_ trivial ?_
  ·exact ((congrArg (fun z => List.set z X.length _) (set_last X _ _)).trans (set_last X _ _)).symm
  conv => whnf
  iterate 3 (refine dS ?_; (conv => whnf))
  apply Exists.intro
  apply And.intro
  ·conv => whnf
   exact ⟨⟨show (0 : Int) ≤ ((1 : Nat) : Int) by decide, show ((1 : Nat) : Int) < 5 by decide⟩, [.str aedu, .str (krb edu)], nmAt (x := nm0[1]) rfl, rfl, rfl, trivial⟩
  conv => whnf
  (refine dS ?_; (conv => whnf))
  apply Exists.intro
  apply And.intro
  ·conv => whnf
   ((conv in (_[_]?) => tactic => exact get_last X _); (conv => whnf))
   exact ⟨rfl, rfl, trivial⟩
  conv => whnf
  refine ⟨_, callK_of h44 (by rintro _ _ ⟨rfl, rfl⟩; exact ⟨rfl, rfl, trivial⟩), ?_⟩
  conv => whnf
  iterate 5 (refine dS ?_; (conv => whnf))
  conv => whnf
  obtain ⟨e, q1, q2, q3, q4, hra2⟩ := (hra.evo (S := fun _ => False) (Evo.app X [(⟨43, (keyN 99).map byteC, 2⟩ : PObj)]) id).add hA
  have hE := hA.evo
  have hlt := (List.getElem?_eq_some_iff.1 hx).1
  have hx2 : X2[H.length + 1]? = some (xringO l v) := hE.same _ _ hx1 (by show ¬ H.length + 1 = H.length; omega) (xringT l v).1 (xringT l v).2
  have ho2 : X2[X.length]? = some (⟨43, (keyN 99).map byteC, 2⟩ : PObj) := hE.same _ _ (get_last X _) (by show ¬ X.length = H.length; omega) (fun h => absurd (show 43 = keyT from h) (by decide)) (fun h => absurd (show 43 = boxT from h) (by decide))
  have h45 := c45 hx2 (by omega) hkk e (by rw [q4]; exact keyN_len _) (by rw [q1, q2, q3]) (by rw [q1]; decide) (by rw [q2]; decide)
  rw [q1, q2, q4, hR] at h45
  have hX3 : xaddH X2 (H.length + 1) v l e = X2.set (H.length + 1) (xringO (l ++ [e]) (v + 2)) := by unfold xaddH; rw [q1, q2, hb]
  rw [hX3] at h45
  have eX : (H ++ [ringO [] 0]).length = H.length + 1 := by simp
  refine drawK_of2 D16 [X2, X2.set (H.length + 1) (xringO (l ++ [e]) (v + 2))] (by kernel_rfl) ?_ trivial ?_
  ·exact rfl
  conv => whnf
  iterate 3 (refine dS ?_; (conv => whnf))
  apply Exists.intro
  apply And.intro
  ·conv => whnf
   exact ⟨⟨show (0 : Int) ≤ ((1 : Nat) : Int) by decide, show ((1 : Nat) : Int) < 5 by decide⟩, [.str aedu, .str (krb edu)], nmAt (x := nm0[1]) rfl, rfl, rfl, trivial⟩
  conv => whnf
  (refine dS ?_; (conv => whnf))
  apply Exists.intro
  apply And.intro
  ·conv => whnf
   ((conv in (_[_]?) => tactic => exact ho2); (conv => whnf))
   exact ⟨rfl, rfl, trivial⟩
  conv => whnf
  refine ⟨_, callK_args (args' := [.ptr (some (H.length + 1, 0)), .agg [.str aedu, .str (krb edu)], .agg ((keyN 99).map byteC)]) (by rw [← eX]; rfl) (callK_of h45 (by rintro _ _ ⟨rfl, rfl⟩; exact ⟨rfl, rfl, trivial⟩)), ?_⟩
  conv => whnf
  refine ⟨fun _ => ?_, fun h => absurd rfl h⟩
  conv => whnf
  have eS : Evo (· = H.length + 1) X2 (X2.set (H.length + 1) (xringO (l ++ [e]) (v + 2))) := Evo.setOther hx2 rfl (xringT l v).1 (xringT l v).2
  refine ⟨⟨1 + 1, X2.set (H.length + 1) (xringO (l ++ [e]) (v + 2))⟩, ⟨(show 1 + 1 ≤ 5 by decide), ⟨l ++ [e], v + 2, hsm.snoc (x := nm0[1]) rfl e q1 q2 (q3.trans (by rw [hno]; rfl)) q4, hinc.snoc (by rw [q1, q2, q3]), hra2.evo eS (by show ¬ H.length = H.length + 1; omega), get_set hx2⟩,
   ((hev.trans (Evo.app X [(⟨43, (keyN 99).map byteC, 2⟩ : PObj)])).trans (hE.mono fun _ h => .inl h)).trans (eS.mono fun _ h => .inr h)⟩, ⟨rfl, rfl, rfl, rfl, rfl, trivial⟩, rfl, (show 5 - (1 + 1) < 5 - 1 by decide)⟩
 | 2, hk, hsm =>
  conv => whnf
  refine ⟨fun _ => ?_, fun h => absurd (show ((2 : Nat) : Int) < 5 by decide) h⟩
  conv => whnf
  refine callK_args (args' := [byteC 12]) rfl (callK_pure (c19 12) ?_)
  conv => whnf
  ((conv in (_[_]?) => tactic => exact get_last X _); (conv => whnf))
  refine drawK_pure2 (by kernel_rfl) ?_
  conv => whnf
  iterate 2 (refine dS ?_; (conv => whnf))
  apply Exists.intro
  apply And.intro
  ·conv => whnf
   exact ⟨⟨show (0 : Int) ≤ ((2 : Nat) : Int) by decide, show ((2 : Nat) : Int) < 5 by decide⟩, [.str edu, .str (krb aedu)], nmAt (x := nm0[2]) rfl, rfl, rfl, trivial⟩
  conv => whnf
  (refine dS ?_; (conv => whnf))
  refine ⟨_, callK_pure k2 ⟨rfl, rfl, trivial⟩, ?_⟩
  conv => whnf
  refine ⟨.bool false, ?_, ?_⟩
  ·conv => whnf
   exact ⟨⟨fitBg _ _, fitBg _ _⟩, fun h => absurd (prEq h) (by decide), fun _ => ⟨rfl, rfl, trivial⟩⟩
  conv => whnf
  obtain ⟨v1, hv1⟩ := (hra.evo (S := fun _ => False) (Evo.app X [(⟨43, (keyN 12).map byteC, 1⟩ : PObj)]) id).ex
  have hx1 : (X ++ [(⟨43, (keyN 12).map byteC, 1⟩ : PObj)])[H.length + 1]? = some (xringO l v) := by rw [List.getElem?_append_left (List.getElem?_eq_some_iff.1 hx).1]; exact hx
  have hno : lastE (isP edu (krb aedu)) l = none := hsm.none (by decide)
  have hpr : isPrincB edu (krb aedu) = true := by kernel_rfl
  obtain ⟨X2, hX2⟩ : ∃ X2, X2 = addH (X ++ [(⟨43, (keyN 12).map byteC, 1⟩ : PObj)]) H.length v1 l edu (krb aedu) (keyN 12) := ⟨_, rfl⟩
  have hl5 : l.length ≤ 4 := by have := hsm.len hk; omega
  have hkk : ∀ e ∈ l, e.key.length = 32 ∧ e.kv ≤ 1000 := fun e he => ⟨hra.klen e he, by obtain ⟨x, _, _, _, h3, _⟩ := hsm.mem he; omega⟩
  obtain ⟨hR, hb, hA⟩ := addY hv1 hl5 edu (krb aedu) (keyN 12) (keyN_len _) hpr hno
  rw [← hX2] at hA
  have h44 := c44 hv1 (by omega) hkk edu (krb aedu) (keyN 12) (keyN_len _) (by decide) (by decide)
  rw [hR, ← hX2] at h44
  refine drawK_of2 D15 [X ++ [(⟨43, (keyN 12).map byteC, 1⟩ : PObj)], X2] (by kernel_rfl) ?_ trivial ?_
  ·exact (set_last X _ _).symm
  conv => whnf
  iterate 3 (refine dS ?_; (conv => whnf))
  apply Exists.intro
  apply And.intro
  ·conv => whnf
   exact ⟨⟨show (0 : Int) ≤ ((2 : Nat) : Int) by decide, show ((2 : Nat) : Int) < 5 by decide⟩, [.str edu, .str (krb aedu)], nmAt (x := nm0[2]) rfl, rfl, rfl, trivial⟩
  conv => whnf
  (refine dS ?_; (conv => whnf))
  apply Exists.intro
  apply And.intro
  ·conv => whnf
   ((conv in (_[_]?) => tactic => exact get_last X _); (conv => whnf))
   exact ⟨rfl, rfl, trivial⟩
  conv => whnf
  refine ⟨_, callK_of h44 (by rintro _ _ ⟨rfl, rfl⟩; exact ⟨rfl, rfl, trivial⟩), ?_⟩
  conv => whnf
  iterate 5 (refine dS ?_; (conv => whnf))
  conv => whnf
  obtain ⟨e, q1, q2, q3, q4, hra2⟩ := (hra.evo (S := fun _ => False) (Evo.app X [(⟨43, (keyN 12).map byteC, 1⟩ : PObj)]) id).add hA
  have hE := hA.evo
  have hlt := (List.getElem?_eq_some_iff.1 hx).1
  have hx2 : X2[H.length + 1]? = some (xringO l v) := hE.same _ _ hx1 (by show ¬ H.length + 1 = H.length; omega) (xringT l v).1 (xringT l v).2
  have ho2 : X2[X.length]? = some (⟨43, (keyN 12).map byteC, 1⟩ : PObj) := hE.same _ _ (get_last X _) (by show ¬ X.length = H.length; omega) (fun h => absurd (show 43 = keyT from h) (by decide)) (fun h => absurd (show 43 = boxT from h) (by decide))
  have h45 := c45 hx2 (by omega) hkk e (by rw [q4]; exact keyN_len _) (by rw [q1, q2, q3]) (by rw [q1]; decide) (by rw [q2]; decide)
  rw [q1, q2, q4, hR] at h45
  have hX3 : xaddH X2 (H.length + 1) v l e = X2.set (H.length + 1) (xringO (l ++ [e]) (v + 2)) := by unfold xaddH; rw [q1, q2, hb]
  rw [hX3] at h45
  have eX : (H ++ [ringO [] 0]).length = H.length + 1 := by simp
  refine drawK_of2 D16 [X2, X2.set (H.length + 1) (xringO (l ++ [e]) (v + 2))] (by kernel_rfl) ?_ trivial ?_
  ·exact rfl
  conv => whnf
  iterate 3 (refine dS ?_; (conv => whnf))
  apply Exists.intro
  apply And.intro
  ·conv => whnf
   exact ⟨⟨show (0 : Int) ≤ ((2 : Nat) : Int) by decide, show ((2 : Nat) : Int) < 5 by decide⟩, [.str edu, .str (krb aedu)], nmAt (x := nm0[2]) rfl, rfl, rfl, trivial⟩
  conv => whnf
  (refine dS ?_; (conv => whnf))
  apply Exists.intro
  apply And.intro
  ·conv => whnf
   ((conv in (_[_]?) => tactic => exact ho2); (conv => whnf))
   exact ⟨rfl, rfl, trivial⟩
  conv => whnf
  refine ⟨_, callK_args (args' := [.ptr (some (H.length + 1, 0)), .agg [.str edu, .str (krb aedu)], .agg ((keyN 12).map byteC)]) (by rw [← eX]; rfl) (callK_of h45 (by rintro _ _ ⟨rfl, rfl⟩; exact ⟨rfl, rfl, trivial⟩)), ?_⟩
  conv => whnf
  refine ⟨fun _ => ?_, fun h => absurd rfl h⟩
  conv => whnf
  have eS : Evo (· = H.length + 1) X2 (X2.set (H.length + 1) (xringO (l ++ [e]) (v + 2))) := Evo.setOther hx2 rfl (xringT l v).1 (xringT l v).2
  refine ⟨⟨2 + 1, X2.set (H.length + 1) (xringO (l ++ [e]) (v + 2))⟩, ⟨(show 2 + 1 ≤ 5 by decide), ⟨l ++ [e], v + 2, hsm.snoc (x := nm0[2]) rfl e q1 q2 (q3.trans (by rw [hno]; rfl)) q4, hinc.snoc (by rw [q1, q2, q3]), hra2.evo eS (by show ¬ H.length = H.length + 1; omega), get_set hx2⟩,
   ((hev.trans (Evo.app X [(⟨43, (keyN 12).map byteC, 1⟩ : PObj)])).trans (hE.mono fun _ h => .inl h)).trans (eS.mono fun _ h => .inr h)⟩, ⟨rfl, rfl, rfl, rfl, rfl, trivial⟩, rfl, (show 5 - (2 + 1) < 5 - 2 by decide)⟩
 | 3, hk, hsm =>
  conv => whnf
  refine ⟨fun _ => ?_, fun h => absurd (show ((3 : Nat) : Int) < 5 by decide) h⟩
  conv => whnf
  refine callK_args (args' := [byteC 13]) rfl (callK_pure (c19 13) ?_)
  conv => whnf
  ((conv in (_[_]?) => tactic => exact get_last X _); (conv => whnf))
  refine drawK_pure2 (by kernel_rfl) ?_
  conv => whnf
  iterate 2 (refine dS ?_; (conv => whnf))
  apply Exists.intro
  apply And.intro
  ·conv => whnf
   exact ⟨⟨show (0 : Int) ≤ ((3 : Nat) : Int) by decide, show ((3 : Nat) : Int) < 5 by decide⟩, [.str aedu, .str (ann)], nmAt (x := nm0[3]) rfl, rfl, rfl, trivial⟩
  conv => whnf
  (refine dS ?_; (conv => whnf))
  refine ⟨_, callK_pure k2 ⟨rfl, rfl, trivial⟩, ?_⟩
  conv => whnf
  refine ⟨.bool false, ?_, ?_⟩
  ·conv => whnf
   exact ⟨⟨fitBg _ _, fitBg _ _⟩, fun h => absurd (prEq h) (by decide), fun _ => ⟨rfl, rfl, trivial⟩⟩
  conv => whnf
  obtain ⟨v1, hv1⟩ := (hra.evo (S := fun _ => False) (Evo.app X [(⟨43, (keyN 13).map byteC, 1⟩ : PObj)]) id).ex
  have hx1 : (X ++ [(⟨43, (keyN 13).map byteC, 1⟩ : PObj)])[H.length + 1]? = some (xringO l v) := by rw [List.getElem?_append_left (List.getElem?_eq_some_iff.1 hx).1]; exact hx
  have hno : lastE (isP aedu (ann)) l = none := hsm.none (by decide)
  have hpr : isPrincB aedu (ann) = true := by kernel_rfl
  obtain ⟨X2, hX2⟩ : ∃ X2, X2 = addH (X ++ [(⟨43, (keyN 13).map byteC, 1⟩ : PObj)]) H.length v1 l aedu (ann) (keyN 13) := ⟨_, rfl⟩
  have hl5 : l.length ≤ 4 := by have := hsm.len hk; omega
  have hkk : ∀ e ∈ l, e.key.length = 32 ∧ e.kv ≤ 1000 := fun e he => ⟨hra.klen e he, by obtain ⟨x, _, _, _, h3, _⟩ := hsm.mem he; omega⟩
  obtain ⟨hR, hb, hA⟩ := addY hv1 hl5 aedu (ann) (keyN 13) (keyN_len _) hpr hno
  rw [← hX2] at hA
  have h44 := c44 hv1 (by omega) hkk aedu (ann) (keyN 13) (keyN_len _) (by decide) (by decide)
  rw [hR, ← hX2] at h44
  refine drawK_of2 D15 [X ++ [(⟨43, (keyN 13).map byteC, 1⟩ : PObj)], X2] (by kernel_rfl) ?_ trivial ?_
  ·exact (set_last X _ _).symm
  conv => whnf
  iterate 3 (refine dS ?_; (conv => whnf))
  apply Exists.intro
  apply And.intro
  ·conv => whnf
   exact ⟨⟨show (0 : Int) ≤ ((3 : Nat) : Int) by decide, show ((3 : Nat) : Int) < 5 by decide⟩, [.str aedu, .str (ann)], nmAt (x := nm0[3]) rfl, rfl, rfl, trivial⟩
  conv => whnf
  (refine dS ?_; (conv => whnf))
  apply Exists.intro
  apply And.intro
  ·conv => whnf
   ((conv in (_[_]?) => tactic => exact get_last X _); (conv => whnf))
   exact ⟨rfl, rfl, trivial⟩
  conv => whnf
  refine ⟨_, callK_of h44 (by rintro _ _ ⟨rfl, rfl⟩; exact ⟨rfl, rfl, trivial⟩), ?_⟩
  conv => whnf
  iterate 5 (refine dS ?_; (conv => whnf))
  conv => whnf
  obtain ⟨e, q1, q2, q3, q4, hra2⟩ := (hra.evo (S := fun _ => False) (Evo.app X [(⟨43, (keyN 13).map byteC, 1⟩ : PObj)]) id).add hA
  have hE := hA.evo
  have hlt := (List.getElem?_eq_some_iff.1 hx).1
  have hx2 : X2[H.length + 1]? = some (xringO l v) := hE.same _ _ hx1 (by show ¬ H.length + 1 = H.length; omega) (xringT l v).1 (xringT l v).2
  have ho2 : X2[X.length]? = some (⟨43, (keyN 13).map byteC, 1⟩ : PObj) := hE.same _ _ (get_last X _) (by show ¬ X.length = H.length; omega) (fun h => absurd (show 43 = keyT from h) (by decide)) (fun h => absurd (show 43 = boxT from h) (by decide))
  have h45 := c45 hx2 (by omega) hkk e (by rw [q4]; exact keyN_len _) (by rw [q1, q2, q3]) (by rw [q1]; decide) (by rw [q2]; decide)
  rw [q1, q2, q4, hR] at h45
  have hX3 : xaddH X2 (H.length + 1) v l e = X2.set (H.length + 1) (xringO (l ++ [e]) (v + 2)) := by unfold xaddH; rw [q1, q2, hb]
  rw [hX3] at h45
  have eX : (H ++ [ringO [] 0]).length = H.length + 1 := by simp
  refine drawK_of2 D16 [X2, X2.set (H.length + 1) (xringO (l ++ [e]) (v + 2))] (by kernel_rfl) ?_ trivial ?_
  ·exact rfl
  conv => whnf
  iterate 3 (refine dS ?_; (conv => whnf))
  apply Exists.intro
  apply And.intro
  ·conv => whnf
   exact ⟨⟨show (0 : Int) ≤ ((3 : Nat) : Int) by decide, show ((3 : Nat) : Int) < 5 by decide⟩, [.str aedu, .str (ann)], nmAt (x := nm0[3]) rfl, rfl, rfl, trivial⟩
  conv => whnf
  (refine dS ?_; (conv => whnf))
  apply Exists.intro
  apply And.intro
  ·conv => whnf
   ((conv in (_[_]?) => tactic => exact ho2); (conv => whnf))
   exact ⟨rfl, rfl, trivial⟩
  conv => whnf
  refine ⟨_, callK_args (args' := [.ptr (some (H.length + 1, 0)), .agg [.str aedu, .str (ann)], .agg ((keyN 13).map byteC)]) (by rw [← eX]; rfl) (callK_of h45 (by rintro _ _ ⟨rfl, rfl⟩; exact ⟨rfl, rfl, trivial⟩)), ?_⟩
  conv => whnf
  refine ⟨fun _ => ?_, fun h => absurd rfl h⟩
  conv => whnf
  have eS : Evo (· = H.length + 1) X2 (X2.set (H.length + 1) (xringO (l ++ [e]) (v + 2))) := Evo.setOther hx2 rfl (xringT l v).1 (xringT l v).2
  refine ⟨⟨3 + 1, X2.set (H.length + 1) (xringO (l ++ [e]) (v + 2))⟩, ⟨(show 3 + 1 ≤ 5 by decide), ⟨l ++ [e], v + 2, hsm.snoc (x := nm0[3]) rfl e q1 q2 (q3.trans (by rw [hno]; rfl)) q4, hinc.snoc (by rw [q1, q2, q3]), hra2.evo eS (by show ¬ H.length = H.length + 1; omega), get_set hx2⟩,
   ((hev.trans (Evo.app X [(⟨43, (keyN 13).map byteC, 1⟩ : PObj)])).trans (hE.mono fun _ h => .inl h)).trans (eS.mono fun _ h => .inr h)⟩, ⟨rfl, rfl, rfl, rfl, rfl, trivial⟩, rfl, (show 5 - (3 + 1) < 5 - 3 by decide)⟩
 | 4, hk, hsm =>
  conv => whnf
  refine ⟨fun _ => ?_, fun h => absurd (show ((4 : Nat) : Int) < 5 by decide) h⟩
  conv => whnf
  refine callK_args (args' := [byteC 14]) rfl (callK_pure (c19 14) ?_)
  conv => whnf
  ((conv in (_[_]?) => tactic => exact get_last X _); (conv => whnf))
  refine drawK_pure2 (by kernel_rfl) ?_
  conv => whnf
  iterate 2 (refine dS ?_; (conv => whnf))
  apply Exists.intro
  apply And.intro
  ·conv => whnf
   exact ⟨⟨show (0 : Int) ≤ ((4 : Nat) : Int) by decide, show ((4 : Nat) : Int) < 5 by decide⟩, [.str aedu, .str (mail)], nmAt (x := nm0[4]) rfl, rfl, rfl, trivial⟩
  conv => whnf
  (refine dS ?_; (conv => whnf))
  refine ⟨_, callK_pure k2 ⟨rfl, rfl, trivial⟩, ?_⟩
  conv => whnf
  refine ⟨.bool false, ?_, ?_⟩
  ·conv => whnf
   exact ⟨⟨fitBg _ _, fitBg _ _⟩, fun h => absurd (prEq h) (by decide), fun _ => ⟨rfl, rfl, trivial⟩⟩
  conv => whnf
  obtain ⟨v1, hv1⟩ := (hra.evo (S := fun _ => False) (Evo.app X [(⟨43, (keyN 14).map byteC, 1⟩ : PObj)]) id).ex
  have hx1 : (X ++ [(⟨43, (keyN 14).map byteC, 1⟩ : PObj)])[H.length + 1]? = some (xringO l v) := by rw [List.getElem?_append_left (List.getElem?_eq_some_iff.1 hx).1]; exact hx
  have hno : lastE (isP aedu (mail)) l = none := hsm.none (by decide)
  have hpr : isPrincB aedu (mail) = true := by kernel_rfl
  obtain ⟨X2, hX2⟩ : ∃ X2, X2 = addH (X ++ [(⟨43, (keyN 14).map byteC, 1⟩ : PObj)]) H.length v1 l aedu (mail) (keyN 14) := ⟨_, rfl⟩
  have hl5 : l.length ≤ 4 := by have := hsm.len hk; omega
  have hkk : ∀ e ∈ l, e.key.length = 32 ∧ e.kv ≤ 1000 := fun e he => ⟨hra.klen e he, by obtain ⟨x, _, _, _, h3, _⟩ := hsm.mem he; omega⟩
  obtain ⟨hR, hb, hA⟩ := addY hv1 hl5 aedu (mail) (keyN 14) (keyN_len _) hpr hno
  rw [← hX2] at hA
  have h44 := c44 hv1 (by omega) hkk aedu (mail) (keyN 14) (keyN_len _) (by decide) (by decide)
  rw [hR, ← hX2] at h44
  refine drawK_of2 D15 [X ++ [(⟨43, (keyN 14).map byteC, 1⟩ : PObj)], X2] (by kernel_rfl) ?_ trivial ?_
  ·exact (set_last X _ _).symm
  conv => whnf
  iterate 3 (refine dS ?_; (conv => whnf))
  apply Exists.intro
  apply And.intro
  ·conv => whnf
   exact ⟨⟨show (0 : Int) ≤ ((4 : Nat) : Int) by decide, show ((4 : Nat) : Int) < 5 by decide⟩, [.str aedu, .str (mail)], nmAt (x := nm0[4]) rfl, rfl, rfl, trivial⟩
  conv => whnf
  (refine dS ?_; (conv => whnf))
  apply Exists.intro
  apply And.intro
  ·conv => whnf
   ((conv in (_[_]?) => tactic => exact get_last X _); (conv => whnf))
   exact ⟨rfl, rfl, trivial⟩
  conv => whnf
  refine ⟨_, callK_of h44 (by rintro _ _ ⟨rfl, rfl⟩; exact ⟨rfl, rfl, trivial⟩), ?_⟩
  conv => whnf
  iterate 5 (refine dS ?_; (conv => whnf))
  conv => whnf
  obtain ⟨e, q1, q2, q3, q4, hra2⟩ := (hra.evo (S := fun _ => False) (Evo.app X [(⟨43, (keyN 14).map byteC, 1⟩ : PObj)]) id).add hA
  have hE := hA.evo
  have hlt := (List.getElem?_eq_some_iff.1 hx).1
  have hx2 : X2[H.length + 1]? = some (xringO l v) := hE.same _ _ hx1 (by show ¬ H.length + 1 = H.length; omega) (xringT l v).1 (xringT l v).2
  have ho2 : X2[X.length]? = some (⟨43, (keyN 14).map byteC, 1⟩ : PObj) := hE.same _ _ (get_last X _) (by show ¬ X.length = H.length; omega) (fun h => absurd (show 43 = keyT from h) (by decide)) (fun h => absurd (show 43 = boxT from h) (by decide))
  have h45 := c45 hx2 (by omega) hkk e (by rw [q4]; exact keyN_len _) (by rw [q1, q2, q3]) (by rw [q1]; decide) (by rw [q2]; decide)
  rw [q1, q2, q4, hR] at h45
  have hX3 : xaddH X2 (H.length + 1) v l e = X2.set (H.length + 1) (xringO (l ++ [e]) (v + 2)) := by unfold xaddH; rw [q1, q2, hb]
  rw [hX3] at h45
  have eX : (H ++ [ringO [] 0]).length = H.length + 1 := by simp
  refine drawK_of2 D16 [X2, X2.set (H.length + 1) (xringO (l ++ [e]) (v + 2))] (by kernel_rfl) ?_ trivial ?_
  ·exact rfl
  conv => whnf
  iterate 3 (refine dS ?_; (conv => whnf))
  apply Exists.intro
  apply And.intro
  ·conv => whnf
   exact ⟨⟨show (0 : Int) ≤ ((4 : Nat) : Int) by decide, show ((4 : Nat) : Int) < 5 by decide⟩, [.str aedu, .str (mail)], nmAt (x := nm0[4]) rfl, rfl, rfl, trivial⟩
  conv => whnf
  (refine dS ?_; (conv => whnf))
  apply Exists.intro
  apply And.intro
  ·conv => whnf
   ((conv in (_[_]?) => tactic => exact ho2); (conv => whnf))
   exact ⟨rfl, rfl, trivial⟩
  conv => whnf
  refine ⟨_, callK_args (args' := [.ptr (some (H.length + 1, 0)), .agg [.str aedu, .str (mail)], .agg ((keyN 14).map byteC)]) (by rw [← eX]; rfl) (callK_of h45 (by rintro _ _ ⟨rfl, rfl⟩; exact ⟨rfl, rfl, trivial⟩)), ?_⟩
  conv => whnf
  refine ⟨fun _ => ?_, fun h => absurd rfl h⟩
  conv => whnf
  have eS : Evo (· = H.length + 1) X2 (X2.set (H.length + 1) (xringO (l ++ [e]) (v + 2))) := Evo.setOther hx2 rfl (xringT l v).1 (xringT l v).2
  refine ⟨⟨4 + 1, X2.set (H.length + 1) (xringO (l ++ [e]) (v + 2))⟩, ⟨(show 4 + 1 ≤ 5 by decide), ⟨l ++ [e], v + 2, hsm.snoc (x := nm0[4]) rfl e q1 q2 (q3.trans (by rw [hno]; rfl)) q4, hinc.snoc (by rw [q1, q2, q3]), hra2.evo eS (by show ¬ H.length = H.length + 1; omega), get_set hx2⟩,
   ((hev.trans (Evo.app X [(⟨43, (keyN 14).map byteC, 1⟩ : PObj)])).trans (hE.mono fun _ h => .inl h)).trans (eS.mono fun _ h => .inr h)⟩, ⟨rfl, rfl, rfl, rfl, rfl, trivial⟩, rfl, (show 5 - (4 + 1) < 5 - 4 by decide)⟩
 | 5, hk, hsm =>
  conv => whnf
  refine ⟨fun h => absurd h (show ¬ ((5 : Nat) : Int) < 5 by decide), fun _ => ?_⟩
  conv => whnf
  refine callK_pure c42 ?_
  conv => whnf
  refine callK_of (c41 tree0 aedu (by decide) H.length 0 X) ?_
  rintro _ _ ⟨rfl, rfl⟩
  conv => whnf
  refine callK_pure c42 ?_
  conv => whnf
  have his : ∀ r ∈ rs0, isRealmB r = true ∧ r.length ≤ 1000 := by
   intro r hr
   have : (isRealmB r && decide (r.length ≤ 1000)) = true := by
    revert r
    rw [← List.all_eq_true (l := rs0)]
    kernel_rfl
   simp only [Bool.and_eq_true, decide_eq_true_eq] at this
   exact this
  refine callK_of (c46 tree0 his aedu (by decide) (H ++ [ringO [] 0]).length 0 _) ?_
  rintro _ _ ⟨rfl, rfl⟩
  conv => whnf
  refine ⟨fun _ => ?_, fun h => absurd rfl h⟩
  conv => whnf
  have eX : (H ++ [ringO [] 0]).length = H.length + 1 := by simp
  have g1 : ∀ A B C : PObj, (X ++ [A] ++ [B] ++ [C])[X.length]? = some A := fun A B C => by simp
  have g2 : ∀ A B C : PObj, (X ++ [A] ++ [B] ++ [C])[(X ++ [A]).length]? = some B := fun A B C => by simp
  have g3 : ∀ A B C : PObj, (X ++ [A] ++ [B] ++ [C])[(X ++ [A] ++ [B]).length]? = some C := fun A B C => by simp
  have gE : ∀ A B C : PObj, Evo (fun _ => False) X (X ++ [A] ++ [B] ++ [C]) := fun A B C => ((Evo.app X [A]).trans (Evo.app _ [B])).trans (Evo.app _ [C])
  have hl : l.length = 5 := hsm.len (Nat.le_refl 5)
  have eH : Evo (fun _ => False) H X := by
   have h0 : Evo (fun i => (False ∨ i = H.length) ∨ i = H.length + 1) H X := (((Evo.app H [ringO [] 0]).trans (Evo.app _ [xringO [] 0])).trans (hev.mono fun _ h => h.elim (fun h => .inl (.inr h)) .inr))
   exact Evo.drop (S := fun _ => False) (Evo.drop (S := fun i => False ∨ i = H.length) (a := H.length + 1) h0 (Nat.le_succ _)) (Nat.le_refl _)
  refine ⟨X.length, (X ++ [kdcO aedu (.slice 3 (rs0.map .str) none) (.slice 4 (ls0.flatMap prC) none) (.slice 0 [] none) H.length 0 0 0]).length, _, l, v, rfl, hsm, hinc, ⟨hra.evo (gE _ _ _) id, by omega, ⟨0, g1 _ _ _⟩⟩, ?_, (gE _ _ _).same _ _ hx id (xringT l v).1 (xringT l v).2, g3 _ _ _, eH.trans (gE _ _ _)⟩
  rw [← eX]
  exact g2 _ _ _
set_option maxHeartbeats 8000000
def asMsg (q : AsQ) : Msg := { mZ with kind := 1, a1 := q.cr, a2 := q.cn, a3 := q.sr, a4 := q.sn, aTill := q.till, aNonce := q.nonce }
theorem asMsg_is (q : AsQ) : isB (asMsg q) = q.ok := by
 have h : isB (asMsg q) = ((isPrincB q.cr q.cn && isPrincB q.sr q.sn && inZ q.till 0 1073741824 && inZ q.nonce 0 1073741824) && othersB (asMsg q)) := rfl
 have h2 : othersB (asMsg q) = true := rfl
 rw [h, h2, Bool.and_true]; rfl
theorem asMsg_len (q : AsQ) (h : q.ok = true) : (laidB (asMsg q)).length ≤ 2000 := by
 unfold AsQ.ok at h
 simp only [Bool.and_eq_true] at h
 have g1 := princ_len h.1.1.1
 have g2 := princ_len h.1.1.2
 have h0 := wrapB_len 106 [princE q.cr q.cn, princE q.sr q.sn, intE q.till, intE q.nonce].flatten
 have e1 := princE_len q.cr q.cn
 have e2 := princE_len q.sr q.sn
 have e3 := intE_len q.till
 have e4 := intE_len q.nonce
 simp only [List.flatten_cons, List.flatten_nil, List.length_append, List.length_nil] at h0
 show (wrapB 106 [princE q.cr q.cn, princE q.sr q.sn, intE q.till, intE q.nonce].flatten).length ≤ 2000
 simp only [List.flatten_cons, List.flatten_nil]
 omega
theorem encAs_yes (q : AsQ) (h : q.ok = true) : encV (asMsg q) = .tup [sl (laidB (asMsg q)), .int .i64 0] := encV_yes ⟨(asMsg_is q).trans h, asMsg_len q h⟩
theorem encAs_no (q : AsQ) (h : q.ok = false) : encV (asMsg q) = .tup [.slice 0 [] (some 5), .int .i64 1] := encV_no fun hh => by rw [asMsg_is q, h] at hh; exact absurd hh.1 (by decide)
theorem c50x {H : PH} {kid rid : Nat} {realm : List UInt8} {rs ls ps : PV} {n i : Int} {v : Nat} (hv : H[kid]? = some (kdcO realm rs ls ps rid n i v)) (r : List UInt8) (hr : r.length ≤ 1000000) :
  CallOk prog 50 [.ptr (some (kid, 0)), .str r] H fun x H' => x = .agg [.str realm, .str (krb r)] ∧ ∃ ext, H' = H ++ ext := by
 have hv2 : ∀ o, (H ++ [o])[kid]? = some (kdcO realm rs ls ps rid n i v) := fun o => by rw [List.getElem?_append_left (List.getElem?_eq_some_iff.1 hv).1]; exact hv
 (refine fnS (imm := imm50) ttK_ok func50 ?_; (conv => whnf))
 refine drawK_tail 6 {} [H ++ [(⟨25, [.str [], .str []], 0⟩ : PObj)]] (by kernel_rfl) rfl trivial ?_
 conv => whnf
 iterate 3 (refine dS ?_; (conv => whnf))
 apply Exists.intro
 apply And.intro
 ·conv => whnf
  ((conv in (_[_]?) => tactic => exact hv2 _); (conv => whnf))
  exact ⟨rfl, rfl, trivial⟩
 conv => whnf
 (refine dS ?_; (conv => whnf))
 refine ⟨_, callK_pure (c105 r (by omega)) ⟨rfl, rfl, trivial⟩, ?_⟩
 conv => whnf
 ((conv in (_[_]?) => tactic => exact get_last H _); (conv => whnf))
 ((conv in (_[_]?) => tactic => exact (show ((H ++ [_]).set H.length _)[H.length]? = some _ from List.getElem?_set_self (by simp))); (conv => whnf))
 refine ⟨rfl, [⟨25, [.str realm, .str (krb r)], 1⟩], ?_⟩
 show (H ++ [_]).set H.length _ = _
 rw [set_last]; rfl
theorem c50 {H : PH} {kid rid : Nat} {realm : List UInt8} {rs ls ps : PV} {n i : Int} {v : Nat} (hv : H[kid]? = some (kdcO realm rs ls ps rid n i v)) (r : List UInt8) (hr : r.length ≤ 1000000) :
  CallOk prog 50 [.ptr (some (kid, 0)), .str r] H fun x H' => x = .agg [.str realm, .str (krb r)] ∧ H' = H :=
 ((c50x hv r hr).gc fun r H' hh => ⟨by rw [hh.1]; rfl, hh.2⟩).mono fun x H' hh => ⟨hh.2.elim fun _ h => h.1, hh.1⟩
theorem fitK (a b : List UInt8) : FitP ttK 6 25 [.str a, .str b] := ⟨rfl, ⟨by show 1 ≤ 2; omega, a, rfl⟩, rfl, ⟨by show 1 ≤ 1; omega, b, rfl⟩, rfl⟩
theorem two_eq {a b c d : List UInt8} (h : [PV.str a, .str b] = [.str c, .str d]) : a = c ∧ b = d := by
 injection h with h1 h2
 injection h1 with h1
 injection h2 with h2 _
 injection h2 with h2
 exact ⟨h1, h2⟩
theorem two_eq' {a b c d : List UInt8} (h : a = c ∧ b = d) : [PV.str a, .str b] = [.str c, .str d] := by rw [h.1, h.2]
structure AsQ.fit (q : AsQ) : Prop where
 cr : q.cr.length ≤ 1000000
 cn : q.cn.length ≤ 1000000
 sr : q.sr.length ≤ 1000000
 sn : q.sn.length ≤ 1000000
set_option maxHeartbeats 4000000
theorem c51d {H : PH} {kid rid : Nat} {realm : List UInt8} {rs ls ps : PV} {l : List Ent} {n i : Nat} (hK : Kd H kid rid realm rs ls ps l n i) (hn : n ≤ 100000) (hi : i ≤ 100000)
  (sr sn : List UInt8) (hsr : sr.length ≤ 1000000) (hsn : sn.length ≤ 1000000) (p : Prt) (hr : p.r.length ≤ 1000000) (hpn : p.n.length ≤ 1000000) (ht : p.tr.length ≤ 1000000) (nonce : Int) (bid : Nat) (bkey : List UInt8) (hb : BoxAt H bid bkey) (u : Int) (hu : isUseB u = true) :
  ∃ H1, (Kd H1 kid rid realm rs ls ps l (bump (makeV l n sr sn p nonce bkey u) n 2) (bump (makeV l n sr sn p nonce bkey u) i 1) ∧ Evo (· = kid) H H1 ∧ H1.length = H.length + 1) ∧ CallOk prog 51 [.ptr (some (kid, 0)), .agg ([.str sr, .str sn] ++ p.cells ++ [.int .i64 nonce, .ptr (some (bid, 0)), .int .i64 u])] H fun x H' =>
   x = .tup [.agg (makeV l n sr sn p nonce bkey u).1.cells, .int .i64 (makeV l n sr sn p nonce bkey u).2] ∧ H' = H1 := by
 have e1 : Evo (fun _ => False) H (H ++ [ansO]) := Evo.app H _
 have hK1 := hK.evo e1 id id
 have hb1 := e1.box _ _ hb
 have hlt : kid < H.length := by obtain ⟨v, hv⟩ := hK.k; exact (List.getElem?_eq_some_iff.1 hv).1
 have hne : H.length ≠ kid := by omega
 have ha : (H ++ [ansO])[H.length]? = some ansO := get_last H _
 obtain ⟨v1, hv1⟩ := hK1.k
 have hrl : rid < H.length := by have := hK.ring.ex.choose_spec; exact (List.getElem?_eq_some_iff.1 this).1
 have hg := lastGet hK1.ring (by have := hK1.len; omega) sr sn
 have hEp := c106s p hr hpn ht
 have hEr := c107s (rptOf p sr sn nonce) hsr hsn
 unfold makeV
 cases hL : lastE (isP sr sn) l with
 | none =>
  rw [hL] at hg
  have w : ∃ o, CallOk prog 51 [.ptr (some (kid, 0)), .agg ([.str sr, .str sn] ++ p.cells ++ [.int .i64 nonce, .ptr (some (bid, 0)), .int .i64 u])] H fun x H' => x = .tup [.agg (repZ).cells, .int .i64 4] ∧ H' = (H ++ [ansO]).set H.length o := by
   apply Exists.intro
   (refine fnS (imm := imm51) ttK_ok func51 ?_; (conv => whnf))
   refine drawK_pure2 (by kernel_rfl) ?_
   conv => whnf
   iterate 3 (refine dS ?_; (conv => whnf))
   apply Exists.intro
   apply And.intro
   ·conv => whnf
    ((conv in (_[_]?) => tactic => exact hv1); (conv => whnf))
    exact ⟨rfl, rfl, trivial⟩
   conv => whnf
   iterate 2 (refine dS ?_; (conv => whnf))
   refine ⟨_, callK_of hg (by rintro _ _ ⟨rfl, rfl⟩; exact ⟨rfl, rfl, trivial⟩), ?_⟩
   conv => whnf
   iterate 7 (refine dS ?_; (conv => whnf))
   refine ⟨fun h => absurd h (by decide), fun _ => ?_⟩
   conv => whnf
   ((conv in (_[_]?) => tactic => exact ha); (conv => whnf))
   ((conv in (_[_]?) => tactic => exact (show ((H ++ [ansO]).set H.length _)[H.length]? = some _ from get_set ha)); (conv => whnf))
   exact ⟨rfl, rfl⟩
  obtain ⟨o, ho⟩ := w
  have e2 : Evo (fun i => i = kid ∨ i = H.length) (H ++ [ansO]) ((H ++ [ansO]).set H.length o) := Evo.setOther ha (.inr rfl) ansT.1 ansT.2
  have e3 : Evo (fun i => i = H.length) (H ++ [ansO]) ((H ++ [ansO]).set H.length o) := Evo.setOther ha rfl ansT.1 ansT.2
  exact ⟨_, ⟨hK1.evo e3 (Ne.symm hne) (by show ¬ rid = H.length; omega), ((e1.mono fun _ h => h.elim).trans e2).drop (Nat.le_refl _), by simp⟩, ho⟩
 | some e =>
  rw [hL] at hg
  cases hP : isPartB p with
  | false =>
   rw [(ePrt p).2 hP] at hEp
   have w : ∃ o, CallOk prog 51 [.ptr (some (kid, 0)), .agg ([.str sr, .str sn] ++ p.cells ++ [.int .i64 nonce, .ptr (some (bid, 0)), .int .i64 u])] H fun x H' => x = .tup [.agg (repZ).cells, .int .i64 2] ∧ H' = (H ++ [ansO]).set H.length o := by
    apply Exists.intro
    (refine fnS (imm := imm51) ttK_ok func51 ?_; (conv => whnf))
    refine drawK_pure2 (by kernel_rfl) ?_
    conv => whnf
    iterate 3 (refine dS ?_; (conv => whnf))
    apply Exists.intro
    apply And.intro
    ·conv => whnf
     ((conv in (_[_]?) => tactic => exact hv1); (conv => whnf))
     exact ⟨rfl, rfl, trivial⟩
    conv => whnf
    iterate 2 (refine dS ?_; (conv => whnf))
    refine ⟨_, callK_of hg (by rintro _ _ ⟨rfl, rfl⟩; exact ⟨rfl, rfl, trivial⟩), ?_⟩
    conv => whnf
    iterate 7 (refine dS ?_; (conv => whnf))
    refine ⟨fun _ => ?_, fun h => absurd rfl h⟩
    conv => whnf
    refine callK_pure hEp ?_
    conv => whnf
    refine callK_pure hEr ?_
    conv => whnf
    refine ⟨fun h => absurd h (by decide), fun _ => ?_⟩
    conv => whnf
    ((conv in (_[_]?) => tactic => exact ha); (conv => whnf))
    ((conv in (_[_]?) => tactic => exact (show ((H ++ [ansO]).set H.length _)[H.length]? = some _ from get_set ha)); (conv => whnf))
    exact ⟨rfl, rfl⟩
   obtain ⟨o, ho⟩ := w
   have e2 : Evo (fun i => i = kid ∨ i = H.length) (H ++ [ansO]) ((H ++ [ansO]).set H.length o) := Evo.setOther ha (.inr rfl) ansT.1 ansT.2
   have e3 : Evo (fun i => i = H.length) (H ++ [ansO]) ((H ++ [ansO]).set H.length o) := Evo.setOther ha rfl ansT.1 ansT.2
   exact ⟨_, ⟨hK1.evo e3 (Ne.symm hne) (by show ¬ rid = H.length; omega), ((e1.mono fun _ h => h.elim).trans e2).drop (Nat.le_refl _), by simp⟩, ho⟩
  | true =>
   cases hR : isRptB (rptOf p sr sn nonce) with
   | false =>
    rw [((ePrt p).1 hP).1, ((ePrt p).1 hP).2] at hEp
    rw [(eRpt _).2 hR] at hEr
    have w : ∃ o, CallOk prog 51 [.ptr (some (kid, 0)), .agg ([.str sr, .str sn] ++ p.cells ++ [.int .i64 nonce, .ptr (some (bid, 0)), .int .i64 u])] H fun x H' => x = .tup [.agg (repZ).cells, .int .i64 2] ∧ H' = (H ++ [ansO]).set H.length o := by
     apply Exists.intro
     (refine fnS (imm := imm51) ttK_ok func51 ?_; (conv => whnf))
     refine drawK_pure2 (by kernel_rfl) ?_
     conv => whnf
     iterate 3 (refine dS ?_; (conv => whnf))
     apply Exists.intro
     apply And.intro
     ·conv => whnf
      ((conv in (_[_]?) => tactic => exact hv1); (conv => whnf))
      exact ⟨rfl, rfl, trivial⟩
     conv => whnf
     iterate 2 (refine dS ?_; (conv => whnf))
     refine ⟨_, callK_of hg (by rintro _ _ ⟨rfl, rfl⟩; exact ⟨rfl, rfl, trivial⟩), ?_⟩
     conv => whnf
     iterate 7 (refine dS ?_; (conv => whnf))
     refine ⟨fun _ => ?_, fun h => absurd rfl h⟩
     conv => whnf
     refine callK_pure hEp ?_
     conv => whnf
     refine callK_pure hEr ?_
     conv => whnf
     refine ⟨fun _ => ?_, fun h => absurd rfl h⟩
     conv => whnf
     refine ⟨fun h => absurd h (by decide), fun _ => ?_⟩
     conv => whnf
     ((conv in (_[_]?) => tactic => exact ha); (conv => whnf))
     ((conv in (_[_]?) => tactic => exact (show ((H ++ [ansO]).set H.length _)[H.length]? = some _ from get_set ha)); (conv => whnf))
     exact ⟨rfl, rfl⟩
    obtain ⟨o, ho⟩ := w
    have e2 : Evo (fun i => i = kid ∨ i = H.length) (H ++ [ansO]) ((H ++ [ansO]).set H.length o) := Evo.setOther ha (.inr rfl) ansT.1 ansT.2
    have e3 : Evo (fun i => i = H.length) (H ++ [ansO]) ((H ++ [ansO]).set H.length o) := Evo.setOther ha rfl ansT.1 ansT.2
    exact ⟨_, ⟨hK1.evo e3 (Ne.symm hne) (by show ¬ rid = H.length; omega), ((e1.mono fun _ h => h.elim).trans e2).drop (Nat.le_refl _), by simp⟩, ho⟩
   | true =>
    rw [((ePrt p).1 hP).1, ((ePrt p).1 hP).2] at hEp
    rw [((eRpt _).1 hR).1, ((eRpt _).1 hR).2] at hEr
    have hP7 := partL_784 hP
    have hR7 := rptL_784 hR
    have hP0 := Nat.zero_lt_of_ne_zero (show (partL p).length ≠ 0 from Nat.succ_ne_zero _)
    have hR0 := Nat.zero_lt_of_ne_zero (show (rptL (rptOf p sr sn nonce)).length ≠ 0 from Nat.succ_ne_zero _)
    show ∃ H1, (Kd H1 kid rid realm rs ls ps l (n + 2) (i + 1) ∧ Evo (· = kid) H H1 ∧ H1.length = H.length + 1) ∧ CallOk prog 51 [.ptr (some (kid, 0)), .agg ([.str sr, .str sn] ++ p.cells ++ [.int .i64 nonce, .ptr (some (bid, 0)), .int .i64 u])] H fun x H' =>
     x = .tup [.agg (RepO.cells ⟨p.r, p.n, sr, sn, e.kv, sealK e.key 2 (n + 1 : Int) (partL p), sealK bkey u (n + 2 : Int) (rptL (rptOf p sr sn nonce))⟩), .int .i64 0] ∧ H' = H1
    generalize partL p = pb at *
    generalize rptL (rptOf p sr sn nonce) = rb at *
    have hbx := hK1.ring.box e (lastE_mem hL)
    have hw1 : ((n : Int) + 1) = ((n + 1 : Nat) : Int) := by push_cast; rfl
    have hw2 : ((n : Int) + 2) = ((n + 2 : Nat) : Int) := by push_cast; rfl
    obtain ⟨hK2, e2⟩ := hK1.put (n + 1) i (v1 + 1)
    obtain ⟨H3, e3, l3, hc3⟩ := sealX (e2.box _ _ hbx) 2 ((n + 1 : Nat) : Int) rfl (by omega) (by omega) pb hP7 hP0
    have hK3 := hK2.evo e3 id id
    have hb3 := e3.box _ _ (e2.box _ _ hb1)
    obtain ⟨v3, hv3⟩ := hK3.k
    obtain ⟨hK4, e4⟩ := hK3.put (n + 2) i (v3 + 1)
    obtain ⟨H5, e5, l5, hc5⟩ := sealX (e4.box _ _ hb3) u ((n + 2 : Nat) : Int) hu (by omega) (by omega) rb hR7 hR0
    have hK5 := hK4.evo e5 id id
    obtain ⟨v5, hv5⟩ := hK5.k
    obtain ⟨hK6, e6⟩ := hK5.put (n + 2) (i + 1) (v5 + 1)
    have e16 : Evo (· = kid) (H ++ [ansO]) (H5.set kid (kdcO realm rs ls ps rid ((n + 2 : Nat) : Int) ((i + 1 : Nat) : Int) (v5 + 1))) := (((e2.trans (e3.mono fun _ h => h.elim)).trans e4).trans (e5.mono fun _ h => h.elim)).trans e6
    have ha6 := e16.same _ _ ha hne ansT.1 ansT.2
    have w : ∃ o, CallOk prog 51 [.ptr (some (kid, 0)), .agg ([.str sr, .str sn] ++ p.cells ++ [.int .i64 nonce, .ptr (some (bid, 0)), .int .i64 u])] H fun x H' => x = .tup [.agg (RepO.cells ⟨p.r, p.n, sr, sn, e.kv, sealK e.key 2 (n + 1 : Int) pb, sealK bkey u (n + 2 : Int) rb⟩), .int .i64 0] ∧ H' = (H5.set kid (kdcO realm rs ls ps rid ((n + 2 : Nat) : Int) ((i + 1 : Nat) : Int) (v5 + 1))).set H.length o := by
     apply Exists.intro
     (refine fnS (imm := imm51) ttK_ok func51 ?_; (conv => whnf))
     refine drawK_pure2 (by kernel_rfl) ?_
     conv => whnf
     iterate 3 (refine dS ?_; (conv => whnf))
     apply Exists.intro
     apply And.intro
     ·conv => whnf
      ((conv in (_[_]?) => tactic => exact hv1); (conv => whnf))
      exact ⟨rfl, rfl, trivial⟩
     conv => whnf
     iterate 2 (refine dS ?_; (conv => whnf))
     refine ⟨_, callK_of hg (by rintro _ _ ⟨rfl, rfl⟩; exact ⟨rfl, rfl, trivial⟩), ?_⟩
     conv => whnf
     iterate 7 (refine dS ?_; (conv => whnf))
     refine ⟨fun _ => ?_, fun h => absurd rfl h⟩
     conv => whnf
     refine callK_pure hEp ?_
     conv => whnf
     refine callK_pure hEr ?_
     conv => whnf
     refine ⟨fun _ => ?_, fun h => absurd rfl h⟩
     conv => whnf
     refine ⟨fun _ => ?_, fun h => absurd rfl h⟩
     conv => whnf
     refine callK_of (c109x hv1 (by omega)) ?_
     rintro _ _ ⟨rfl, rfl⟩
     conv => whnf
     refine callK_of hc3 ?_
     rintro _ _ ⟨hx3, hH3⟩
     rw [hx3, hH3]; clear hx3 hH3
     conv => whnf
     refine drawK_of2 D51 [H3, H3.set kid (kdcO realm rs ls ps rid ((n + 2 : Nat) : Int) i (v3 + 1)), H5] (by kernel_rfl) rfl trivial ?_
     conv => whnf
     iterate 4 (refine dS2 ?_; (conv => whnf))
     (refine dS ?_; (conv => whnf))
     refine ⟨.int .i64 ((n + 2 : Nat) : Int), ?_, ?_⟩
     ·conv => whnf
      refine callK_of (c109x hv3 (by omega)) ?_
      rintro _ _ ⟨rfl, rfl⟩
      exact ⟨rfl, rfl, trivial⟩
     conv => whnf
     (refine dS2 ?_; (conv => whnf))
     refine ⟨_, callK_of hc5 (by rintro _ _ ⟨rfl, rfl⟩; exact ⟨rfl, rfl, trivial⟩), ?_⟩
     conv => whnf
     iterate 5 (refine dS ?_; (conv => whnf))
     conv => whnf
     refine callK_of (c110 (off := 6) (n := i) 1 hv5 rfl) ?_
     rintro _ H6 ⟨rfl, hH6⟩
     have hwi : IntKind.i64.wrap ((i : Int) + 1) = ((i + 1 : Nat) : Int) := by rw [wrap64 (by omega) (by omega)]; rfl
     have hk6 : (⟨(kdcO realm rs ls ps rid ((n + 2 : Nat) : Int) i v5).T, setCells 6 [.int .i64 (IntKind.i64.wrap ((i : Int) + 1))] (kdcO realm rs ls ps rid ((n + 2 : Nat) : Int) i v5).cs, (kdcO realm rs ls ps rid ((n + 2 : Nat) : Int) i v5).ver + 1⟩ : PObj) = kdcO realm rs ls ps rid ((n + 2 : Nat) : Int) ((i + 1 : Nat) : Int) (v5 + 1) := by
      rw [hwi]; rfl
     replace hH6 : H6 = H5.set kid (kdcO realm rs ls ps rid ((n + 2 : Nat) : Int) ((i + 1 : Nat) : Int) (v5 + 1)) := hH6.trans (congrArg (fun o => H5.set kid o) hk6)
     rw [hH6]; clear hH6 H6
     conv => whnf
     ((conv in (_[_]?) => tactic => exact ha6); (conv => whnf))
     ((conv in (_[_]?) => tactic => exact (show ((H5.set kid (kdcO realm rs ls ps rid ((n + 2 : Nat) : Int) ((i + 1 : Nat) : Int) (v5 + 1))).set H.length _)[H.length]? = some _ from get_set ha6)); (conv => whnf))
     exact ⟨rfl, rfl⟩
    obtain ⟨o, ho⟩ := w
    have e7 : Evo (fun i => i = H.length) (H5.set kid (kdcO realm rs ls ps rid ((n + 2 : Nat) : Int) ((i + 1 : Nat) : Int) (v5 + 1))) ((H5.set kid (kdcO realm rs ls ps rid ((n + 2 : Nat) : Int) ((i + 1 : Nat) : Int) (v5 + 1))).set H.length o) := Evo.setOther ha6 rfl ansT.1 ansT.2
    exact ⟨_, ⟨hK6.evo e7 (Ne.symm hne) (by show ¬ rid = H.length; omega), Evo.drop (S := (· = kid)) (((e1.mono fun _ h => h.elim).trans (e16.mono fun _ h => .inl h)).trans (e7.mono fun _ h => .inr h)) (Nat.le_refl _), by simp [l3, l5]⟩, ho⟩
set_option maxHeartbeats 8000000
theorem c16g {H : PH} {kid rid : Nat} {realm : List UInt8} {rs ls ps : PV} {l : List Ent} {n i : Nat} (hK : Kd H kid rid realm rs ls ps l n i) (hn : n ≤ 100000) (hi : i ≤ 100000) (hrl : realm.length ≤ 1000000)
  (q : AsQ) (hf : q.fit) (now : Int) (draw : Nat → UInt8) (hl : lateB now = false) (hq : q.ok = true) (c s : Ent) (hC : lastE (isP q.cr q.cn) l = some c) (hS : lastE (isP q.sr q.sn) l = some s)
  (hcr : q.cr = realm) (hs : q.sr = realm ∧ q.sn = krb realm) (ht : ¬ q.till < now) :
  ∃ H1, (Kd H1 kid rid realm rs ls ps l (bump (makeV l n q.sr q.sn (asPart q now draw) q.nonce c.key 3) n 2) (bump (makeV l n q.sr q.sn (asPart q now draw) q.nonce c.key 3) i 1) ∧ Evo (· = kid) H H1 ∧ H1.length = H.length + 3) ∧ CallOk prog 16 [.ptr (some (kid, 0)), .agg q.cells, .int .i64 now, .agg (keyC draw)] H fun x H' =>
   x = .tup [.agg (makeV l n q.sr q.sn (asPart q now draw) q.nonce c.key 3).1.cells, .int .i64 (makeV l n q.sr q.sn (asPart q now draw) q.nonce c.key 3).2] ∧ H' = H1 := by
 have e1 : Evo (fun _ => False) H (H ++ [ansO]) := Evo.app H _
 have hK1 := hK.evo e1 id id
 have hlt : kid < H.length := by obtain ⟨v, hv⟩ := hK.k; exact (List.getElem?_eq_some_iff.1 hv).1
 have hrlt : rid < H.length := by have := hK.ring.ex.choose_spec; exact (List.getElem?_eq_some_iff.1 this).1
 have hne : H.length ≠ kid := by omega
 have ha : (H ++ [ansO])[H.length]? = some ansO := get_last H _
 obtain ⟨v1, hv1⟩ := hK1.k
 have hfit : (asMsg q).fits := by
  obtain ⟨f1, f2, f3, f4⟩ := hf
  unfold Msg.fits asMsg mZ
  exact ⟨by show q.cr.length ≤ _; omega, by show q.cn.length ≤ _; omega, by show q.sr.length ≤ _; omega, by show q.sn.length ≤ _; omega, Nat.zero_le _, Nat.zero_le _, Nat.zero_le _, Nat.zero_le _, Nat.zero_le _, Nat.zero_le _, Nat.zero_le _, Nat.zero_le _, Nat.zero_le _, Nat.zero_le _⟩
 have hgC := lastGet hK1.ring (by have := hK1.len; omega) q.cr q.cn
 have hgS := lastGet hK1.ring (by have := hK1.len; omega) q.sr q.sn
 rw [hC] at hgC
 rw [hS] at hgS
 have hnow : 0 ≤ now ∧ now ≤ 1073741824 := by
  unfold lateB at hl
  rw [Bool.or_eq_false_iff, decide_eq_false_iff_not, decide_eq_false_iff_not] at hl
  omega
 have hw : IntKind.i64.wrap (now + 1000) = now + 1000 := wrap64 (by omega) (by omega)
 have hp : asPart q now draw = ⟨q.cr, q.cn, draw, [], now, min q.till (IntKind.i64.wrap (now + 1000))⟩ := by unfold asPart; rw [hw]
 have e2 : Evo (fun _ => False) (H ++ [ansO]) ((H ++ [ansO]) ++ [⟨50, (asPart q now draw).cells, 1⟩]) := Evo.app _ _
 have hK2 := hK1.evo e2 id id
 obtain ⟨H6, ⟨hK6, e6, l6⟩, h51⟩ := c51d hK2 hn hi q.sr q.sn hf.sr hf.sn (asPart q now draw) hf.cr hf.cn (Nat.zero_le _) q.nonce c.box c.key (hK2.ring.box c (lastE_mem hC)) 3 rfl
 have hset5 : ∀ x : PObj, CallOk prog 51 [.ptr (some (kid, 0)), .agg ([.str q.sr, .str q.sn] ++ (asPart q now draw).cells ++ [.int .i64 q.nonce, .ptr (some (c.box, 0)), .int .i64 3])] (((H ++ [ansO]) ++ [x]).set (H ++ [ansO]).length (⟨50, (⟨q.cr, q.cn, draw, [], now, min q.till (IntKind.i64.wrap (now + 1000))⟩ : Prt).cells, 1⟩ : PObj)) fun x H' => x = .tup [.agg (makeV l n q.sr q.sn (asPart q now draw) q.nonce c.key 3).1.cells, .int .i64 (makeV l n q.sr q.sn (asPart q now draw) q.nonce c.key 3).2] ∧ H' = H6 := fun x => by
  rw [set_last, ← hp]; exact h51
 have ha2 : ((H ++ [ansO]) ++ [(⟨50, (asPart q now draw).cells, 1⟩ : PObj)])[H.length]? = some ansO := by rw [List.getElem?_append_left (by simp)]; exact ha
 have ha6 : H6[H.length]? = some ansO := e6.same _ _ ha2 hne ansT.1 ansT.2
 have w : ∃ o, CallOk prog 16 [.ptr (some (kid, 0)), .agg q.cells, .int .i64 now, .agg (keyC draw)] H fun x H' => x = .tup [.agg (makeV l n q.sr q.sn (asPart q now draw) q.nonce c.key 3).1.cells, .int .i64 (makeV l n q.sr q.sn (asPart q now draw) q.nonce c.key 3).2] ∧ H' = H6.set H.length o := by
  apply Exists.intro
  (refine fnS (imm := imm16) ttK_ok func16 ?_; (conv => whnf))
  refine callK_pure ((c47 (asMsg q) hfit).of_eq (encAs_yes q hq)) ?_
  conv => whnf
  refine callK_pure (c48 now) ?_
  rw [hl]
  conv => whnf
  refine ⟨fun _ => ?_, fun h => absurd rfl h⟩
  conv => whnf
  refine drawK_pure2 (by kernel_rfl) ?_
  conv => whnf
  iterate 3 (refine dS ?_; (conv => whnf))
  apply Exists.intro
  apply And.intro
  ·conv => whnf
   ((conv in (_[_]?) => tactic => exact hv1); (conv => whnf))
   exact ⟨rfl, rfl, trivial⟩
  conv => whnf
  iterate 2 (refine dS ?_; (conv => whnf))
  refine ⟨_, callK_of hgC (by rintro _ _ ⟨rfl, rfl⟩; exact ⟨rfl, rfl, trivial⟩), ?_⟩
  conv => whnf
  iterate 7 (refine dS ?_; (conv => whnf))
  refine drawK_pure2 (by kernel_rfl) ?_
  conv => whnf
  iterate 3 (refine dS ?_; (conv => whnf))
  apply Exists.intro
  apply And.intro
  ·conv => whnf
   ((conv in (_[_]?) => tactic => exact hv1); (conv => whnf))
   exact ⟨rfl, rfl, trivial⟩
  conv => whnf
  iterate 2 (refine dS ?_; (conv => whnf))
  refine ⟨_, callK_of hgS (by rintro _ _ ⟨rfl, rfl⟩; exact ⟨rfl, rfl, trivial⟩), ?_⟩
  conv => whnf
  iterate 7 (refine dS ?_; (conv => whnf))
  refine drawK_pure2 (by kernel_rfl) ?_
  conv => whnf
  iterate 6 (refine dS ?_; (conv => whnf))
  apply Exists.intro
  apply And.intro
  ·conv => whnf
   ((conv in (_[_]?) => tactic => exact hv1); (conv => whnf))
   exact ⟨rfl, rfl, trivial⟩
  conv => whnf
  refine ⟨.bool false, ?_, ?_⟩
  ·conv => whnf
   exact ⟨fun h => ⟨rfl, rfl, trivial⟩, fun h => absurd hcr h⟩
  conv => whnf
  iterate 2 (refine dS ?_; (conv => whnf))
  refine ⟨.bool false, ?_, ?_⟩
  ·conv => whnf
   exact ⟨fun h => ⟨rfl, rfl, trivial⟩, fun h => absurd rfl h⟩
  conv => whnf
  iterate 2 (refine dS ?_; (conv => whnf))
  conv => whnf
  refine drawK_pure2 (by kernel_rfl) ?_
  conv => whnf
  iterate 6 (refine dS ?_; (conv => whnf))
  apply Exists.intro
  apply And.intro
  ·conv => whnf
   ((conv in (_[_]?) => tactic => exact hv1); (conv => whnf))
   exact ⟨rfl, rfl, trivial⟩
  conv => whnf
  refine ⟨_, callK_of (c50 hv1 realm hrl) (by rintro _ _ ⟨rfl, rfl⟩; exact ⟨rfl, rfl, trivial⟩), ?_⟩
  conv => whnf
  refine ⟨.bool false, ?_, ?_⟩
  ·conv => whnf
   exact ⟨⟨fitK _ _, fitK _ _⟩, fun h => ⟨rfl, rfl, trivial⟩, fun h => absurd (two_eq' hs) h⟩
  conv => whnf
  iterate 2 (refine dS ?_; (conv => whnf))
  refine ⟨.bool false, ?_, ?_⟩
  ·conv => whnf
   exact ⟨fun h => ⟨rfl, rfl, trivial⟩, fun h => absurd rfl h⟩
  conv => whnf
  iterate 2 (refine dS ?_; (conv => whnf))
  conv => whnf
  refine ⟨fun h => absurd h ht, fun h => ?_⟩
  conv => whnf
  ((conv in (_[_]?) => tactic => exact (get_last (H ++ [ansO]) _)); (conv => whnf))
  ((conv in (_[_]?) => tactic => exact (show (((H ++ [ansO]) ++ [_]).set (H ++ [ansO]).length _)[(H ++ [ansO]).length]? = some _ from get_set (get_last (H ++ [ansO]) _))); (conv => whnf))
  refine callK_args (args' := [.ptr (some (kid, 0)), .agg ([.str q.sr, .str q.sn] ++ (asPart q now draw).cells ++ [.int .i64 q.nonce, .ptr (some (c.box, 0)), .int .i64 3])]) (by rw [hp]; rfl) ?_
  refine callK_of (H := (((H ++ [ansO]) ++ [_]).set (H ++ [ansO]).length _)) ((hset5 ⟨50, [.str [], .str []] ++ List.replicate 32 (.int .u8 0) ++ [.str [], .int .i64 0, .int .i64 0], 0⟩)) ?_
  rintro _ _ ⟨hx6, hH6⟩
  rw [hx6, hH6]; clear hx6 hH6
  conv => whnf
  ((conv in (_[_]?) => tactic => exact ha6); (conv => whnf))
  ((conv in (_[_]?) => tactic => exact (show (H6.set H.length _)[H.length]? = some _ from get_set ha6)); (conv => whnf))
  exact ⟨rfl, rfl⟩
 obtain ⟨o, ho⟩ := w
 have e7 : Evo (fun i => i = H.length) H6 (H6.set H.length o) := Evo.setOther ha6 rfl ansT.1 ansT.2
 exact ⟨_, ⟨hK6.evo e7 (Ne.symm hne) (by show ¬ rid = H.length; omega), Evo.drop (S := (· = kid)) ((((e1.mono fun _ h => h.elim).trans (e2.mono fun _ h => h.elim)).trans (e6.mono fun _ h => .inl h)).trans (e7.mono fun _ h => .inr h)) (Nat.le_refl _), by simp [l6]⟩, ho⟩
end Go.Proofs.Tryz
