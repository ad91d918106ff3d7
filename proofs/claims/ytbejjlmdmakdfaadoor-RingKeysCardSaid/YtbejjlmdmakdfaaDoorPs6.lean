/- PSem, part 6: comparisons, conversions, cuts. -/
import Derived.Test.YtbejjlmdmakdfaaDoorPs5
set_option linter.all false
set_option linter.unusedVariables false
set_option linter.unusedSimpArgs false
set_option linter.unnecessarySimpa false
set_option linter.unusedSimpArgs false
set_option linter.unusedVariables false
namespace Ps
open Go
section
variable {P : Program} {tt : TT} {g : Gh} {w : World} {K : PV → Prop}

theorem run_bin_bool (hT : ttOk P tt = true) (op : BinOp) (T : Nat) (xo yo : Operand) (s t : Bool) (hp : pBin tt op T (.bool s) (.bool t) K) :
    ∃ v p, (do eqGuard op T xo yo (.bool s) (.bool t); binOp op T (.bool s) (.bool t) : Sem Value).run P w = .ok v w ∧ V g w v p ∧ K p := by
  have he : (eqGuard op T xo yo (.bool s) (.bool t)).run P w = .ok () w := by cases op <;> simp [eqGuard]
  simp only [Sem.run_bind, he, Result.andThen_ok]
  cases op
  case eql =>
    simp only [pBin] at hp
    split at hp
    · rename_i i hi
      split at hp
      · rename_i hk
        have hu := (tis hT hi).bool hk
        exact ⟨.bool (s == t), _, by simp [binOp, Op.equal, Op.maxDepth, run_equalIn_bool' w 9999 T s t hu], .bool _, hp⟩
      · exact hp.elim
    · exact hp.elim
  case neq =>
    simp only [pBin] at hp
    split at hp
    · rename_i i hi
      split at hp
      · rename_i hk
        have hu := (tis hT hi).bool hk
        exact ⟨.bool (!(s == t)), _, by simp [binOp, Op.equal, Op.maxDepth, run_equalIn_bool' w 9999 T s t hu], .bool _, hp⟩
      · exact hp.elim
    · exact hp.elim
  all_goals exact hp.elim

theorem run_equalIn_nilptr (d T e : Nat) (o : Option Addr) (h : P.underlying T = some (.pointer e)) : (Op.equalIn (d + 1) T (.pointer o) (.pointer none)).run P w = .ok o.isNone w := by
  cases o with
  | none => simp [Op.equalIn, run_underlying h]
  | some a => simp [Op.equalIn, run_underlying h]

theorem run_bin_nil (op : BinOp) (T e : Nat) (xo yo : Operand) (o : Option Addr) (h : P.underlying T = some (.pointer e)) :
    (op = .eql → (do eqGuard op T xo yo (.pointer o) (.pointer none); binOp op T (.pointer o) (.pointer none) : Sem Value).run P w = .ok (.bool o.isNone) w) ∧
    (op = .neq → (do eqGuard op T xo yo (.pointer o) (.pointer none); binOp op T (.pointer o) (.pointer none) : Sem Value).run P w = .ok (.bool (!o.isNone)) w) := by
  constructor
  · rintro rfl
    cases o <;> simp [eqGuard, binOp, Op.equal, Op.maxDepth, run_equalIn_nilptr 9999 T e _ h]
  · rintro rfl
    cases o <;> simp [eqGuard, binOp, Op.equal, Op.maxDepth, run_equalIn_nilptr 9999 T e _ h]

theorem run_equalIn_nilslice (d T e : Nat) (o : Option Addr) (n c : Nat) (h : P.underlying T = some (.slice e)) : (Op.equalIn (d + 1) T (.slice o n c) (.slice none 0 0)).run P w = .ok o.isNone w := by
  cases o with
  | none => simp [Op.equalIn, run_underlying h]
  | some a => simp [Op.equalIn, run_underlying h]
theorem run_bin_nils (op : BinOp) (T e : Nat) (xo yo : Operand) (o : Option Addr) (n c : Nat) (h : P.underlying T = some (.slice e)) :
    (op = .eql → (do eqGuard op T xo yo (.slice o n c) (.slice none 0 0); binOp op T (.slice o n c) (.slice none 0 0) : Sem Value).run P w = .ok (.bool o.isNone) w) ∧
    (op = .neq → (do eqGuard op T xo yo (.slice o n c) (.slice none 0 0); binOp op T (.slice o n c) (.slice none 0 0) : Sem Value).run P w = .ok (.bool (!o.isNone)) w) := by
  constructor
  · rintro rfl
    simp [eqGuard, binOp, Op.equal, Op.maxDepth, run_equalIn_nilslice 9999 T e o n c h]
  · rintro rfl
    simp [eqGuard, binOp, Op.equal, Op.maxDepth, run_equalIn_nilslice 9999 T e o n c h]

theorem run_un (op : UnOp) {v : Value} {p : PV} (hv : V g w v p) (hp : pUn op p K) : ∃ u r, (Op.unary op v).run P w = .ok u w ∧ V g w u r ∧ K r := by
  cases op with
  | not =>
    cases p with
    | bool b => cases hv; exact ⟨.bool (!b), _, by simp [Op.unary], .bool _, hp⟩
    | _ => exact hp.elim
  | neg =>
    cases p with
    | int k n => cases hv; exact ⟨.int k (k.wrap (0 - n)), _, by simp [Op.unary, Op.intArith], .int _ _, hp⟩
    | _ => exact hp.elim
  | xor =>
    cases p with
    | int k n => cases hv; exact ⟨.int k (ibits .xor k (if k.signed then -1 else k.max) n), _, by simp only [Op.unary, Op.intBits, ibits]; rfl, .int _ _, hp⟩
    | _ => exact hp.elim
  | _ => exact hp.elim

/-! []byte and string -/
theorem bytes_of {b off n cap : Nat} {cs : List PV} {s : List UInt8} (hv : V g w (.slice (some ⟨b, off, none⟩) n cap) (.slice n cs none)) (hs : cs = s.map byteC) :
    ∀ (j : Nat) (x : UInt8), s[j]? = some x → w.cell? ⟨b, off + j, none⟩ = some (.int .u8 x.toNat) := by
  intro j x hj
  cases hv with
  | slice b off n cap cs u hn hI hV =>
    have hc : cs[j]? = some (byteC x) := by rw [hs, List.getElem?_map, hj]; rfl
    have h1 := (hI j _ hc).2
    have h2 := hV j _ hc
    cases h3 : u j with
    | int k m =>
      rw [h3] at h2
      have : Value.int k m = .int .u8 x.toNat := by cases h2; rfl
      rw [h1, h3, this]
    | _ => rw [h3] at h2; cases h2
end
end Ps
