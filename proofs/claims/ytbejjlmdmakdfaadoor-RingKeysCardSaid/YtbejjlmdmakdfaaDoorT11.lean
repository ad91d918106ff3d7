import Derived.Test.YtbejjlmdmakdfaaDoorT10
set_option linter.all false
set_option linter.unusedVariables false
set_option linter.unusedSimpArgs false
set_option linter.unnecessarySimpa false
set_option maxRecDepth 100000
set_option linter.unusedVariables false
namespace Go.Proofs.Tryd
open Go Ps
def tt60 : TT := [(3, ⟨.int .i64, 1, 8, [.int .i64 0]⟩), (5, ⟨.int .u8, 1, 1, [.int .u8 0]⟩), (9, ⟨.str, 1, 16, [.str []]⟩), (29, ⟨.slice 9, 1, 24, [.slice 0 [] (some 9)]⟩)]
theorem tt60_ok : ttOk prog tt60 = true := by kernel_rfl
def imm60 : List Nat := []
def tt27 : TT := [(3, ⟨.int .i64, 1, 8, [.int .i64 0]⟩), (9, ⟨.str, 1, 16, [.str []]⟩)]
theorem tt27_ok : ttOk prog tt27 = true := by kernel_rfl
def imm27 : List Nat := []

def labs (l : List (List UInt8)) : Bool := l.all okL && (decide (1 ≤ l.length) && decide (l.length ≤ 4))
theorem okC_eq : ∀ b : UInt8, inB upperB b.toNat = okC b := by
  intro b
  have h : ∀ n : Fin 256, inB upperB n.val = (decide (65 ≤ n.val) && decide (n.val ≤ 90)) := by decide
  exact h ⟨b.toNat, b.toNat_lt⟩
theorem okL_eq (s : List UInt8) : isWordB s upperB = okL s := by
  unfold isWordB okL
  have : (fun c : UInt8 => inB upperB c.toNat) = okC := funext okC_eq
  rw [this]
  cases s <;> simp
theorem labs_eq (c : UInt8) (s : List UInt8) : labs (splitB c s) = !badL (splitB c s) := by
  have h1 := splitB_len c s
  unfold labs badL
  have : (fun s => !isWordB s upperB) = fun s => !okL s := funext fun s => by rw [okL_eq]
  rw [this]
  have h2 : decide (1 ≤ (splitB c s).length) = true := by simp; omega
  rw [h2]
  rw [Bool.not_or, List.not_any_eq_all_not, Bool.true_and, Bool.and_comm]
  congr 1
  · by_cases h : 4 < (splitB c s).length
    · have : ¬ (splitB c s).length ≤ 4 := by omega
      simp [h, this]
    · have : (splitB c s).length ≤ 4 := by omega
      simp [h, this]
  · simp
theorem labs_slash (t : List UInt8) : labs (splitB 46 (47 :: t)) = false := by
  have h : ∃ x l, splitB 46 (47 :: t) = (47 :: x) :: l := by
    simp only [splitB]
    rw [if_neg (by decide)]
    cases splitB 46 t with
    | nil => exact ⟨[], [], rfl⟩
    | cons a b => exact ⟨a, b, rfl⟩
  obtain ⟨x, l, h⟩ := h
  have hk : okL (47 :: x) = false := by
    have : okC 47 = false := by decide
    simp [okL, this]
  rw [h]
  simp [labs, hk]
theorem c60 (r : List UInt8) (hs : r.length ≤ 1099511627775) : Pure prog 60 [.str r] (.int .i64 (labelsB r).1) := by
  intro H
  have dot : ∀ r : List UInt8, r.length ≤ 1099511627775 → (splitB 46 r).length ≤ 1099511627776 := fun r h => by have := countB_le 46 r; have := splitB_len 46 r; omega
  (refine callOk_of_pFun2 (tt := tt60) (imm := imm60) follows tt60_ok depth6 func60 (by kernel_rfl) ?_; (conv => whnf))
  refine ⟨fun h => ?_, fun h => ?_⟩
  · (conv => whnf)
    cases r with
    | nil => simp at h
    | cons x t =>
      refine ⟨⟨by omega, by simp <;> omega⟩, x, rfl, ?_⟩
      (conv => whnf)
      refine ⟨fun e => ?_, fun e => ?_⟩
      · have e : x = 47 := by
          have e : (x.toNat : Int) = 47 := e
          exact UInt8.toNat_inj.1 (by show x.toNat = 47; omega)
        subst e
        (conv => whnf)
        refine ⟨⟨by omega, by simp <;> omega, by simp⟩, ?_⟩
        have ht : ((47 :: t).take ((47 :: t).length : Int).toNat).drop (1 : Int).toNat = t := by simp
        (conv => whnf)
        have htl : t.length ≤ 1099511627775 := by simp at hs; omega
        refine callK_pure (P := prog) (v := .slice (splitB 47 t).length ((splitB 47 t).map .str) (some 9)) ?_ ?_
        · show Pure prog 83 [.str (((47 :: t).take ((47 :: t).length : Int).toNat).drop (1 : Int).toNat), byteC 47] _
          rw [ht]
          exact c83 t 47 (by omega)
        (conv => whnf)
        refine callK_pure (c82 (splitB 47 t) none (by have := countB_le 47 t; have := splitB_len 47 t; omega)) ?_
        have hl := labs_eq 47 t
        have hd := labs_slash t
        unfold labs at hl hd
        rw [hl]
        cases hb : badL (splitB 47 t)
        · (conv => whnf)
          refine ⟨?_, rfl⟩
          simp [labelsB, hb, tupOf]
        · (conv => whnf)
          refine callK_pure (c83 (47 :: t) 46 (by omega)) ?_
          (conv => whnf)
          refine callK_pure (c82 (splitB 46 (47 :: t)) none (dot _ hs)) ?_
          rw [hd]
          (conv => whnf)
          refine ⟨?_, rfl⟩
          simp [labelsB, hb, tupOf]
      · have hx : x ≠ 47 := fun h => e (by rw [h]; rfl)
        have hlb : labelsB (x :: t) = if badL (splitB 46 (x :: t)) then (0, []) else (1, (splitB 46 (x :: t)).reverse) := by
          unfold labelsB
          split
          · rename_i h2; cases h2; exact absurd rfl hx
          · rfl
        (conv => whnf)
        refine callK_pure (c83 (x :: t) 46 (by omega)) ?_
        (conv => whnf)
        refine callK_pure (c82 (splitB 46 (x :: t)) none (dot _ hs)) ?_
        have hl := labs_eq 46 (x :: t)
        unfold labs at hl
        rw [hl, hlb]
        cases hb : badL (splitB 46 (x :: t))
        · (conv => whnf)
          exact ⟨rfl, rfl⟩
        · (conv => whnf)
          exact ⟨rfl, rfl⟩
  · have hr : r = [] := by
      cases r with
      | nil => rfl
      | cons x t => exact absurd (by simp <;> omega) h
    subst hr
    (conv => whnf)
    refine callK_pure (c83 [] 46 (by simp)) ?_
    (conv => whnf)
    refine callK_pure (c82 (splitB 46 []) none (by simp [splitB])) ?_
    have : ((splitB 46 []).all okL && (decide (1 ≤ (splitB 46 []).length) && decide ((splitB 46 []).length ≤ 4))) = false := by decide
    rw [this]
    (conv => whnf)
    have h0 : (labelsB []).1 = 0 := by decide
    exact ⟨by rw [h0]; rfl, rfl⟩
theorem c27 (r : List UInt8) (hs : r.length ≤ 1099511627775) : Pure prog 27 [.str r] (.bool (isRealmB r)) := by
  intro H
  (refine callOk_of_pFun2 (tt := tt27) (imm := imm27) follows tt27_ok depth6 func27 (by kernel_rfl) ?_; (conv => whnf))
  refine callK_pure (c60 r hs) ?_
  (conv => whnf)
  refine ⟨fun h => ?_, fun h => ?_⟩
  · (conv => whnf)
    have : (labelsB r).1 ≠ 0 := by omega
    exact ⟨by simp [isRealmB, this, tupOf], rfl⟩
  · (conv => whnf)
    have : (labelsB r).1 = 0 := by omega
    exact ⟨by simp [isRealmB, this, tupOf], rfl⟩
end Go.Proofs.Tryd
