/- PSem, part 20: what the walks use. -/
import Derived.Test.YtbejjlmdmakdfaaDoorPs19
set_option linter.all false
set_option linter.unusedVariables false
set_option linter.unusedSimpArgs false
set_option linter.unnecessarySimpa false
set_option linter.unusedSimpArgs false
set_option linter.unusedVariables false
namespace Ps
open Go

theorem callK_of {P : Program} {f : Nat} {args : List PV} {H : PH} {Q K : PV → PH → Prop} (h : CallOk P f args H Q) (hq : ∀ r H', Q r H' → K r H') : callK P f args H K := by
  exact ⟨h.mono hq⟩

/-- A call that answers just so, and writes nothing. -/
def Pure (P : Program) (f : Nat) (args : List PV) (v : PV) : Prop := ∀ H, CallOk P f args H fun r H' => r = v ∧ H' = H
theorem callK_pure {P : Program} {f : Nat} {args : List PV} {H : PH} {v : PV} {K : PV → PH → Prop} (h : Pure P f args v) (hq : K v H) : callK P f args H K :=
  callK_of (h H) fun r H' ⟨h1, h2⟩ => by subst h1; subst h2; exact hq
theorem callK_args {P : Program} {f : Nat} {args args' : List PV} {H : PH} {K : PV → PH → Prop} (h : args = args') (k : callK P f args' H K) : callK P f args H K := h ▸ k
theorem Pure.of_eq {P : Program} {f : Nat} {args : List PV} {v v' : PV} (h : Pure P f args v) (e : v = v') : Pure P f args v' := e ▸ h

theorem loopK_of {b : Env → PH → (Ex → Env → PH → Prop) → Prop} {E : Env} {H : PH} {K : Ex → Env → PH → Prop} (S : Type) (st : S → Env) (sh : S → PH) (ok : S → Prop) (μ : S → Nat)
    (h0 : ∃ s, ok s ∧ subE (st s) E ∧ H = sh s)
    (h : ∀ s, ok s → b (st s) (sh s) fun e E' H' => match e with
      | .normal => ∃ s', ok s' ∧ subE (st s') E' ∧ H' = sh s' ∧ μ s' < μ s
      | e => K e E' H') : loopK b E H K := by
  exact ⟨⟨S, st, sh, ok, μ, h0, h⟩⟩

theorem drawK_of {P : Program} {tt : TT} {imm : List Nat} {N : Nat} {ops : List Oper} {E : Env} {H : PH} {K : Env → PH → Prop} (D : Draw) (Hs : List PH) (h0 : drawOk N ops D = true) (h1 : hk Hs 0 = H)
    (h2 : pVers D Hs D.fs) (h : pDr P tt imm ops D Hs 0 ops E fun E' => K E' (hk Hs (cnt D.isImp ops.length))) : drawK P tt imm N ops E H K := by
  exact ⟨⟨D, Hs, h0, h1, h2, h⟩⟩

theorem set_self {H : PH} {id : Nat} {o : PObj} (h : H[id]? = some o) : H.set id o = H := by
  obtain ⟨h1, rfl⟩ := List.getElem?_eq_some_iff.1 h
  exact List.set_getElem_self h1
theorem get_set {H : PH} {id : Nat} {o o' : PObj} (h : H[id]? = some o) : (H.set id o')[id]? = some o' := by
  have := (List.getElem?_eq_some_iff.1 h).1
  simp [this]

/-- A region whose operations write nothing but their slots. -/
theorem drawK_pure {P : Program} {tt : TT} {imm : List Nat} {N : Nat} {ops : List Oper} {E : Env} {H : PH} {K : Env → PH → Prop} (h0 : drawOk N ops {} = true)
    (h : pDr P tt imm ops {} [H] 0 ops E fun E' => K E' H) : drawK P tt imm N ops E H K := by
  refine ⟨⟨{}, [H], h0, rfl, trivial, ?_⟩⟩
  have : ∀ n, cnt (Draw.isImp {}) n = 0 := fun n => by
    induction n with
    | zero => rfl
    | succ n ih => simp [cnt, ih, Draw.isImp]
  rw [this]; exact h

/-! The evaluator with its recursions laid open: whoever steps through it finds, behind a step, just what the kernel finds. -/
noncomputable def pFunX : { F : Program → TT → List Nat → Func → List PV → PH → (PV → PH → Prop) → Prop // F = @pFun } := by
  refine ⟨?F, ?h⟩
  case h =>
    delta pFun
    delta pCode
    delta pCode._f
    delta pOps
    delta pOps._f
    delta pRes
    delta pRes._f
    exact rfl
noncomputable def pFun2 : Program → TT → List Nat → Func → List PV → PH → (PV → PH → Prop) → Prop := pFunX.1
theorem callOk_of_pFun2 {P : Program} {tt : TT} {imm : List Nat} (hm : P.follows .mixedOrders = true) (hT : ttOk P tt = true) (hd : 6 ≤ P.depth) {f : Nat} {fn : Func} (hf : P.funcs[f]? = some fn)
    (hn : (fn.name == "runtime.NumGoroutine") = false) {args : List PV} {H : PH} {Q : PV → PH → Prop} (h : pFun2 P tt imm fn args H Q) : CallOk P f args H Q :=
  callOk_of_pFun hm hT hd hf hn (by rw [← pFunX.2]; exact h)
noncomputable def pDrX : { F : Program → TT → List Nat → List Oper → Draw → List PH → Nat → List Oper → Env → (Env → Prop) → Prop // F = @pDr } := by
  refine ⟨?F, ?h⟩
  case h =>
    delta pDr
    delta pDr._f
    delta Obl
    delta pHs
    delta pHs._f
    exact rfl
noncomputable def pDr2 : Program → TT → List Nat → List Oper → Draw → List PH → Nat → List Oper → Env → (Env → Prop) → Prop := pDrX.1
theorem drawK_pure2 {P : Program} {tt : TT} {imm : List Nat} {N : Nat} {ops : List Oper} {E : Env} {H : PH} {K : Env → PH → Prop} (h0 : drawOk N ops {} = true)
    (h : pDr2 P tt imm ops {} [H] 0 ops E fun E' => K E' H) : drawK P tt imm N ops E H K :=
  drawK_pure h0 (by rw [← pDrX.2]; exact h)
theorem drawK_of2 {P : Program} {tt : TT} {imm : List Nat} {N : Nat} {ops : List Oper} {E : Env} {H : PH} {K : Env → PH → Prop} (D : Draw) (Hs : List PH) (h0 : drawOk N ops D = true) (h1 : hk Hs 0 = H)
    (h2 : pVers D Hs D.fs) (h : pDr2 P tt imm ops D Hs 0 ops E fun E' => K E' (hk Hs (cnt D.isImp ops.length))) : drawK P tt imm N ops E H K :=
  drawK_of D Hs h0 h1 h2 (by rw [← pDrX.2]; exact h)
end Ps
