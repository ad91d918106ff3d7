import Derived.Test.YtbejjlmdmakdfaaDoorT13
set_option linter.all false
set_option linter.unusedVariables false
set_option linter.unusedSimpArgs false
set_option linter.unnecessarySimpa false
set_option maxRecDepth 100000
set_option linter.unusedVariables false
namespace Go.Proofs.Tryd
open Go Ps
structure Ent where
  r : List UInt8
  n : List UInt8
  kv : Nat
  key : List UInt8
  box : Nat
def Ent.cells (e : Ent) : List PV := [.str e.r, .str e.n, .int .i64 e.kv] ++ e.key.map byteC ++ [.ptr (some (e.box, 0))]
def ringO (l : List Ent) (v : Nat) : PObj := ⟨77, [.slice l.length (l.flatMap Ent.cells) (some 81)], v⟩
def lastE (f : Ent → Bool) (l : List Ent) : Option Ent := l.reverse.find? f
def entP : Option Ent → PV
  | none => .ptr none
  | some e => .elem e.cells
theorem c10 (H : PH) : CallOk prog 10 [] H fun r H' => r = .ptr (some (H.length, 0)) ∧ H' = H ++ [ringO [] 0] := by
  (refine callOk_of_pFun2 (tt := ttR) (imm := imm10) follows ttR_ok depth6 func10 (by kernel_rfl) ?_; (conv => whnf))
  exact ⟨rfl, rfl⟩
theorem c13 {H : PH} {rid v : Nat} {l : List Ent} (hid : H[rid]? = some (ringO l v)) : CallOk prog 13 [.ptr (some (rid, 0))] H fun r H' => r = .int .i64 l.length ∧ H' = H := by
  (refine callOk_of_pFun2 (tt := ttR) (imm := imm13) follows ttR_ok depth6 func13 (by kernel_rfl) ?_; (conv => whnf))
  rw [hid]
  (conv => whnf)
  exact ⟨rfl, rfl⟩
theorem c13n (H : PH) : CallOk prog 13 [.ptr none] H fun r H' => r = .int .i64 0 ∧ H' = H := by
  (refine callOk_of_pFun2 (tt := ttR) (imm := imm13) follows ttR_ok depth6 func13 (by kernel_rfl) ?_; (conv => whnf))
  exact ⟨rfl, rfl⟩
theorem fitPr (a b : List UInt8) : FitP ttR 6 23 [.str a, .str b] := ⟨rfl, ⟨by show 1 ≤ 2; omega, a, rfl⟩, rfl, ⟨by show 1 ≤ 1; omega, b, rfl⟩, rfl⟩
theorem c58 (e : Ent) (hk : e.key.length = 32) (r n : List UInt8) (H : PH) : CallOk prog 58 [.agg e.cells, .elem [.str r, .str n]] H fun x H' => x = .bool (decide (e.r = r ∧ e.n = n)) ∧ H' = H := by
  obtain ⟨er, en, kv, key, box⟩ := e
  match key, hk with
  | [a0, a1, a2, a3, a4, a5, a6, a7, a8, a9, a10, a11, a12, a13, a14, a15, b0, b1, b2, b3, b4, b5, b6, b7, b8, b9, b10, b11, b12, b13, b14, b15], _ =>
    (refine callOk_of_pFun2 (tt := ttR) (imm := imm58) follows ttR_ok depth6 func58 (by kernel_rfl) ?_; (conv => whnf))
    refine ⟨⟨fitPr _ _, fitPr _ _⟩, ?_⟩
    (conv => whnf)
    refine ⟨fun h => ?_, fun h => ?_⟩
    · (conv => whnf)
      have h : [PV.str er, PV.str en] = [PV.str r, PV.str n] := h
      refine ⟨?_, rfl⟩
      injection h with h1 h2
      injection h1 with h1
      injection h2 with h2 _
      injection h2 with h2
      rw [decide_eq_true ⟨h1, h2⟩]; rfl
    · (conv => whnf)
      refine ⟨?_, rfl⟩
      have h : ¬ [PV.str er, PV.str en] = [PV.str r, PV.str n] := h
      rw [decide_eq_false fun hh => h (by have h1 : er = r := hh.1; have h2 : en = n := hh.2; rw [h1, h2])]; rfl
theorem lastE_snoc (f : Ent → Bool) (l : List Ent) (e : Ent) : lastE f (l ++ [e]) = if f e then some e else lastE f l := by
  unfold lastE
  rw [List.reverse_append]
  simp only [List.reverse_cons, List.reverse_nil, List.nil_append, List.cons_append, List.find?_cons]
  cases f e <;> rfl
theorem cells_len {e : Ent} (h : e.key.length = 32) : e.cells.length = 36 := by simp [Ent.cells, h]
theorem flat_at {l : List Ent} (hk : ∀ e ∈ l, e.key.length = 32) {i : Nat} (hi : i < l.length) (j : Nat) (c : PV) (h : l[i].cells[j]? = some c) : (l.flatMap Ent.cells)[i * 36 + j]? = some c := by
  induction l generalizing i with
  | nil => simp at hi
  | cons e l ih =>
    rw [List.flatMap_cons]
    have he := cells_len (hk e List.mem_cons_self)
    cases i with
    | zero =>
      have hj : j < e.cells.length := (List.getElem?_eq_some_iff.1 h).1
      rw [Nat.zero_mul, Nat.zero_add, List.getElem?_append_left hj]; exact h
    | succ i =>
      rw [List.getElem?_append_right (by omega), show (i + 1) * 36 + j - e.cells.length = i * 36 + j by omega]
      exact ih (fun e he => hk e (List.mem_cons_of_mem _ he)) (by simpa using hi) h
structure FiS where
  k : Nat
theorem c29 {H : PH} {rid v : Nat} {l : List Ent} (hid : H[rid]? = some (ringO l v)) (hl : l.length ≤ 1000) (hk : ∀ e ∈ l, e.key.length = 32) (f : Ent → Bool) (cf : Nat) (a b : List PV)
    (hc : ∀ e ∈ l, CallOk prog cf (a ++ [.agg e.cells] ++ b) H fun x H' => x = .bool (f e) ∧ H' = H) :
    CallOk prog 29 [.ptr (some (rid, 0)), .func cf a b] H fun r H' => r = entP (lastE f l) ∧ H' = H := by
  (refine callOk_of_pFun2 (tt := ttR) (imm := imm29) follows ttR_ok depth6 func29 (by kernel_rfl) ?_; (conv => whnf))
  rw [hid]
  (conv => whnf)
  refine loopK_of FiS (fun x => [(0, .ptr (some (rid, 0))), (1, .func cf a b), (5, .int .i64 ((x.k : Int) - 1))]) (fun _ => H) (fun x => x.k ≤ l.length ∧ lastE f (l.take x.k) = lastE f l) (fun x => x.k)
    ⟨⟨l.length⟩, ⟨Nat.le_refl _, by simp⟩, ⟨rfl, rfl, ?_, trivial⟩, rfl⟩ ?_
  · show PV.int _ (IntKind.i64.wrap ((l.length : Int) - 1)) = _
    rw [wrap64 (by omega) (by omega)]
  rintro ⟨k⟩ ⟨h1, h2⟩
  have h1 : k ≤ l.length := h1
  have h2 : lastE f (l.take k) = lastE f l := h2
  (conv => whnf)
  refine ⟨fun h => ?_, fun h => ?_⟩
  · (conv => whnf)
    have h : (0 : Int) ≤ (k : Int) - 1 := h
    rw [hid]
    (conv => whnf)
    have hi : k - 1 < l.length := by omega
    refine ⟨⟨h, by show (k : Int) - 1 < l.length; omega⟩, l[k - 1].cells, fun j c hj => ?_, ?_⟩
    · have := flat_at hk hi j c hj
      rw [← this]
      show (l.flatMap Ent.cells)[((k : Int) - 1).toNat * 36 + j]? = _
      congr 2; congr 1; omega
    have hkey := hk _ (List.getElem_mem hi)
    have hce := hc _ (List.getElem_mem hi)
    have hlast : lastE f (l.take k) = if f l[k - 1] then some l[k - 1] else lastE f (l.take (k - 1)) := by
      conv => lhs; rw [show k = (k - 1) + 1 by omega, List.take_succ_eq_append_getElem hi]
      exact lastE_snoc f _ _
    have hat := fun j c hj => flat_at hk hi j c hj
    generalize l[k - 1] = e at hkey hce hlast hat ⊢
    obtain ⟨er, en, kv, key, box⟩ := e
    match key, hkey with
    | [a0, a1, a2, a3, a4, a5, a6, a7, a8, a9, a10, a11, a12, a13, a14, a15, b0, b1, b2, b3, b4, b5, b6, b7, b8, b9, b10, b11, b12, b13, b14, b15], _ =>
      (conv => whnf)
      refine callK_of hce ?_
      rintro r H' ⟨rfl, rfl⟩
      (conv => whnf)
      generalize hE : Ent.mk er en kv [a0, a1, a2, a3, a4, a5, a6, a7, a8, a9, a10, a11, a12, a13, a14, a15, b0, b1, b2, b3, b4, b5, b6, b7, b8, b9, b10, b11, b12, b13, b14, b15] box = e at hlast hat ⊢
      cases hf : f e
      · (conv => whnf)
        refine ⟨⟨k - 1⟩, ⟨by show k - 1 ≤ l.length; omega, by show lastE f (l.take (k - 1)) = _; rw [← h2, hlast, hf]; rfl⟩, ⟨rfl, rfl, ?_, trivial⟩, rfl, by show k - 1 < k; omega⟩
        show PV.int _ (IntKind.i64.wrap ((k : Int) - 1 - 1)) = PV.int _ (((k - 1 : Nat) : Int) - 1)
        rw [wrap64 (by omega) (by omega)]; congr 1; omega
      · (conv => whnf)
        rw [hid]
        (conv => whnf)
        refine ⟨⟨h, by show (k : Int) - 1 < l.length; omega⟩, e.cells, fun j c hj => ?_, ?_⟩
        · rw [← hat j c hj]
          show (l.flatMap Ent.cells)[((k : Int) - 1).toNat * 36 + j]? = _
          congr 2; congr 1; omega
        (conv => whnf)
        refine ⟨?_, rfl⟩
        rw [← h2, hlast, hf]; rfl
  · (conv => whnf)
    have h : ¬ (0 : Int) ≤ (k : Int) - 1 := h
    have : k = 0 := by omega
    subst this
    rw [← h2]
    exact ⟨rfl, rfl⟩
end Go.Proofs.Tryd
