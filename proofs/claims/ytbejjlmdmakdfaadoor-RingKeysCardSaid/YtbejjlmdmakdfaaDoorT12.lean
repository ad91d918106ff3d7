import Derived.Test.YtbejjlmdmakdfaaDoorT11
set_option linter.all false
set_option linter.unusedVariables false
set_option linter.unusedSimpArgs false
set_option linter.unnecessarySimpa false
set_option maxRecDepth 100000
set_option linter.unusedVariables false
namespace Go.Proofs.Tryd
open Go Ps
def tt28 : TT := [(3, ⟨.int .i64, 1, 8, [.int .i64 0]⟩), (4, ⟨.bool, 1, 1, [.bool false]⟩), (9, ⟨.str, 1, 16, [.str []]⟩)]
theorem tt28_ok : ttOk prog tt28 = true := by kernel_rfl
def imm28 : List Nat := []
def tt12 : TT := [(3, ⟨.int .i64, 1, 8, [.int .i64 0]⟩), (4, ⟨.bool, 1, 1, [.bool false]⟩), (5, ⟨.int .u8, 1, 1, [.int .u8 0]⟩), (9, ⟨.str, 1, 16, [.str []]⟩), (23, ⟨.strct [(9, 0), (9, 1)], 2, 32, [.str [], .str []]⟩)]
theorem tt12_ok : ttOk prog tt12 = true := by kernel_rfl
def imm12 : List Nat := [1]

theorem c28 (n : List UInt8) (hs : n.length ≤ 1099511627775) : Pure prog 28 [.str n] (.tup [.str (targetB n).1, .bool (targetB n).2]) := by
  intro H
  (refine callOk_of_pFun2 (tt := tt28) (imm := imm28) follows tt28_ok depth6 func28 (by kernel_rfl) ?_; (conv => whnf))
  refine ⟨fun h => ?_, fun h => ?_⟩
  · have ht : targetB n = ([], false) := by
      unfold targetB
      by_cases hp : krbB.isPrefixOf n = true
      · have hl := (List.isPrefixOf_iff_prefix.1 hp).length_le
        have hl : 7 ≤ n.length := hl
        have : n.drop 7 = [] := List.drop_eq_nil_of_le (by omega)
        have h0 : isRealmB [] = false := by decide
        rw [this, h0]; simp
      · simp [hp]
    rw [ht]
    (conv => whnf)
    exact ⟨rfl, rfl⟩
  · (conv => whnf)
    refine ⟨⟨by omega, by omega, by omega⟩, ?_⟩
    (conv => whnf)
    have hl : krbB.length ≤ n.length := by show 7 ≤ _; omega
    refine ⟨fun e => ?_, fun e => ?_⟩
    · have e : n.take 7 = krbB := e
      have hp : krbB.isPrefixOf n = true := (take_of_prefix hl).1 e
      (conv => whnf)
      refine ⟨⟨by omega, by omega, by omega⟩, ?_⟩
      (conv => whnf)
      have hd : (n.take (n.length : Int).toNat).drop (7 : Int).toNat = n.drop 7 := by simp
      refine callK_pure (P := prog) (v := .bool (isRealmB (n.drop 7))) ?_ ?_
      · show Pure prog 27 [.str ((n.take (n.length : Int).toNat).drop (7 : Int).toNat)] _
        rw [hd]
        exact c27 _ (by rw [List.length_drop]; omega)
      cases hr : isRealmB (n.drop 7)
      · (conv => whnf)
        refine ⟨?_, rfl⟩
        simp [targetB, hp, hr, tupOf]
      · (conv => whnf)
        refine ⟨⟨by omega, by omega, by omega⟩, ?_⟩
        (conv => whnf)
        refine ⟨?_, rfl⟩
        simp [targetB, hp, hr, tupOf]
    · have e : ¬ n.take 7 = krbB := e
      have hp : krbB.isPrefixOf n = false := by
        cases hb : krbB.isPrefixOf n with
        | false => rfl
        | true => exact absurd ((take_of_prefix hl).2 hb) e
      (conv => whnf)
      refine ⟨?_, rfl⟩
      simp [targetB, hp, tupOf]
def okS (b : UInt8) : Bool := (decide (97 ≤ b.toNat) && decide (b.toNat ≤ 122)) || (decide (48 ≤ b.toNat) && decide (b.toNat ≤ 57))
theorem okS_eq : ∀ b : UInt8, inB smallB b.toNat = okS b := by
  intro b
  have h : ∀ n : Fin 256, inB smallB n.val = ((decide (97 ≤ n.val) && decide (n.val ≤ 122)) || (decide (48 ≤ n.val) && decide (n.val ≤ 57))) := by decide
  exact h ⟨b.toNat, b.toNat_lt⟩
theorem word_small (s : List UInt8) : isWordB s smallB = (s.all okS && (decide (1 ≤ s.length) && decide (s.length ≤ 8))) := by
  unfold isWordB
  have : (fun c : UInt8 => inB smallB c.toNat) = okS := funext okS_eq
  rw [this]
  cases s with
  | nil => rfl
  | cons a s =>
    have h1 : decide (1 ≤ (a :: s).length) = true := by simp
    have h2 : decide (a :: s ≠ []) = true := by simp
    rw [h1, h2, Bool.true_and, Bool.true_and, Bool.and_comm]
theorem c12 (realm name : List UInt8) (h1 : realm.length ≤ 1099511627775) (h2 : name.length ≤ 1099511627775) : Pure prog 12 [.agg [.str realm, .str name]] (.bool (isPrincB realm name)) := by
  intro H
  (refine callOk_of_pFun2 (tt := tt12) (imm := imm12) follows tt12_ok depth6 func12 (by kernel_rfl) ?_; (conv => whnf))
  refine callK_pure (c27 realm h1) ?_
  unfold isPrincB
  cases hr : isRealmB realm
  · (conv => whnf)
    exact ⟨rfl, rfl⟩
  (conv => whnf)
  refine callK_pure (c28 name h2) ?_
  cases ht : (targetB name).2
  · (conv => whnf)
    rw [word_small]
    refine loopK_of Nat (fun i => [(1, .elem [.str realm, .str name]), (5, .int .i64 i)]) (fun _ => H) (fun i => i ≤ name.length ∧ ∀ j, j < i → (name[j]?.map okS) = some true) (fun i => name.length - i) ⟨0, ⟨Nat.zero_le _, fun j h => by omega⟩, ⟨rfl, rfl, trivial⟩, rfl⟩ ?_
    rintro i ⟨k1, k2⟩
    (conv => whnf)
    refine ⟨fun h => ?_, fun h => ?_⟩
    · (conv => whnf)
      have h : (i : Int) < name.length := h
      have hi : i < name.length := by omega
      refine ⟨⟨by omega, h⟩, name[i], List.getElem?_eq_getElem hi, ?_⟩
      (conv => whnf)
      have hbad : okS name[i] = false → (name.all okS && (decide (1 ≤ name.length) && decide (name.length ≤ 8))) = false := fun hb => by
        have : name.all okS = false := by
          cases ha : name.all okS with
          | false => rfl
          | true => rw [List.all_eq_true.1 ha _ (List.getElem_mem hi)] at hb; cases hb
        rw [this]; rfl
      have go : okS name[i] = true → ∃ s' : Nat, (s' ≤ name.length ∧ ∀ j, j < s' → (name[j]?.map okS) = some true) ∧ PV.int .i64 (IntKind.i64.wrap ((i : Int) + 1)) = PV.int .i64 s' ∧ name.length - s' < name.length - i := fun hok =>
        ⟨i + 1, ⟨hi, fun j hj => by
          by_cases e : j = i
          · subst e; rw [List.getElem?_eq_getElem hi]; simp [hok]
          · exact k2 j (by omega)⟩, by rw [wrap64 (by omega) (by omega)]; simp, by omega⟩
      refine ⟨fun a1 => ?_, fun a1 => ?_⟩
      · (conv => whnf)
        refine ⟨fun a2 => ?_, fun a2 => ?_⟩
        · (conv => whnf)
          refine ⟨?_, rfl⟩
          rw [hbad (by unfold okS
                       have e1 : ¬ 97 ≤ name[i].toNat := by omega
                       have e2 : ¬ 48 ≤ name[i].toNat := by omega
                       simp [e1, e2])]; rfl
        · (conv => whnf)
          refine ⟨fun a3 => ?_, fun a3 => ?_⟩
          · (conv => whnf)
            refine ⟨?_, rfl⟩
            rw [hbad (by unfold okS
                         have e1 : ¬ 97 ≤ name[i].toNat := by omega
                         have e2 : ¬ name[i].toNat ≤ 57 := by omega
                         simp [e1, e2])]; rfl
          · (conv => whnf)
            obtain ⟨s', y1, y2, y3⟩ := go (by
              unfold okS
              have e1 : 48 ≤ name[i].toNat := by omega
              have e2 : name[i].toNat ≤ 57 := by omega
              simp [e1, e2])
            exact ⟨s', y1, ⟨rfl, y2, trivial⟩, rfl, y3⟩
      · (conv => whnf)
        refine ⟨fun a2 => ?_, fun a2 => ?_⟩
        · (conv => whnf)
          refine ⟨fun a3 => absurd a3 (by omega), fun a3 => ?_⟩
          (conv => whnf)
          refine ⟨fun a4 => ?_, fun a4 => absurd a4 (by omega)⟩
          (conv => whnf)
          refine ⟨?_, rfl⟩
          rw [hbad (by unfold okS
                       have e1 : ¬ name[i].toNat ≤ 122 := by omega
                       have e2 : ¬ name[i].toNat ≤ 57 := by omega
                       simp [e1, e2])]; rfl
        · (conv => whnf)
          obtain ⟨s', y1, y2, y3⟩ := go (by
            unfold okS
            have e1 : 97 ≤ name[i].toNat := by omega
            have e2 : name[i].toNat ≤ 122 := by omega
            simp [e1, e2])
          exact ⟨s', y1, ⟨rfl, y2, trivial⟩, rfl, y3⟩
    · (conv => whnf)
      have h : ¬ (i : Int) < name.length := h
      have hall : name.all okS = true := by
        rw [List.all_eq_true]
        intro x hx
        obtain ⟨j, hj, rfl⟩ := List.mem_iff_getElem.1 hx
        have := k2 j (by omega)
        rw [List.getElem?_eq_getElem hj] at this
        simpa using this
      rw [hall]
      refine ⟨fun a1 => ?_, fun a1 => ?_⟩
      · (conv => whnf)
        refine ⟨fun a2 => ?_, fun a2 => ?_⟩
        · (conv => whnf)
          refine ⟨?_, rfl⟩
          have e1 : 1 ≤ name.length := by omega
          have e2 : name.length ≤ 8 := by omega
          simp [e1, e2, tupOf]
        · (conv => whnf)
          refine ⟨?_, rfl⟩
          have e2 : ¬ name.length ≤ 8 := by omega
          simp [e2, tupOf]
      · (conv => whnf)
        refine ⟨?_, rfl⟩
        have e1 : ¬ 1 ≤ name.length := by omega
        simp [e1, tupOf]
  · (conv => whnf)
    exact ⟨rfl, rfl⟩
end Go.Proofs.Tryd
