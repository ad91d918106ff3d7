import Derived.Test.YtbejjlmdmakdfaaDoorT6
set_option linter.all false
set_option linter.unusedVariables false
set_option linter.unusedSimpArgs false
set_option linter.unnecessarySimpa false
set_option maxRecDepth 100000
set_option linter.unusedVariables false
namespace Go.Proofs.Tryd
open Go Ps
def tt103 : TT := [(4, ⟨.bool, 1, 1, [.bool false]⟩), (9, ⟨.str, 1, 16, [.str []]⟩)]
theorem tt103_ok : ttOk prog tt103 = true := by kernel_rfl
def imm103 : List Nat := []
def tt91 : TT := [(3, ⟨.int .i64, 1, 8, [.int .i64 0]⟩), (9, ⟨.str, 1, 16, [.str []]⟩), (29, ⟨.slice 9, 1, 24, [.slice 0 [] (some 9)]⟩), (83, ⟨.fn, 1, 8, [.nilF]⟩)]
theorem tt91_ok : ttOk prog tt91 = true := by kernel_rfl
def imm91 : List Nat := []
def tt80 : TT := [(9, ⟨.str, 1, 16, [.str []]⟩)]
theorem tt80_ok : ttOk prog tt80 = true := by kernel_rfl
def imm80 : List Nat := []
def tt56 : TT := [(3, ⟨.int .i64, 1, 8, [.int .i64 0]⟩), (9, ⟨.str, 1, 16, [.str []]⟩)]
theorem tt56_ok : ttOk prog tt56 = true := by kernel_rfl
def imm56 : List Nat := []
def tt55 : TT := [(4, ⟨.bool, 1, 1, [.bool false]⟩), (9, ⟨.str, 1, 16, [.str []]⟩)]
theorem tt55_ok : ttOk prog tt55 = true := by kernel_rfl
def imm55 : List Nat := []
def tt24 : TT := [(9, ⟨.str, 1, 16, [.str []]⟩), (23, ⟨.strct [(9, 0), (9, 1)], 2, 32, [.str [], .str []]⟩)]
theorem tt24_ok : ttOk prog tt24 = true := by kernel_rfl
def imm24 : List Nat := [1]

def isWordB (s set : List UInt8) : Bool := decide (s ≠ []) && (decide (s.length ≤ 8) && s.all (fun c => inB set c.toNat))
theorem c57 (s set : List UInt8) (h0 : ∀ c ∈ set, c.toNat < 128) (h1 : 2 ≤ set.length) (h2 : set.length ≤ 1099511627776) : Pure prog 57 [.str s, .str set] (.bool (isWordB s set)) := by
  intro H
  (refine callOk_of_pFun2 (tt := tt57) (imm := imm57) follows tt57_ok depth6 func57 (by kernel_rfl) ?_; (conv => whnf))
  refine ⟨fun h => ?_, fun h => ?_⟩
  · have h : s = [] := h
    subst h
    (conv => whnf)
    exact ⟨rfl, rfl⟩
  (conv => whnf)
  have h : ¬ s = [] := h
  refine ⟨fun h3 => ?_, fun h3 => ?_⟩
  · (conv => whnf)
    refine callK_pure (c81 s set h0 h1 h2 (by omega)) ?_
    (conv => whnf)
    refine ⟨fun h4 => ?_, fun h4 => ?_⟩
    · (conv => whnf)
      have := (trimB_nil s set).1 h4
      refine ⟨?_, rfl⟩
      show PV.bool true = _
      unfold isWordB
      rw [this]
      have : s.length ≤ 8 := by omega
      simp [h, this]
    · (conv => whnf)
      refine ⟨?_, rfl⟩
      show PV.bool false = _
      have : ¬ s.all (fun c => inB set c.toNat) = true := fun e => h4 ((trimB_nil s set).2 e)
      unfold isWordB
      rw [Bool.not_eq_true] at this
      rw [this]
      simp
  · (conv => whnf)
    refine ⟨?_, rfl⟩
    show PV.bool false = _
    have : ¬ s.length ≤ 8 := by omega
    unfold isWordB
    simp [this]
def upperB : List UInt8 := [65, 66, 67, 68, 69, 70, 71, 72, 73, 74, 75, 76, 77, 78, 79, 80, 81, 82, 83, 84, 85, 86, 87, 88, 89, 90]
theorem c103 (s : List UInt8) : Pure prog 103 [.str s] (.bool (!isWordB s upperB)) := by
  intro H
  (refine callOk_of_pFun2 (tt := tt103) (imm := imm103) follows tt103_ok depth6 func103 (by kernel_rfl) ?_; (conv => whnf))
  refine callK_pure (c57 s upperB (by decide) (by decide) (by decide)) ?_
  cases isWordB s upperB
  · (conv => whnf)
    exact ⟨rfl, rfl⟩
  · (conv => whnf)
    exact ⟨rfl, rfl⟩
def badL (l : List (List UInt8)) : Bool := decide (4 < l.length) || l.any fun s => !isWordB s upperB
/-- A realm's kind and labels. -/
def labelsB (r : List UInt8) : Nat × List (List UInt8) := match r with
  | 47 :: t => if badL (splitB 47 t) then (0, []) else (2, splitB 47 t)
  | _ => if badL (splitB 46 r) then (0, []) else (1, (splitB 46 r).reverse)
def LabRes (r : List UInt8) (H : PH) (x : PV) (H' : PH) : Prop := ∃ ext, H' = H ++ ext ∧
  (((labelsB r).1 = 0 ∧ x = .tup [.slice 0 [] (some 9), .int .i64 0]) ∨
    ((labelsB r).1 ≠ 0 ∧ ∃ id v, x = .tup [.sref id 0 (labelsB r).2.length (labelsB r).2.length, .int .i64 (labelsB r).1] ∧ H'[id]? = some ⟨9, (labelsB r).2.map .str, v⟩))
theorem c91 (r : List UInt8) (H : PH) (hs : r.length ≤ 1099511627775) : CallOk prog 91 [.str r] H (LabRes r H) := by
  (refine callOk_of_pFun2 (tt := tt91) (imm := imm91) follows tt91_ok depth6 func91 (by kernel_rfl) ?_; (conv => whnf))
  refine callK_of (c100 r 46 H (by omega)) ?_
  rintro _ _ ⟨rfl, v, rfl⟩
  (conv => whnf)
  refine callK_pure (c101 r [47]) ?_
  cases hb : [47].isPrefixOf r
  · (conv => whnf)
    refine callK_of (c102 H.length _ (splitB 46 r) 9 v _ (get_last H _) rfl (by have := countB_le 46 r; have := splitB_len 46 r; omega)) ?_
    rintro _ _ ⟨rfl, v', rfl⟩
    rw [set_last]
    have hlb : labelsB r = if badL (splitB 46 r) then (0, []) else (1, (splitB 46 r).reverse) := by
      unfold labelsB
      split
      · simp at hb
      · rfl
    have hany : ((splitB 46 r).reverse).any (fun s => !isWordB s upperB) = (splitB 46 r).any (fun s => !isWordB s upperB) := by rw [List.any_reverse]
    have hn : (splitB 46 r).length = (splitB 46 r).reverse.length := by simp
    (conv => whnf)
    refine ⟨fun h4 => ?_, fun h4 => ?_⟩
    · (conv => whnf)
      have hbad : badL (splitB 46 r) = true := by unfold badL; have : 4 < (splitB 46 r).length := by omega
                                                  simp [this]
      refine ⟨_, rfl, .inl ⟨by rw [hlb, hbad]; rfl, rfl⟩⟩
    · (conv => whnf)
      refine callK_of (c104 103 H.length _ (fun s => !isWordB s upperB) (splitB 46 r).reverse 9 v' _ (get_last H _) hn (by omega) (fun x _ => c103 x)) ?_
      rintro _ _ ⟨rfl, rfl⟩
      rw [hany]
      have h4' : ¬ 4 < (splitB 46 r).length := by omega
      cases hany2 : (splitB 46 r).any (fun s => !isWordB s upperB)
      · (conv => whnf)
        have hbad : badL (splitB 46 r) = false := by unfold badL; rw [hany2]; simp [h4']
        refine ⟨_, rfl, .inr ⟨by rw [hlb, hbad]; simp, H.length, v', ?_, ?_⟩⟩
        · rw [hlb, hbad]
          show PV.tup _ = PV.tup _
          simp
        · rw [get_last, hlb, hbad]; rfl
      · (conv => whnf)
        have hbad : badL (splitB 46 r) = true := by unfold badL; rw [hany2]; simp
        refine ⟨_, rfl, .inl ⟨by rw [hlb, hbad]; rfl, rfl⟩⟩
  · obtain ⟨t, rfl⟩ : ∃ t, r = 47 :: t := by
      cases r with
      | nil => simp at hb
      | cons x t => 
        have hx : x = 47 := by simpa using (by simpa using hb : (47 : UInt8) = x).symm
        exact ⟨t, by rw [hx]⟩
    (conv => whnf)
    refine ⟨⟨by omega, by simp <;> omega, by simp⟩, ?_⟩
    have hst : t.length ≤ 1099511627776 := by simp at hs; omega
    have hc := countB_le 47 t
    have hc2 := splitB_len 47 t
    (conv => whnf)
    refine callK_of (Q := fun r H' => r = .sref (H ++ [PObj.mk 9 ((splitB 46 (47 :: t)).map .str) v]).length 0 (splitB 47 t).length (splitB 47 t).length ∧ ∃ v2, H' = (H ++ [PObj.mk 9 ((splitB 46 (47 :: t)).map .str) v]) ++ [⟨9, (splitB 47 t).map .str, v2⟩]) ?_ ?_
    · show CallOk prog 100 [.str (((47 :: t).take ((47 :: t).length : Int).toNat).drop (1 : Int).toNat), .str [47]] _ _
      have e : ((47 :: t).take ((47 :: t).length : Int).toNat).drop (1 : Int).toNat = t := by simp
      rw [e]
      exact c100 t 47 _ hst
    rintro _ _ ⟨rfl, v2, rfl⟩
    (conv => whnf)
    have hlb : labelsB (47 :: t) = if badL (splitB 47 t) then (0, []) else (2, splitB 47 t) := rfl
    refine ⟨fun h4 => ?_, fun h4 => ?_⟩
    · (conv => whnf)
      have hbad : badL (splitB 47 t) = true := by
        unfold badL
        have : 4 < (splitB 47 t).length := by omega
        simp [this]
      refine ⟨_, List.append_assoc _ _ _, .inl ⟨by rw [hlb, hbad]; rfl, rfl⟩⟩
    · (conv => whnf)
      refine callK_of (c104 103 _ _ (fun s => !isWordB s upperB) (splitB 47 t) 9 v2 _ (get_last _ _) rfl (by omega) (fun x _ => c103 x)) ?_
      rintro _ _ ⟨rfl, rfl⟩
      have h4' : ¬ 4 < (splitB 47 t).length := by omega
      cases hany2 : (splitB 47 t).any (fun s => !isWordB s upperB)
      · (conv => whnf)
        have hbad : badL (splitB 47 t) = false := by unfold badL; rw [hany2]; simp [h4']
        refine ⟨_, List.append_assoc _ _ _, .inr ⟨by rw [hlb, hbad]; simp, (H ++ [PObj.mk 9 ((splitB 46 (47 :: t)).map .str) v]).length, v2, ?_, ?_⟩⟩
        · rw [hlb, hbad]; rfl
        · rw [get_last, hlb, hbad]; rfl
      · (conv => whnf)
        have hbad : badL (splitB 47 t) = true := by unfold badL; rw [hany2]; simp
        refine ⟨_, List.append_assoc _ _ _, .inl ⟨by rw [hlb, hbad]; rfl, rfl⟩⟩
theorem c80 (r : List UInt8) (hs : r.length ≤ 1099511627775) : Pure prog 80 [.str r] (.int .i64 (labelsB r).1) := by
  refine Pure.of_gc rfl fun H => ?_
  (refine callOk_of_pFun2 (tt := tt80) (imm := imm80) follows tt80_ok depth6 func80 (by kernel_rfl) ?_; (conv => whnf))
  refine callK_of (c91 r H hs) ?_
  rintro _ _ ⟨ext, rfl, ⟨h1, rfl⟩ | ⟨h1, id, v, rfl, h2⟩⟩
  · (conv => whnf)
    exact ⟨by rw [h1]; rfl, ext, rfl⟩
  · (conv => whnf)
    exact ⟨rfl, ext, rfl⟩
theorem c56 (r : List UInt8) (hs : r.length ≤ 1099511627775) : Pure prog 56 [.str r] (.bool (decide ((labelsB r).1 ≠ 0))) := by
  intro H
  (refine callOk_of_pFun2 (tt := tt56) (imm := imm56) follows tt56_ok depth6 func56 (by kernel_rfl) ?_; (conv => whnf))
  refine callK_pure (c80 r hs) ?_
  (conv => whnf)
  refine ⟨fun h => ?_, fun h => ?_⟩
  · (conv => whnf)
    have : (labelsB r).1 = 0 := by omega
    exact ⟨by simp [this, tupOf], rfl⟩
  · (conv => whnf)
    have : (labelsB r).1 ≠ 0 := by omega
    exact ⟨by simp [this, tupOf], rfl⟩
end Go.Proofs.Tryd
