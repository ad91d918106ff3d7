import Derived.Test.YtbejjlmdmakdfaaDoorT16
set_option linter.all false
set_option linter.unusedVariables false
set_option linter.unusedSimpArgs false
set_option linter.unnecessarySimpa false
set_option maxRecDepth 100000
set_option linter.unusedVariables false
namespace Go.Proofs.Tryd
open Go Ps
/-- A key that is added. -/
structure Added (H : PH) (rid : Nat) (l : List Ent) (r n key : List UInt8) (H' : PH) : Prop where
  ex : ∃ (e : Ent) (v' : Nat), e.r = r ∧ e.n = n ∧ e.kv = nextKv (lastE (isP r n) l) ∧ e.key = key ∧ H'[rid]? = some (ringO (l ++ [e]) v')
  len : H.length ≤ H'.length
  fr : ∀ j, j ≠ rid → j < H.length → H'[j]? = H[j]?
theorem c11a {H : PH} {rid v : Nat} {l : List Ent} (hid : H[rid]? = some (ringO l v)) (hl : l.length < 40) (hk : ∀ e ∈ l, e.key.length = 32 ∧ e.kv ≤ 254) (r n key : List UInt8) (hkey : key.length = 32)
    (hp : isPrincB r n = true) (hr : r.length ≤ 1099511627775) (hn : n.length ≤ 1099511627775) :
    CallOk prog 11 [.ptr (some (rid, 0)), .agg [.str r, .str n], .agg (key.map byteC)] H fun x H' => x = .tup [.int .i64 (nextKv (lastE (isP r n) l)), .int .i64 0] ∧ Added H rid l r n key H' := by
  have hnk : nextKv (lastE (isP r n) l) ≤ 255 := by
    cases he : lastE (isP r n) l with
    | none => show 1 ≤ 255; omega
    | some e =>
      have := (hk e (List.mem_reverse.1 (List.mem_of_find?_eq_some he))).2
      show e.kv + 1 ≤ 255; omega
  refine (c11 hid (by omega) (fun e he => ⟨(hk e he).1, by have := (hk e he).2; omega⟩) r n key hkey hr hn).mono fun x H' ⟨h1, h2⟩ => ?_
  have hc : ¬ (40 ≤ l.length ∨ 255 < nextKv (lastE (isP r n) l)) := by omega
  unfold addR at h1
  unfold addH at h2
  rw [hp] at h1 h2
  simp only [if_neg hc] at h1 h2
  have hlt : rid < H.length := (List.getElem?_eq_some_iff.1 hid).1
  refine ⟨h1, ⟨addE H l r n key, v + 2, rfl, rfl, rfl, rfl, ?_⟩, ?_, fun j hj hlt' => ?_⟩
  · rw [h2, List.getElem?_set_self (by simp; omega)]
  · rw [h2]; simp
  · rw [h2, List.getElem?_set_ne (Ne.symm hj), List.getElem?_append_left hlt']
def keyOf1 (b : UInt8) : List UInt8 := b :: List.replicate 31 0
theorem c14 (H : PH) : CallOk prog 14 [] H fun r H' => r = .bool true := by
  (refine callOk_of_pFun2 (tt := ttR) (imm := imm14) follows ttR_ok depth6 func14 (by kernel_rfl) ?_; (conv => whnf))
  refine callK_of (c10 H) ?_
  rintro r H1 ⟨hr1, hH1⟩
  rw [hr1]
  have h1 : H1[H.length]? = some (ringO [] 0) := by rw [hH1]; simp
  have hlt : H.length < H1.length := (List.getElem?_eq_some_iff.1 h1).1
  have hs : ∀ o o' : PObj, ((H1 ++ [o]).set H1.length o')[H.length]? = some (ringO [] 0) := fun o o' => by
    rw [List.getElem?_set_ne (by omega), List.getElem?_append_left hlt]; exact h1
  have hp : ∀ o o' : PObj, ((H1 ++ [o]).set H1.length o')[H1.length]? = some o' := fun o o' => List.getElem?_set_self (by simp)
  clear hr1 hH1
  (conv => whnf)
  rw [get_last]
  (conv => whnf)
  ((conv in (_[_]?) => tactic => exact hp _ _); (conv => whnf))
  refine callK_of (c11a (hs _ _) (by show 0 < 40; omega) (fun e he => by cases he) [65] [120] (keyOf1 1) rfl rfl (by show 1 ≤ _; omega) (by show 1 ≤ _; omega)) ?_
  rintro x H2 ⟨hx, ⟨e1, v1, e1r, e1n, e1k, e1key, hr2⟩, hlen2, hf2⟩
  rw [hx]
  have hp2 : H2[H1.length]? = _ := (hf2 _ (by omega) (by simp)).trans (hp _ _)
  have hk1 : e1.kv = 1 := e1k
  (conv => whnf)
  rw [hp2]
  (conv => whnf)
  have hl1 : nextKv (lastE (isP [65] [120]) ([] ++ [e1])) = 2 := by
    rw [lastE_snoc, if_pos (by unfold isP; rw [e1r, e1n]; rfl)]
    show e1.kv + 1 = 2
    omega
  refine callK_of (c11a hr2 (by show 1 < 40; omega) (fun e he => by
    have : e = e1 := by simpa using he
    subst this; exact ⟨by rw [e1key]; rfl, by omega⟩) [65] [120] (keyOf1 2) rfl rfl (by show 1 ≤ _; omega) (by show 1 ≤ _; omega)) ?_
  rintro x H3 ⟨hx, ⟨e2, v2, e2r, e2n, e2k, e2key, hr3⟩, hlen3, hf3⟩
  rw [hl1] at hx e2k
  rw [hx]
  have hp3 := (hf3 H1.length (by omega) (List.getElem?_eq_some_iff.1 hp2).1).trans hp2
  (conv => whnf)
  rw [hp3]
  (conv => whnf)
  refine callK_of (c15 hr3 (by show 2 ≤ _; omega) (fun e he => by
    have : e = e1 ∨ e = e2 := by simpa using he
    rcases this with rfl | rfl
    · rw [e1key]; rfl
    · rw [e2key]; rfl) [65] [120]) ?_
  have hl2 : lastE (isP [65] [120]) ([] ++ [e1] ++ [e2]) = some e2 := by
    rw [lastE_snoc, if_pos (by unfold isP; rw [e2r, e2n]; rfl)]
  rintro x H4 ⟨hx, hH4⟩
  rw [hl2] at hx
  rw [hx, hH4]
  clear hx hH4
  (conv => whnf)
  refine ⟨fun _ => ?_, fun h => absurd rfl h⟩
  (conv => whnf)
  refine ⟨fun _ => ?_, fun h => absurd rfl h⟩
  (conv => whnf)
  refine ⟨fun _ => ?_, fun h => absurd (show (e2.kv : Int) = 2 by rw [e2k]; rfl) h⟩
  (conv => whnf)
  refine ⟨fun _ => ?_, fun h => absurd rfl h⟩
  (conv => whnf)
  refine callK_of (c13 hr3) ?_
  rintro x H5 ⟨hx, hH5⟩
  rw [hx]
  (conv => whnf)
  refine ⟨fun _ => ?_, fun h => absurd rfl h⟩
  (conv => whnf)
  rfl
end Go.Proofs.Tryd
