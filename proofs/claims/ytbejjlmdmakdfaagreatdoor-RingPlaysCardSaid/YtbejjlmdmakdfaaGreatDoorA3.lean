import Derived.Test.YtbejjlmdmakdfaaGreatDoorA2
set_option linter.all false
set_option maxRecDepth 100000
set_option maxHeartbeats 60000000
set_option linter.unusedVariables false
set_option linter.unusedSimpArgs false
namespace Go.Proofs.Tryz
open Go Ps
theorem fitBytesP (d : Nat) : ∀ (l : List UInt8), FitAs (FitP ttPl (d + 1) 5) 1 l.length (l.map byteC)
  | [] => rfl
  | x :: l => ⟨⟨by simp, (x.toNat : Int), rfl⟩, fitBytesP d l⟩
theorem fitKeyP (k : List UInt8) (hk : k.length = 32 := by rfl) : FitP ttPl 6 49 (k.map byteC) := by
  have := fitBytesP 4 k
  rw [hk] at this
  exact ⟨by show 0 < 32; omega, this⟩
/-- Both rings. -/
structure Both (H : PH) (es : List Ent) : Prop where
  ring : RingAt H 0 es
  x : ∃ v, H[1]? = some (xringO es v)
  inc : Inc es
  len : es.length ≤ 40
  kv : ∀ e ∈ es, e.kv ≤ 255
theorem xringT (l : List Ent) (v : Nat) : (xringO l v).T ≠ keyT ∧ (xringO l v).T ≠ boxT := ⟨fun h => absurd (show (xringO [] 0).T = keyT from h) (by decide), fun h => absurd (show (xringO [] 0).T = boxT from h) (by decide)⟩
theorem Both.evo {S : Nat → Prop} {H H' : PH} {es : List Ent} (h : Both H es) (k : Evo S H H') (h0 : ¬ S 0) (h1 : ¬ S 1) : Both H' es := by
  obtain ⟨v, hv⟩ := h.x
  exact ⟨h.ring.evo k h0, ⟨v, k.same _ _ hv h1 (xringT _ _).1 (xringT _ _).2⟩, h.inc, h.len, h.kv⟩
theorem nextKv_le {es : List Ent} (hk : ∀ e ∈ es, e.kv ≤ 255) (f : Ent → Bool) : nextKv (lastE f es) ≤ 256 := by
  cases he : lastE f es with
  | none => show 1 ≤ 256; omega
  | some e => have := hk e (lastE_mem he); show e.kv + 1 ≤ 256; omega
theorem add2 {H H2 : PH} {es : List Ent} (h : Both H es) (r n key : List UInt8) (hkey : key.length = 32) (hr : r.length ≤ 1099511627775) (hn : n.length ≤ 1099511627775)
    (hc : (addB es r n = true ∧ Adds H 0 es r n key H2) ∨ (addB es r n = false ∧ H2 = H)) :
    CallOk prog 31 [.ptr (some (1, 0)), .agg [.str r, .str n], .agg (key.map byteC)] H2 fun x H3 => x = addR es r n ∧ ∃ es', Both H3 es' := by
  rcases hc with ⟨hb, had⟩ | ⟨hb, rfl⟩
  · obtain ⟨e, e1, e2, e3, e4, hr2⟩ := h.ring.add had
    obtain ⟨v, hv⟩ := h.x
    have hv2 := had.evo.same _ _ hv (by decide) (xringT _ _).1 (xringT _ _).2
    subst e1 e2 e4
    refine (c31 hv2 (by have := h.len; omega) (fun x hx => ⟨h.ring.klen x hx, by have := h.kv x hx; omega⟩) e hkey e3 hr hn).mono fun x H3 hh => ⟨hh.1, es ++ [e], ?_⟩
    have hH := hh.2
    unfold xaddH at hH
    rw [hb] at hH
    have hH : H3 = H2.set 1 (xringO (es ++ [e]) (v + 2)) := hH
    have hev : Evo (· = 1) H2 H3 := by rw [hH]; exact Evo.setOther hv2 rfl (xringT _ _).1 (xringT _ _).2
    unfold addB at hb
    rw [Bool.and_eq_true] at hb
    have hb2 : ¬ (40 ≤ es.length ∨ 255 < nextKv (lastE (isP e.r e.n) es)) := by simpa using hb.2
    refine ⟨hr2.evo hev (by decide), ⟨v + 2, by rw [hH]; exact get_set hv2⟩, h.inc.snoc e3, by simp; omega, fun x hx => ?_⟩
    rcases List.mem_append.1 hx with hx | hx
    · exact h.kv x hx
    · have : x = e := by simpa using hx
      subst this; omega
  · obtain ⟨v, hv⟩ := h.x
    refine (c31 hv (by have := h.len; omega) (fun x hx => ⟨h.ring.klen x hx, by have := h.kv x hx; omega⟩) ⟨r, n, nextKv (lastE (isP r n) es), key, 0⟩ hkey rfl hr hn).mono fun x H3 hh => ⟨hh.1, es, ?_⟩
    have hH := hh.2
    unfold xaddH at hH
    rw [hb] at hH
    have hH : H3 = H2 := hH
    rw [hH]; exact h
theorem addR_tup (es : List Ent) (r n : List UInt8) : ∃ a b : Int, addR es r n = .tup [.int .i64 a, .int .i64 b] := by
  unfold addR
  cases isPrincB r n
  · exact ⟨_, _, rfl⟩
  · by_cases h : 40 ≤ es.length ∨ 255 < nextKv (lastE (isP r n) es)
    · simp only [if_pos h]; exact ⟨_, _, rfl⟩
    · simp only [if_neg h]; exact ⟨_, _, rfl⟩
def zA : PObj := ⟨86, [.int .i64 0, .str [], .str []] ++ List.replicate 32 (.int .u8 0) ++ [.int .i64 0], 0⟩
def zK : PObj := ⟨49, zero32, 0⟩
def actO (a : Act) : PObj := ⟨86, a.cells, 1⟩
theorem actT (a : Act) : (actO a).T ≠ keyT ∧ (actO a).T ≠ boxT := ⟨fun h => absurd (show 86 = keyT from h) (by decide), fun h => absurd (show 86 = boxT from h) (by decide)⟩
def kO (k : List UInt8) : PObj := ⟨49, k.map byteC, 1⟩
theorem aT (k : List UInt8) : (kO k).T ≠ keyT ∧ (kO k).T ≠ boxT := ⟨fun h => absurd (show 49 = keyT from h) (by decide), fun h => absurd (show 49 = boxT from h) (by decide)⟩
structure PlS where
  k : Nat
  H : PH
  es : List Ent

theorem c5 (l : List Act) (hl : l.length ≤ 140737488355328) (hb0 : ∀ a ∈ l, a.r.length ≤ 140737488355328 ∧ a.n.length ≤ 140737488355328) : CallOk prog 5 [actsV l] [] fun r _ => r = .bool true := by
  (refine callOk_of_pFun2 (tt := ttPl) (imm := imm5) follows ttPl_ok depth6 func5 (by kernel_rfl) ?_; (conv => whnf))
  refine callK_of (c28 l hl hb0 []) ?_
  rintro _ _ ⟨⟨b, rfl, hb⟩, rfl⟩
  cases b
  case true =>
    (conv => whnf)
    rfl
  (conv => whnf)
  refine callK_of (c29 []) ?_
  rintro _ _ ⟨rfl, rfl⟩
  (conv => whnf)
  refine loopK_of PlS (fun x => [(0, actsV l), (3, .ptr (some (0, 0))), (4, .ptr (some (1, 0))), (5, .int .i64 x.k)]) (fun x => x.H) (fun x => x.k ≤ l.length ∧ Both x.H x.es) (fun x => l.length - x.k)
    ⟨⟨0, [ringO [] 0, xringO [] 0], []⟩, ⟨Nat.zero_le _, ⟨(newRing (H := [])).evo (S := fun _ => False) (Evo.app [ringO [] 0] [_]) id, ⟨0, rfl⟩, Inc.nil, Nat.zero_le _, fun e he => by cases he⟩⟩, ⟨rfl, rfl, rfl, rfl, trivial⟩, rfl⟩ ?_
  rintro ⟨k, H, es⟩ ⟨hk, hB⟩
  replace hk : k ≤ l.length := hk
  replace hB : Both H es := hB
  (conv => whnf)
  refine ⟨fun h => ?_, fun h => ?_⟩
  case refine_2 =>
    (conv => whnf)
    refine callK_of (c40 _) ?_
    rintro _ _ rfl
    (conv => whnf)
    rfl
  have h : (k : Int) < l.length := h
  have hi : k < l.length := by omega
  (conv => whnf)
  refine ⟨fun h60 => ?_, fun h60 => ?_⟩
  case refine_2 =>
    (conv => whnf)
    refine callK_of (c40 _) ?_
    rintro _ _ rfl
    (conv => whnf)
    rfl
  have hat := acts_at l hi
  have h60' : (k : Int) < 60 := h60
  have hab : l[k].r.length ≤ 1099511627775 ∧ l[k].n.length ≤ 1099511627775 := by
    have := hb rfl k _ (List.getElem?_eq_getElem hi) (by omega)
    omega
  generalize l[k] = a at hat hab
  have hB1 : ∀ o, Both ((H ++ [o]).set H.length (actO a)) es := fun o => by
    rw [set_last]; exact hB.evo (S := fun _ => False) (Evo.app H _) id id
  have w1 : ∀ o, ((H ++ [o]).set H.length (actO a))[H.length]? = some (actO a) := fun o => List.getElem?_set_self (by simp)
  obtain ⟨kind, ar, an, ak, akv⟩ := a
  have hB4 : ∀ o z c, Both ((((H ++ [o]).set H.length (actO ⟨kind, ar, an, ak, akv⟩)) ++ [z]).set ((H ++ [o]).set H.length (actO ⟨kind, ar, an, ak, akv⟩)).length c) es := fun o z c => by
    rw [set_last ((H ++ [o]).set H.length (actO ⟨kind, ar, an, ak, akv⟩)) z c]; exact (hB1 o).evo (S := fun _ => False) (Evo.app _ _) id id
  have w4 : ∀ o z c, ((((H ++ [o]).set H.length (actO ⟨kind, ar, an, ak, akv⟩)) ++ [z]).set ((H ++ [o]).set H.length (actO ⟨kind, ar, an, ak, akv⟩)).length c)[((H ++ [o]).set H.length (actO ⟨kind, ar, an, ak, akv⟩)).length]? = some c := fun o z c => List.getElem?_set_self (by simp)
  (conv => whnf)
  refine ⟨⟨by omega, h⟩, (Act.mk kind ar an ak akv).cells, hat, ?_⟩
  (conv => whnf)
  ((conv in (_[_]?) => tactic => exact get_last H _); (conv => whnf))
  ((conv in (_[_]?) => tactic => exact w1 _); (conv => whnf))
  refine ⟨fun h1 => ?_, fun h1 => ?_⟩
  · -- Add
    (conv => whnf)
    ((conv in (_[_]?) => tactic => exact w1 _); (conv => whnf))
    ((conv in (_[_]?) => tactic => exact w1 _); (conv => whnf))
    obtain ⟨v1, q1⟩ := (hB1 _).ring.ex
    refine callK_of (addG q1 (by have := hB.len; omega) (fun e he => ⟨hB.ring.klen e he, by have := hB.kv e he; omega⟩) ar an (key32 ak) rfl hab.1 hab.2) ?_
    rintro x H2 ⟨hx, hcase⟩
    have w2 : H2[H.length]? = some (actO ⟨kind, ar, an, ak, akv⟩) := by
      rcases hcase with ⟨_, had⟩ | ⟨_, rfl⟩
      · exact had.evo.same _ _ (w1 _) (fun e => by
          have := (List.getElem?_eq_some_iff.1 hB.ring.ex.choose_spec).1
          omega) (actT _).1 (actT _).2
      · exact w1 _
    have hc31 := add2 (hB1 _) ar an (key32 ak) rfl hab.1 hab.2 hcase
    obtain ⟨x1, x2, hx12⟩ := addR_tup es ar an
    rw [hx12] at hx hc31
    subst hx
    clear hcase q1 hx12
    (conv => whnf)
    ((conv in (_[_]?) => tactic => exact w2); (conv => whnf))
    ((conv in (_[_]?) => tactic => exact w2); (conv => whnf))
    refine callK_of hc31 ?_
    rintro x H3 ⟨rfl, es', hB3⟩
    clear w2 hc31
    (conv => whnf)
    refine ⟨fun _ => ?_, fun h => absurd rfl h⟩
    (conv => whnf)
    refine ⟨fun _ => ?_, fun h => absurd rfl h⟩
    (conv => whnf)
    have hsave := hB3
    obtain ⟨v1, w1⟩ := hB3.ring.ex
    obtain ⟨v2, w2⟩ := hB3.x
    have hlen := hB3.len
    have hkl := hB3.ring.klen
    refine callK_of (c38v w1 (by omega) hkl) ?_
    rintro x Hq ⟨hx, hH⟩
    rw [hx]
    replace w1 := (congrArg (·[0]?) hH).trans w1
    replace w2 := (congrArg (·[1]?) hH).trans w2
    replace hsave : Both Hq es' := by rw [hH]; exact hsave
    clear hx hH
    (conv => whnf)
    refine drawK_pure2 (by kernel_rfl) ?_
    (conv => whnf)
    (apply Exists.intro; apply And.intro; (focus ((conv => whnf); first | exact ⟨rfl, rfl, trivial⟩ | (refine ⟨by omega, ?_⟩; (conv => whnf); exact ⟨rfl, rfl, trivial⟩))); (conv => whnf))
    (apply Exists.intro; apply And.intro; (focus ((conv => whnf); first | exact ⟨rfl, rfl, trivial⟩ | (refine ⟨by omega, ?_⟩; (conv => whnf); exact ⟨rfl, rfl, trivial⟩))); (conv => whnf))
    (apply Exists.intro; apply And.intro; (focus ((conv => whnf); first | exact ⟨rfl, rfl, trivial⟩ | (refine ⟨by omega, ?_⟩; (conv => whnf); exact ⟨rfl, rfl, trivial⟩))); (conv => whnf))
    (apply Exists.intro; apply And.intro; (focus ((conv => whnf); first | exact ⟨rfl, rfl, trivial⟩ | (refine ⟨by omega, ?_⟩; (conv => whnf); exact ⟨rfl, rfl, trivial⟩))); (conv => whnf))
    (apply Exists.intro; apply And.intro; (focus ((conv => whnf); first | exact ⟨rfl, rfl, trivial⟩ | (refine ⟨by omega, ?_⟩; (conv => whnf); exact ⟨rfl, rfl, trivial⟩))); (conv => whnf))
    apply Exists.intro
    apply And.intro
    · (conv => whnf)
      ((conv in (_[_]?) => tactic => exact w2); (conv => whnf))
      exact ⟨rfl, rfl, trivial⟩
    (conv => whnf)
    (apply Exists.intro; apply And.intro; (focus ((conv => whnf); first | exact ⟨rfl, rfl, trivial⟩ | (refine ⟨by omega, ?_⟩; (conv => whnf); exact ⟨rfl, rfl, trivial⟩))); (conv => whnf))
    refine ⟨.bool false, ?_, ?_⟩
    · (conv => whnf)
      exact ⟨fun _ => ⟨rfl, rfl, trivial⟩, fun h => absurd rfl h⟩
    (conv => whnf)
    (apply Exists.intro; apply And.intro; (focus ((conv => whnf); first | exact ⟨rfl, rfl, trivial⟩ | (refine ⟨by omega, ?_⟩; (conv => whnf); exact ⟨rfl, rfl, trivial⟩))); (conv => whnf))
    (apply Exists.intro; apply And.intro; (focus ((conv => whnf); first | exact ⟨rfl, rfl, trivial⟩ | (refine ⟨by omega, ?_⟩; (conv => whnf); exact ⟨rfl, rfl, trivial⟩))); (conv => whnf))
    refine ⟨_, callK_of (c39 w1) (by rintro _ _ ⟨rfl, rfl⟩; exact ⟨rfl, rfl, trivial⟩), ?_⟩
    (conv => whnf)
    (apply Exists.intro; apply And.intro; (focus ((conv => whnf); first | exact ⟨rfl, rfl, trivial⟩ | (refine ⟨by omega, ?_⟩; (conv => whnf); exact ⟨rfl, rfl, trivial⟩))); (conv => whnf))
    (apply Exists.intro; apply And.intro; (focus ((conv => whnf); first | exact ⟨rfl, rfl, trivial⟩ | (refine ⟨by omega, ?_⟩; (conv => whnf); exact ⟨rfl, rfl, trivial⟩))); (conv => whnf))
    (apply Exists.intro; apply And.intro; (focus ((conv => whnf); first | exact ⟨rfl, rfl, trivial⟩ | (refine ⟨by omega, ?_⟩; (conv => whnf); exact ⟨rfl, rfl, trivial⟩))); (conv => whnf))
    apply Exists.intro
    apply And.intro
    · (conv => whnf)
      ((conv in (_[_]?) => tactic => exact w2); (conv => whnf))
      exact ⟨rfl, rfl, trivial⟩
    (conv => whnf)
    (apply Exists.intro; apply And.intro; (focus ((conv => whnf); first | exact ⟨rfl, rfl, trivial⟩ | (refine ⟨by omega, ?_⟩; (conv => whnf); exact ⟨rfl, rfl, trivial⟩))); (conv => whnf))
    refine ⟨.bool false, ?_, ?_⟩
    · (conv => whnf)
      exact ⟨fun _ => ⟨rfl, rfl, trivial⟩, fun h => absurd rfl h⟩
    (conv => whnf)
    (apply Exists.intro; apply And.intro; (focus ((conv => whnf); first | exact ⟨rfl, rfl, trivial⟩ | (refine ⟨by omega, ?_⟩; (conv => whnf); exact ⟨rfl, rfl, trivial⟩))); (conv => whnf))
    refine loopK_of FiS (fun x => [(0, actsV l), (3, .ptr (some (0, 0))), (4, .ptr (some (1, 0))), (5, .int .i64 k), (29, .slice es'.length (es'.flatMap keyE) none), (30, .int .i64 x.k)]) (fun _ => Hq) (fun x => x.k ≤ es'.length) (fun x => es'.length - x.k) ⟨⟨0⟩, Nat.zero_le _, ⟨rfl, rfl, rfl, rfl, rfl, rfl, trivial⟩, rfl⟩ ?_
    rintro ⟨j⟩ hj
    replace hj : j ≤ es'.length := hj
    (conv => whnf)
    refine ⟨fun hjl => ?_, fun hjl => ?_⟩
    · have hjl : (j : Int) < es'.length := hjl
      have hi : j < es'.length := by omega
      have hat1 := fun q c hq => keys_at hkl hi q c hq
      have hat2 := fun q c hq => xflat_at hkl hi q c hq
      have hkey := hkl _ (List.getElem_mem hi)
      generalize es'[j] = e at hat1 hat2 hkey
      obtain ⟨er, en, ekv, ekey, ebox⟩ := e
      match ekey, hkey with
      | [a0, a1, a2, a3, a4, a5, a6, a7, a8, a9, a10, a11, a12, a13, a14, a15, b0, b1, b2, b3, b4, b5, b6, b7, b8, b9, b10, b11, b12, b13, b14, b15], _ =>
        (conv => whnf)
        refine drawK_pure2 (by kernel_rfl) ?_
        (conv => whnf)
        (apply Exists.intro; apply And.intro; (focus ((conv => whnf); first | exact ⟨rfl, rfl, trivial⟩ | (refine ⟨by omega, ?_⟩; (conv => whnf); exact ⟨rfl, rfl, trivial⟩))); (conv => whnf))
        (apply Exists.intro; apply And.intro; (focus ((conv => whnf); first | exact ⟨rfl, rfl, trivial⟩ | (refine ⟨by omega, ?_⟩; (conv => whnf); exact ⟨rfl, rfl, trivial⟩))); (conv => whnf))
        refine ⟨.elem ([a0, a1, a2, a3, a4, a5, a6, a7, a8, a9, a10, a11, a12, a13, a14, a15, b0, b1, b2, b3, b4, b5, b6, b7, b8, b9, b10, b11, b12, b13, b14, b15].map byteC), ⟨⟨by omega, hjl⟩, [a0, a1, a2, a3, a4, a5, a6, a7, a8, a9, a10, a11, a12, a13, a14, a15, b0, b1, b2, b3, b4, b5, b6, b7, b8, b9, b10, b11, b12, b13, b14, b15].map byteC, hat1, rfl, rfl, trivial⟩, ?_⟩
        (conv => whnf)
        (apply Exists.intro; apply And.intro; (focus ((conv => whnf); first | exact ⟨rfl, rfl, trivial⟩ | (refine ⟨by omega, ?_⟩; (conv => whnf); exact ⟨rfl, rfl, trivial⟩))); (conv => whnf))
        (apply Exists.intro; apply And.intro; (focus ((conv => whnf); first | exact ⟨rfl, rfl, trivial⟩ | (refine ⟨by omega, ?_⟩; (conv => whnf); exact ⟨rfl, rfl, trivial⟩))); (conv => whnf))
        (apply Exists.intro; apply And.intro; (focus ((conv => whnf); first | exact ⟨rfl, rfl, trivial⟩ | (refine ⟨by omega, ?_⟩; (conv => whnf); exact ⟨rfl, rfl, trivial⟩))); (conv => whnf))
        (apply Exists.intro; apply And.intro; (focus ((conv => whnf); first | exact ⟨rfl, rfl, trivial⟩ | (refine ⟨by omega, ?_⟩; (conv => whnf); exact ⟨rfl, rfl, trivial⟩))); (conv => whnf))
        apply Exists.intro
        apply And.intro
        · (conv => whnf)
          ((conv in (_[_]?) => tactic => exact w2); (conv => whnf))
          exact ⟨rfl, rfl, trivial⟩
        (conv => whnf)
        (apply Exists.intro; apply And.intro; (focus ((conv => whnf); first | exact ⟨rfl, rfl, trivial⟩ | (refine ⟨by omega, ?_⟩; (conv => whnf); exact ⟨rfl, rfl, trivial⟩))); (conv => whnf))
        refine ⟨.elem (Ent.mk er en ekv [a0, a1, a2, a3, a4, a5, a6, a7, a8, a9, a10, a11, a12, a13, a14, a15, b0, b1, b2, b3, b4, b5, b6, b7, b8, b9, b10, b11, b12, b13, b14, b15] ebox).xcells, ⟨⟨by omega, hjl⟩, (Ent.mk er en ekv [a0, a1, a2, a3, a4, a5, a6, a7, a8, a9, a10, a11, a12, a13, a14, a15, b0, b1, b2, b3, b4, b5, b6, b7, b8, b9, b10, b11, b12, b13, b14, b15] ebox).xcells, hat2, rfl, rfl, trivial⟩, ?_⟩
        (conv => whnf)
        (apply Exists.intro; apply And.intro; (focus ((conv => whnf); first | exact ⟨rfl, rfl, trivial⟩ | (refine ⟨by omega, ?_⟩; (conv => whnf); exact ⟨rfl, rfl, trivial⟩))); (conv => whnf))
        (apply Exists.intro; apply And.intro; (focus ((conv => whnf); first | exact ⟨rfl, rfl, trivial⟩ | (refine ⟨by omega, ?_⟩; (conv => whnf); exact ⟨rfl, rfl, trivial⟩))); (conv => whnf))
        refine ⟨.bool false, ?_, ?_⟩
        · (conv => whnf)
          refine ⟨⟨fitKeyP [a0, a1, a2, a3, a4, a5, a6, a7, a8, a9, a10, a11, a12, a13, a14, a15, b0, b1, b2, b3, b4, b5, b6, b7, b8, b9, b10, b11, b12, b13, b14, b15], fitKeyP [a0, a1, a2, a3, a4, a5, a6, a7, a8, a9, a10, a11, a12, a13, a14, a15, b0, b1, b2, b3, b4, b5, b6, b7, b8, b9, b10, b11, b12, b13, b14, b15]⟩, ?_⟩
          (conv => whnf)
          exact ⟨fun _ => ⟨rfl, rfl, trivial⟩, fun h => absurd rfl h⟩
        (conv => whnf)
        refine ⟨⟨j + 1⟩, by show j + 1 ≤ es'.length; omega, ⟨rfl, rfl, rfl, rfl, rfl, ?_, trivial⟩, rfl, by show es'.length - (j + 1) < es'.length - j; omega⟩
        show PV.int _ (IntKind.i64.wrap ((j : Int) + 1)) = PV.int _ _
        rw [wrap64 (by omega) (by omega)]; simp
    · (conv => whnf)
      refine ⟨⟨k + 1, Hq, es'⟩, ⟨by show k + 1 ≤ l.length; omega, hsave⟩, ⟨rfl, rfl, rfl, ?_, trivial⟩, rfl, by show l.length - (k + 1) < l.length - k; omega⟩
      show PV.int _ (IntKind.i64.wrap ((k : Int) + 1)) = PV.int _ _
      rw [wrap64 (by omega) (by omega)]; simp
  (conv => whnf)
  refine ⟨fun h2 => ?_, fun h2 => ?_⟩
  · -- Box
    (conv => whnf)
    ((conv in (_[_]?) => tactic => exact w1 _); (conv => whnf))
    ((conv in (_[_]?) => tactic => exact w1 _); (conv => whnf))
    refine callK_of (boxGet (hB1 _).ring (by have := hB.len; omega) ar an akv) ?_
    rintro x H' ⟨hx, hH⟩
    rw [hx, hH]; clear hx hH
    obtain ⟨v2, q2⟩ := (hB1 _).x
    have hc33 := c33 q2 (by have := hB.len; omega) hB.ring.klen ar an akv
    rw [hB.inc.find] at hc33
    cases hL : lastE (isK ar an akv) es with
    | none =>
      rw [hL] at hc33
      (conv => whnf)
      ((conv in (_[_]?) => tactic => exact w1 _); (conv => whnf))
      ((conv in (_[_]?) => tactic => exact w1 _); (conv => whnf))
      refine callK_of hc33 ?_
      rintro x H' ⟨hx, hH⟩
      rw [hx, hH]; clear hx hH hc33
      (conv => whnf)
      ((conv in (_[_]?) => tactic => exact get_last _ _); (conv => whnf))
      refine ⟨fun _ => ?_, fun h => absurd rfl h⟩
      (conv => whnf)
      refine ⟨fun h => absurd h (by decide), fun _ => ?_⟩
      (conv => whnf)
      have hsave := hB4 zA zK ⟨49, zero32, 1⟩
      have hB5 := hB4
      obtain ⟨v1, w1⟩ := (hB4 zA zK ⟨49, zero32, 1⟩).ring.ex
      obtain ⟨v2, w2⟩ := (hB4 zA zK ⟨49, zero32, 1⟩).x
      have hlen := (hB4 zA zK ⟨49, zero32, 1⟩).len
      have hkl := (hB4 zA zK ⟨49, zero32, 1⟩).ring.klen
      refine callK_of (c38v w1 (by omega) hkl) ?_
      rintro x Hq ⟨hx, hH⟩
      rw [hx]
      replace w1 := (congrArg (·[0]?) hH).trans w1
      replace w2 := (congrArg (·[1]?) hH).trans w2
      replace hsave : Both Hq es := by rw [hH]; exact hsave
      clear hx hH
      (conv => whnf)
      refine drawK_pure2 (by kernel_rfl) ?_
      (conv => whnf)
      (apply Exists.intro; apply And.intro; (focus ((conv => whnf); first | exact ⟨rfl, rfl, trivial⟩ | (refine ⟨by omega, ?_⟩; (conv => whnf); exact ⟨rfl, rfl, trivial⟩))); (conv => whnf))
      (apply Exists.intro; apply And.intro; (focus ((conv => whnf); first | exact ⟨rfl, rfl, trivial⟩ | (refine ⟨by omega, ?_⟩; (conv => whnf); exact ⟨rfl, rfl, trivial⟩))); (conv => whnf))
      (apply Exists.intro; apply And.intro; (focus ((conv => whnf); first | exact ⟨rfl, rfl, trivial⟩ | (refine ⟨by omega, ?_⟩; (conv => whnf); exact ⟨rfl, rfl, trivial⟩))); (conv => whnf))
      (apply Exists.intro; apply And.intro; (focus ((conv => whnf); first | exact ⟨rfl, rfl, trivial⟩ | (refine ⟨by omega, ?_⟩; (conv => whnf); exact ⟨rfl, rfl, trivial⟩))); (conv => whnf))
      (apply Exists.intro; apply And.intro; (focus ((conv => whnf); first | exact ⟨rfl, rfl, trivial⟩ | (refine ⟨by omega, ?_⟩; (conv => whnf); exact ⟨rfl, rfl, trivial⟩))); (conv => whnf))
      apply Exists.intro
      apply And.intro
      · (conv => whnf)
        ((conv in (_[_]?) => tactic => exact w2); (conv => whnf))
        exact ⟨rfl, rfl, trivial⟩
      (conv => whnf)
      (apply Exists.intro; apply And.intro; (focus ((conv => whnf); first | exact ⟨rfl, rfl, trivial⟩ | (refine ⟨by omega, ?_⟩; (conv => whnf); exact ⟨rfl, rfl, trivial⟩))); (conv => whnf))
      refine ⟨.bool false, ?_, ?_⟩
      · (conv => whnf)
        exact ⟨fun _ => ⟨rfl, rfl, trivial⟩, fun h => absurd rfl h⟩
      (conv => whnf)
      (apply Exists.intro; apply And.intro; (focus ((conv => whnf); first | exact ⟨rfl, rfl, trivial⟩ | (refine ⟨by omega, ?_⟩; (conv => whnf); exact ⟨rfl, rfl, trivial⟩))); (conv => whnf))
      (apply Exists.intro; apply And.intro; (focus ((conv => whnf); first | exact ⟨rfl, rfl, trivial⟩ | (refine ⟨by omega, ?_⟩; (conv => whnf); exact ⟨rfl, rfl, trivial⟩))); (conv => whnf))
      refine ⟨_, callK_of (c39 w1) (by rintro _ _ ⟨rfl, rfl⟩; exact ⟨rfl, rfl, trivial⟩), ?_⟩
      (conv => whnf)
      (apply Exists.intro; apply And.intro; (focus ((conv => whnf); first | exact ⟨rfl, rfl, trivial⟩ | (refine ⟨by omega, ?_⟩; (conv => whnf); exact ⟨rfl, rfl, trivial⟩))); (conv => whnf))
      (apply Exists.intro; apply And.intro; (focus ((conv => whnf); first | exact ⟨rfl, rfl, trivial⟩ | (refine ⟨by omega, ?_⟩; (conv => whnf); exact ⟨rfl, rfl, trivial⟩))); (conv => whnf))
      (apply Exists.intro; apply And.intro; (focus ((conv => whnf); first | exact ⟨rfl, rfl, trivial⟩ | (refine ⟨by omega, ?_⟩; (conv => whnf); exact ⟨rfl, rfl, trivial⟩))); (conv => whnf))
      apply Exists.intro
      apply And.intro
      · (conv => whnf)
        ((conv in (_[_]?) => tactic => exact w2); (conv => whnf))
        exact ⟨rfl, rfl, trivial⟩
      (conv => whnf)
      (apply Exists.intro; apply And.intro; (focus ((conv => whnf); first | exact ⟨rfl, rfl, trivial⟩ | (refine ⟨by omega, ?_⟩; (conv => whnf); exact ⟨rfl, rfl, trivial⟩))); (conv => whnf))
      refine ⟨.bool false, ?_, ?_⟩
      · (conv => whnf)
        exact ⟨fun _ => ⟨rfl, rfl, trivial⟩, fun h => absurd rfl h⟩
      (conv => whnf)
      (apply Exists.intro; apply And.intro; (focus ((conv => whnf); first | exact ⟨rfl, rfl, trivial⟩ | (refine ⟨by omega, ?_⟩; (conv => whnf); exact ⟨rfl, rfl, trivial⟩))); (conv => whnf))
      refine loopK_of FiS (fun x => [(0, actsV l), (3, .ptr (some (0, 0))), (4, .ptr (some (1, 0))), (5, .int .i64 k), (29, .slice es.length (es.flatMap keyE) none), (30, .int .i64 x.k)]) (fun _ => Hq) (fun x => x.k ≤ es.length) (fun x => es.length - x.k) ⟨⟨0⟩, Nat.zero_le _, ⟨rfl, rfl, rfl, rfl, rfl, rfl, trivial⟩, rfl⟩ ?_
      rintro ⟨j⟩ hj
      replace hj : j ≤ es.length := hj
      (conv => whnf)
      refine ⟨fun hjl => ?_, fun hjl => ?_⟩
      · have hjl : (j : Int) < es.length := hjl
        have hi : j < es.length := by omega
        have hat1 := fun q c hq => keys_at hkl hi q c hq
        have hat2 := fun q c hq => xflat_at hkl hi q c hq
        have hkey := hkl _ (List.getElem_mem hi)
        generalize es[j] = e at hat1 hat2 hkey
        obtain ⟨er, en, ekv, ekey, ebox⟩ := e
        match ekey, hkey with
        | [a0, a1, a2, a3, a4, a5, a6, a7, a8, a9, a10, a11, a12, a13, a14, a15, b0, b1, b2, b3, b4, b5, b6, b7, b8, b9, b10, b11, b12, b13, b14, b15], _ =>
          (conv => whnf)
          refine drawK_pure2 (by kernel_rfl) ?_
          (conv => whnf)
          (apply Exists.intro; apply And.intro; (focus ((conv => whnf); first | exact ⟨rfl, rfl, trivial⟩ | (refine ⟨by omega, ?_⟩; (conv => whnf); exact ⟨rfl, rfl, trivial⟩))); (conv => whnf))
          (apply Exists.intro; apply And.intro; (focus ((conv => whnf); first | exact ⟨rfl, rfl, trivial⟩ | (refine ⟨by omega, ?_⟩; (conv => whnf); exact ⟨rfl, rfl, trivial⟩))); (conv => whnf))
          refine ⟨.elem ([a0, a1, a2, a3, a4, a5, a6, a7, a8, a9, a10, a11, a12, a13, a14, a15, b0, b1, b2, b3, b4, b5, b6, b7, b8, b9, b10, b11, b12, b13, b14, b15].map byteC), ⟨⟨by omega, hjl⟩, [a0, a1, a2, a3, a4, a5, a6, a7, a8, a9, a10, a11, a12, a13, a14, a15, b0, b1, b2, b3, b4, b5, b6, b7, b8, b9, b10, b11, b12, b13, b14, b15].map byteC, hat1, rfl, rfl, trivial⟩, ?_⟩
          (conv => whnf)
          (apply Exists.intro; apply And.intro; (focus ((conv => whnf); first | exact ⟨rfl, rfl, trivial⟩ | (refine ⟨by omega, ?_⟩; (conv => whnf); exact ⟨rfl, rfl, trivial⟩))); (conv => whnf))
          (apply Exists.intro; apply And.intro; (focus ((conv => whnf); first | exact ⟨rfl, rfl, trivial⟩ | (refine ⟨by omega, ?_⟩; (conv => whnf); exact ⟨rfl, rfl, trivial⟩))); (conv => whnf))
          (apply Exists.intro; apply And.intro; (focus ((conv => whnf); first | exact ⟨rfl, rfl, trivial⟩ | (refine ⟨by omega, ?_⟩; (conv => whnf); exact ⟨rfl, rfl, trivial⟩))); (conv => whnf))
          (apply Exists.intro; apply And.intro; (focus ((conv => whnf); first | exact ⟨rfl, rfl, trivial⟩ | (refine ⟨by omega, ?_⟩; (conv => whnf); exact ⟨rfl, rfl, trivial⟩))); (conv => whnf))
          apply Exists.intro
          apply And.intro
          · (conv => whnf)
            ((conv in (_[_]?) => tactic => exact w2); (conv => whnf))
            exact ⟨rfl, rfl, trivial⟩
          (conv => whnf)
          (apply Exists.intro; apply And.intro; (focus ((conv => whnf); first | exact ⟨rfl, rfl, trivial⟩ | (refine ⟨by omega, ?_⟩; (conv => whnf); exact ⟨rfl, rfl, trivial⟩))); (conv => whnf))
          refine ⟨.elem (Ent.mk er en ekv [a0, a1, a2, a3, a4, a5, a6, a7, a8, a9, a10, a11, a12, a13, a14, a15, b0, b1, b2, b3, b4, b5, b6, b7, b8, b9, b10, b11, b12, b13, b14, b15] ebox).xcells, ⟨⟨by omega, hjl⟩, (Ent.mk er en ekv [a0, a1, a2, a3, a4, a5, a6, a7, a8, a9, a10, a11, a12, a13, a14, a15, b0, b1, b2, b3, b4, b5, b6, b7, b8, b9, b10, b11, b12, b13, b14, b15] ebox).xcells, hat2, rfl, rfl, trivial⟩, ?_⟩
          (conv => whnf)
          (apply Exists.intro; apply And.intro; (focus ((conv => whnf); first | exact ⟨rfl, rfl, trivial⟩ | (refine ⟨by omega, ?_⟩; (conv => whnf); exact ⟨rfl, rfl, trivial⟩))); (conv => whnf))
          (apply Exists.intro; apply And.intro; (focus ((conv => whnf); first | exact ⟨rfl, rfl, trivial⟩ | (refine ⟨by omega, ?_⟩; (conv => whnf); exact ⟨rfl, rfl, trivial⟩))); (conv => whnf))
          refine ⟨.bool false, ?_, ?_⟩
          · (conv => whnf)
            refine ⟨⟨fitKeyP [a0, a1, a2, a3, a4, a5, a6, a7, a8, a9, a10, a11, a12, a13, a14, a15, b0, b1, b2, b3, b4, b5, b6, b7, b8, b9, b10, b11, b12, b13, b14, b15], fitKeyP [a0, a1, a2, a3, a4, a5, a6, a7, a8, a9, a10, a11, a12, a13, a14, a15, b0, b1, b2, b3, b4, b5, b6, b7, b8, b9, b10, b11, b12, b13, b14, b15]⟩, ?_⟩
            (conv => whnf)
            exact ⟨fun _ => ⟨rfl, rfl, trivial⟩, fun h => absurd rfl h⟩
          (conv => whnf)
          refine ⟨⟨j + 1⟩, by show j + 1 ≤ es.length; omega, ⟨rfl, rfl, rfl, rfl, rfl, ?_, trivial⟩, rfl, by show es.length - (j + 1) < es.length - j; omega⟩
          show PV.int _ (IntKind.i64.wrap ((j : Int) + 1)) = PV.int _ _
          rw [wrap64 (by omega) (by omega)]; simp
      · (conv => whnf)
        refine ⟨⟨k + 1, Hq, es⟩, ⟨by show k + 1 ≤ l.length; omega, hsave⟩, ⟨rfl, rfl, rfl, ?_, trivial⟩, rfl, by show l.length - (k + 1) < l.length - k; omega⟩
        show PV.int _ (IntKind.i64.wrap ((k : Int) + 1)) = PV.int _ _
        rw [wrap64 (by omega) (by omega)]; simp
    | some e =>
      rw [hL] at hc33
      have hmem := lastE_mem hL
      have hkey := hB.ring.klen e hmem
      have hbx := hB4
      obtain ⟨er, en, ekv, ekey, ebox⟩ := e
      match ekey, hkey with
      | [a0, a1, a2, a3, a4, a5, a6, a7, a8, a9, a10, a11, a12, a13, a14, a15, b0, b1, b2, b3, b4, b5, b6, b7, b8, b9, b10, b11, b12, b13, b14, b15], _ =>
        (conv => whnf)
        ((conv in (_[_]?) => tactic => exact w1 _); (conv => whnf))
        ((conv in (_[_]?) => tactic => exact w1 _); (conv => whnf))
        refine callK_of hc33 ?_
        rintro x H' ⟨hx, hH⟩
        rw [hx, hH]; clear hx hH hc33
        (conv => whnf)
        ((conv in (_[_]?) => tactic => exact get_last _ _); (conv => whnf))
        refine ⟨fun _ => ?_, fun h => absurd rfl h⟩
        (conv => whnf)
        refine ⟨fun _ => ?_, fun h => absurd rfl h⟩
        (conv => whnf)
        have hbx : ∀ o z c, BoxAt ((((H ++ [o]).set H.length (actO ⟨kind, ar, an, ak, akv⟩)) ++ [z]).set ((H ++ [o]).set H.length (actO ⟨kind, ar, an, ak, akv⟩)).length c) ebox [a0, a1, a2, a3, a4, a5, a6, a7, a8, a9, a10, a11, a12, a13, a14, a15, b0, b1, b2, b3, b4, b5, b6, b7, b8, b9, b10, b11, b12, b13, b14, b15] := fun o z c => (hB4 o z c).ring.box _ hmem
        refine callK_of (sealAt (key := [a0, a1, a2, a3, a4, a5, a6, a7, a8, a9, a10, a11, a12, a13, a14, a15, b0, b1, b2, b3, b4, b5, b6, b7, b8, b9, b10, b11, b12, b13, b14, b15]) (hbx zA zK (kO [a0, a1, a2, a3, a4, a5, a6, a7, a8, a9, a10, a11, a12, a13, a14, a15, b0, b1, b2, b3, b4, b5, b6, b7, b8, b9, b10, b11, b12, b13, b14, b15])) 1 2 rfl (by decide) (by decide) [120] (by decide)) ?_
        rintro x H5 ⟨rfl, hev2, hlen2⟩
        have hB5 := (hB4 zA zK (kO [a0, a1, a2, a3, a4, a5, a6, a7, a8, a9, a10, a11, a12, a13, a14, a15, b0, b1, b2, b3, b4, b5, b6, b7, b8, b9, b10, b11, b12, b13, b14, b15])).evo hev2 id id
        have w5 := hev2.same _ _ (w4 zA zK (kO [a0, a1, a2, a3, a4, a5, a6, a7, a8, a9, a10, a11, a12, a13, a14, a15, b0, b1, b2, b3, b4, b5, b6, b7, b8, b9, b10, b11, b12, b13, b14, b15])) id (aT _).1 (aT _).2
        have hc := c35 [a0, a1, a2, a3, a4, a5, a6, a7, a8, a9, a10, a11, a12, a13, a14, a15, b0, b1, b2, b3, b4, b5, b6, b7, b8, b9, b10, b11, b12, b13, b14, b15] rfl 1 2 rfl (by decide) (by decide) [120] (by decide)
        have hc : Pure prog 35 [.agg ([a0, a1, a2, a3, a4, a5, a6, a7, a8, a9, a10, a11, a12, a13, a14, a15, b0, b1, b2, b3, b4, b5, b6, b7, b8, b9, b10, b11, b12, b13, b14, b15].map byteC), .int .i64 1, .int .i64 2, sl [120]] (.tup [ow (sealK [a0, a1, a2, a3, a4, a5, a6, a7, a8, a9, a10, a11, a12, a13, a14, a15, b0, b1, b2, b3, b4, b5, b6, b7, b8, b9, b10, b11, b12, b13, b14, b15] 1 2 [120]), .int .i64 0]) := hc
        generalize sealK [a0, a1, a2, a3, a4, a5, a6, a7, a8, a9, a10, a11, a12, a13, a14, a15, b0, b1, b2, b3, b4, b5, b6, b7, b8, b9, b10, b11, b12, b13, b14, b15] 1 2 [120] = s at hc
        (conv => whnf)
        ((conv in (_[_]?) => tactic => exact w5); (conv => whnf))
        refine callK_pure hc ?_
        (conv => whnf)
        refine ⟨fun _ => ?_, fun h => absurd rfl h⟩
        (conv => whnf)
        refine ⟨s, ⟨rfl, rfl⟩, ?_⟩
        (conv => whnf)
        refine ⟨s, ⟨rfl, rfl⟩, ?_⟩
        (conv => whnf)
        refine ⟨fun _ => ?_, fun h => absurd rfl h⟩
        (conv => whnf)
        have hsave := hB5
        clear hc
        obtain ⟨v1, w1⟩ := hB5.ring.ex
        obtain ⟨v2, w2⟩ := hB5.x
        have hlen := hB5.len
        have hkl := hB5.ring.klen
        refine callK_of (c38v w1 (by omega) hkl) ?_
        rintro x Hq ⟨hx, hH⟩
        rw [hx]
        replace w1 := (congrArg (·[0]?) hH).trans w1
        replace w2 := (congrArg (·[1]?) hH).trans w2
        replace hsave : Both Hq es := by rw [hH]; exact hsave
        clear hx hH
        (conv => whnf)
        refine drawK_pure2 (by kernel_rfl) ?_
        (conv => whnf)
        (apply Exists.intro; apply And.intro; (focus ((conv => whnf); first | exact ⟨rfl, rfl, trivial⟩ | (refine ⟨by omega, ?_⟩; (conv => whnf); exact ⟨rfl, rfl, trivial⟩))); (conv => whnf))
        (apply Exists.intro; apply And.intro; (focus ((conv => whnf); first | exact ⟨rfl, rfl, trivial⟩ | (refine ⟨by omega, ?_⟩; (conv => whnf); exact ⟨rfl, rfl, trivial⟩))); (conv => whnf))
        (apply Exists.intro; apply And.intro; (focus ((conv => whnf); first | exact ⟨rfl, rfl, trivial⟩ | (refine ⟨by omega, ?_⟩; (conv => whnf); exact ⟨rfl, rfl, trivial⟩))); (conv => whnf))
        (apply Exists.intro; apply And.intro; (focus ((conv => whnf); first | exact ⟨rfl, rfl, trivial⟩ | (refine ⟨by omega, ?_⟩; (conv => whnf); exact ⟨rfl, rfl, trivial⟩))); (conv => whnf))
        (apply Exists.intro; apply And.intro; (focus ((conv => whnf); first | exact ⟨rfl, rfl, trivial⟩ | (refine ⟨by omega, ?_⟩; (conv => whnf); exact ⟨rfl, rfl, trivial⟩))); (conv => whnf))
        apply Exists.intro
        apply And.intro
        · (conv => whnf)
          ((conv in (_[_]?) => tactic => exact w2); (conv => whnf))
          exact ⟨rfl, rfl, trivial⟩
        (conv => whnf)
        (apply Exists.intro; apply And.intro; (focus ((conv => whnf); first | exact ⟨rfl, rfl, trivial⟩ | (refine ⟨by omega, ?_⟩; (conv => whnf); exact ⟨rfl, rfl, trivial⟩))); (conv => whnf))
        refine ⟨.bool false, ?_, ?_⟩
        · (conv => whnf)
          exact ⟨fun _ => ⟨rfl, rfl, trivial⟩, fun h => absurd rfl h⟩
        (conv => whnf)
        (apply Exists.intro; apply And.intro; (focus ((conv => whnf); first | exact ⟨rfl, rfl, trivial⟩ | (refine ⟨by omega, ?_⟩; (conv => whnf); exact ⟨rfl, rfl, trivial⟩))); (conv => whnf))
        (apply Exists.intro; apply And.intro; (focus ((conv => whnf); first | exact ⟨rfl, rfl, trivial⟩ | (refine ⟨by omega, ?_⟩; (conv => whnf); exact ⟨rfl, rfl, trivial⟩))); (conv => whnf))
        refine ⟨_, callK_of (c39 w1) (by rintro _ _ ⟨rfl, rfl⟩; exact ⟨rfl, rfl, trivial⟩), ?_⟩
        (conv => whnf)
        (apply Exists.intro; apply And.intro; (focus ((conv => whnf); first | exact ⟨rfl, rfl, trivial⟩ | (refine ⟨by omega, ?_⟩; (conv => whnf); exact ⟨rfl, rfl, trivial⟩))); (conv => whnf))
        (apply Exists.intro; apply And.intro; (focus ((conv => whnf); first | exact ⟨rfl, rfl, trivial⟩ | (refine ⟨by omega, ?_⟩; (conv => whnf); exact ⟨rfl, rfl, trivial⟩))); (conv => whnf))
        (apply Exists.intro; apply And.intro; (focus ((conv => whnf); first | exact ⟨rfl, rfl, trivial⟩ | (refine ⟨by omega, ?_⟩; (conv => whnf); exact ⟨rfl, rfl, trivial⟩))); (conv => whnf))
        apply Exists.intro
        apply And.intro
        · (conv => whnf)
          ((conv in (_[_]?) => tactic => exact w2); (conv => whnf))
          exact ⟨rfl, rfl, trivial⟩
        (conv => whnf)
        (apply Exists.intro; apply And.intro; (focus ((conv => whnf); first | exact ⟨rfl, rfl, trivial⟩ | (refine ⟨by omega, ?_⟩; (conv => whnf); exact ⟨rfl, rfl, trivial⟩))); (conv => whnf))
        refine ⟨.bool false, ?_, ?_⟩
        · (conv => whnf)
          exact ⟨fun _ => ⟨rfl, rfl, trivial⟩, fun h => absurd rfl h⟩
        (conv => whnf)
        (apply Exists.intro; apply And.intro; (focus ((conv => whnf); first | exact ⟨rfl, rfl, trivial⟩ | (refine ⟨by omega, ?_⟩; (conv => whnf); exact ⟨rfl, rfl, trivial⟩))); (conv => whnf))
        refine loopK_of FiS (fun x => [(0, actsV l), (3, .ptr (some (0, 0))), (4, .ptr (some (1, 0))), (5, .int .i64 k), (29, .slice es.length (es.flatMap keyE) none), (30, .int .i64 x.k)]) (fun _ => Hq) (fun x => x.k ≤ es.length) (fun x => es.length - x.k) ⟨⟨0⟩, Nat.zero_le _, ⟨rfl, rfl, rfl, rfl, rfl, rfl, trivial⟩, rfl⟩ ?_
        rintro ⟨j⟩ hj
        replace hj : j ≤ es.length := hj
        (conv => whnf)
        refine ⟨fun hjl => ?_, fun hjl => ?_⟩
        · have hjl : (j : Int) < es.length := hjl
          have hi : j < es.length := by omega
          have hat1 := fun q c hq => keys_at hkl hi q c hq
          have hat2 := fun q c hq => xflat_at hkl hi q c hq
          have hkey := hkl _ (List.getElem_mem hi)
          generalize es[j] = e at hat1 hat2 hkey
          obtain ⟨er, en, ekv, ekey, ebox⟩ := e
          match ekey, hkey with
          | [a0, a1, a2, a3, a4, a5, a6, a7, a8, a9, a10, a11, a12, a13, a14, a15, b0, b1, b2, b3, b4, b5, b6, b7, b8, b9, b10, b11, b12, b13, b14, b15], _ =>
            (conv => whnf)
            refine drawK_pure2 (by kernel_rfl) ?_
            (conv => whnf)
            (apply Exists.intro; apply And.intro; (focus ((conv => whnf); first | exact ⟨rfl, rfl, trivial⟩ | (refine ⟨by omega, ?_⟩; (conv => whnf); exact ⟨rfl, rfl, trivial⟩))); (conv => whnf))
            (apply Exists.intro; apply And.intro; (focus ((conv => whnf); first | exact ⟨rfl, rfl, trivial⟩ | (refine ⟨by omega, ?_⟩; (conv => whnf); exact ⟨rfl, rfl, trivial⟩))); (conv => whnf))
            refine ⟨.elem ([a0, a1, a2, a3, a4, a5, a6, a7, a8, a9, a10, a11, a12, a13, a14, a15, b0, b1, b2, b3, b4, b5, b6, b7, b8, b9, b10, b11, b12, b13, b14, b15].map byteC), ⟨⟨by omega, hjl⟩, [a0, a1, a2, a3, a4, a5, a6, a7, a8, a9, a10, a11, a12, a13, a14, a15, b0, b1, b2, b3, b4, b5, b6, b7, b8, b9, b10, b11, b12, b13, b14, b15].map byteC, hat1, rfl, rfl, trivial⟩, ?_⟩
            (conv => whnf)
            (apply Exists.intro; apply And.intro; (focus ((conv => whnf); first | exact ⟨rfl, rfl, trivial⟩ | (refine ⟨by omega, ?_⟩; (conv => whnf); exact ⟨rfl, rfl, trivial⟩))); (conv => whnf))
            (apply Exists.intro; apply And.intro; (focus ((conv => whnf); first | exact ⟨rfl, rfl, trivial⟩ | (refine ⟨by omega, ?_⟩; (conv => whnf); exact ⟨rfl, rfl, trivial⟩))); (conv => whnf))
            (apply Exists.intro; apply And.intro; (focus ((conv => whnf); first | exact ⟨rfl, rfl, trivial⟩ | (refine ⟨by omega, ?_⟩; (conv => whnf); exact ⟨rfl, rfl, trivial⟩))); (conv => whnf))
            (apply Exists.intro; apply And.intro; (focus ((conv => whnf); first | exact ⟨rfl, rfl, trivial⟩ | (refine ⟨by omega, ?_⟩; (conv => whnf); exact ⟨rfl, rfl, trivial⟩))); (conv => whnf))
            apply Exists.intro
            apply And.intro
            · (conv => whnf)
              ((conv in (_[_]?) => tactic => exact w2); (conv => whnf))
              exact ⟨rfl, rfl, trivial⟩
            (conv => whnf)
            (apply Exists.intro; apply And.intro; (focus ((conv => whnf); first | exact ⟨rfl, rfl, trivial⟩ | (refine ⟨by omega, ?_⟩; (conv => whnf); exact ⟨rfl, rfl, trivial⟩))); (conv => whnf))
            refine ⟨.elem (Ent.mk er en ekv [a0, a1, a2, a3, a4, a5, a6, a7, a8, a9, a10, a11, a12, a13, a14, a15, b0, b1, b2, b3, b4, b5, b6, b7, b8, b9, b10, b11, b12, b13, b14, b15] ebox).xcells, ⟨⟨by omega, hjl⟩, (Ent.mk er en ekv [a0, a1, a2, a3, a4, a5, a6, a7, a8, a9, a10, a11, a12, a13, a14, a15, b0, b1, b2, b3, b4, b5, b6, b7, b8, b9, b10, b11, b12, b13, b14, b15] ebox).xcells, hat2, rfl, rfl, trivial⟩, ?_⟩
            (conv => whnf)
            (apply Exists.intro; apply And.intro; (focus ((conv => whnf); first | exact ⟨rfl, rfl, trivial⟩ | (refine ⟨by omega, ?_⟩; (conv => whnf); exact ⟨rfl, rfl, trivial⟩))); (conv => whnf))
            (apply Exists.intro; apply And.intro; (focus ((conv => whnf); first | exact ⟨rfl, rfl, trivial⟩ | (refine ⟨by omega, ?_⟩; (conv => whnf); exact ⟨rfl, rfl, trivial⟩))); (conv => whnf))
            refine ⟨.bool false, ?_, ?_⟩
            · (conv => whnf)
              refine ⟨⟨fitKeyP [a0, a1, a2, a3, a4, a5, a6, a7, a8, a9, a10, a11, a12, a13, a14, a15, b0, b1, b2, b3, b4, b5, b6, b7, b8, b9, b10, b11, b12, b13, b14, b15], fitKeyP [a0, a1, a2, a3, a4, a5, a6, a7, a8, a9, a10, a11, a12, a13, a14, a15, b0, b1, b2, b3, b4, b5, b6, b7, b8, b9, b10, b11, b12, b13, b14, b15]⟩, ?_⟩
              (conv => whnf)
              exact ⟨fun _ => ⟨rfl, rfl, trivial⟩, fun h => absurd rfl h⟩
            (conv => whnf)
            refine ⟨⟨j + 1⟩, by show j + 1 ≤ es.length; omega, ⟨rfl, rfl, rfl, rfl, rfl, ?_, trivial⟩, rfl, by show es.length - (j + 1) < es.length - j; omega⟩
            show PV.int _ (IntKind.i64.wrap ((j : Int) + 1)) = PV.int _ _
            rw [wrap64 (by omega) (by omega)]; simp
        · (conv => whnf)
          refine ⟨⟨k + 1, Hq, es⟩, ⟨by show k + 1 ≤ l.length; omega, hsave⟩, ⟨rfl, rfl, rfl, ?_, trivial⟩, rfl, by show l.length - (k + 1) < l.length - k; omega⟩
          show PV.int _ (IntKind.i64.wrap ((k : Int) + 1)) = PV.int _ _
          rw [wrap64 (by omega) (by omega)]; simp
  · -- Last
    (conv => whnf)
    ((conv in (_[_]?) => tactic => exact w1 _); (conv => whnf))
    refine callK_of (lastGet (hB1 _).ring (by have := hB.len; omega) ar an) ?_
    rintro x H' ⟨hx, hH⟩
    rw [hx, hH]; clear hx hH
    obtain ⟨v2, q2⟩ := (hB1 _).x
    have hc37 := c37 q2 (by have := hB.len; omega) hB.ring.klen hB.inc ar an
    cases hL : lastE (isP ar an) es with
    | none =>
      rw [hL] at hc37
      (conv => whnf)
      ((conv in (_[_]?) => tactic => exact w1 _); (conv => whnf))
      refine callK_of hc37 ?_
      rintro x H' ⟨hx, hH⟩
      rw [hx, hH]; clear hx hH hc37
      (conv => whnf)
      ((conv in (_[_]?) => tactic => exact get_last _ _); (conv => whnf))
      refine ⟨fun _ => ?_, fun h => absurd rfl h⟩
      (conv => whnf)
      refine ⟨fun _ => ?_, fun h => absurd rfl h⟩
      (conv => whnf)
      refine ⟨fun h => absurd h (by decide), fun _ => ?_⟩
      (conv => whnf)
      have hsave := hB4 zA zK ⟨49, zero32, 1⟩
      have hB5 := hB4
      obtain ⟨v1, w1⟩ := (hB4 zA zK ⟨49, zero32, 1⟩).ring.ex
      obtain ⟨v2, w2⟩ := (hB4 zA zK ⟨49, zero32, 1⟩).x
      have hlen := (hB4 zA zK ⟨49, zero32, 1⟩).len
      have hkl := (hB4 zA zK ⟨49, zero32, 1⟩).ring.klen
      refine callK_of (c38v w1 (by omega) hkl) ?_
      rintro x Hq ⟨hx, hH⟩
      rw [hx]
      replace w1 := (congrArg (·[0]?) hH).trans w1
      replace w2 := (congrArg (·[1]?) hH).trans w2
      replace hsave : Both Hq es := by rw [hH]; exact hsave
      clear hx hH
      (conv => whnf)
      refine drawK_pure2 (by kernel_rfl) ?_
      (conv => whnf)
      (apply Exists.intro; apply And.intro; (focus ((conv => whnf); first | exact ⟨rfl, rfl, trivial⟩ | (refine ⟨by omega, ?_⟩; (conv => whnf); exact ⟨rfl, rfl, trivial⟩))); (conv => whnf))
      (apply Exists.intro; apply And.intro; (focus ((conv => whnf); first | exact ⟨rfl, rfl, trivial⟩ | (refine ⟨by omega, ?_⟩; (conv => whnf); exact ⟨rfl, rfl, trivial⟩))); (conv => whnf))
      (apply Exists.intro; apply And.intro; (focus ((conv => whnf); first | exact ⟨rfl, rfl, trivial⟩ | (refine ⟨by omega, ?_⟩; (conv => whnf); exact ⟨rfl, rfl, trivial⟩))); (conv => whnf))
      (apply Exists.intro; apply And.intro; (focus ((conv => whnf); first | exact ⟨rfl, rfl, trivial⟩ | (refine ⟨by omega, ?_⟩; (conv => whnf); exact ⟨rfl, rfl, trivial⟩))); (conv => whnf))
      (apply Exists.intro; apply And.intro; (focus ((conv => whnf); first | exact ⟨rfl, rfl, trivial⟩ | (refine ⟨by omega, ?_⟩; (conv => whnf); exact ⟨rfl, rfl, trivial⟩))); (conv => whnf))
      apply Exists.intro
      apply And.intro
      · (conv => whnf)
        ((conv in (_[_]?) => tactic => exact w2); (conv => whnf))
        exact ⟨rfl, rfl, trivial⟩
      (conv => whnf)
      (apply Exists.intro; apply And.intro; (focus ((conv => whnf); first | exact ⟨rfl, rfl, trivial⟩ | (refine ⟨by omega, ?_⟩; (conv => whnf); exact ⟨rfl, rfl, trivial⟩))); (conv => whnf))
      refine ⟨.bool false, ?_, ?_⟩
      · (conv => whnf)
        exact ⟨fun _ => ⟨rfl, rfl, trivial⟩, fun h => absurd rfl h⟩
      (conv => whnf)
      (apply Exists.intro; apply And.intro; (focus ((conv => whnf); first | exact ⟨rfl, rfl, trivial⟩ | (refine ⟨by omega, ?_⟩; (conv => whnf); exact ⟨rfl, rfl, trivial⟩))); (conv => whnf))
      (apply Exists.intro; apply And.intro; (focus ((conv => whnf); first | exact ⟨rfl, rfl, trivial⟩ | (refine ⟨by omega, ?_⟩; (conv => whnf); exact ⟨rfl, rfl, trivial⟩))); (conv => whnf))
      refine ⟨_, callK_of (c39 w1) (by rintro _ _ ⟨rfl, rfl⟩; exact ⟨rfl, rfl, trivial⟩), ?_⟩
      (conv => whnf)
      (apply Exists.intro; apply And.intro; (focus ((conv => whnf); first | exact ⟨rfl, rfl, trivial⟩ | (refine ⟨by omega, ?_⟩; (conv => whnf); exact ⟨rfl, rfl, trivial⟩))); (conv => whnf))
      (apply Exists.intro; apply And.intro; (focus ((conv => whnf); first | exact ⟨rfl, rfl, trivial⟩ | (refine ⟨by omega, ?_⟩; (conv => whnf); exact ⟨rfl, rfl, trivial⟩))); (conv => whnf))
      (apply Exists.intro; apply And.intro; (focus ((conv => whnf); first | exact ⟨rfl, rfl, trivial⟩ | (refine ⟨by omega, ?_⟩; (conv => whnf); exact ⟨rfl, rfl, trivial⟩))); (conv => whnf))
      apply Exists.intro
      apply And.intro
      · (conv => whnf)
        ((conv in (_[_]?) => tactic => exact w2); (conv => whnf))
        exact ⟨rfl, rfl, trivial⟩
      (conv => whnf)
      (apply Exists.intro; apply And.intro; (focus ((conv => whnf); first | exact ⟨rfl, rfl, trivial⟩ | (refine ⟨by omega, ?_⟩; (conv => whnf); exact ⟨rfl, rfl, trivial⟩))); (conv => whnf))
      refine ⟨.bool false, ?_, ?_⟩
      · (conv => whnf)
        exact ⟨fun _ => ⟨rfl, rfl, trivial⟩, fun h => absurd rfl h⟩
      (conv => whnf)
      (apply Exists.intro; apply And.intro; (focus ((conv => whnf); first | exact ⟨rfl, rfl, trivial⟩ | (refine ⟨by omega, ?_⟩; (conv => whnf); exact ⟨rfl, rfl, trivial⟩))); (conv => whnf))
      refine loopK_of FiS (fun x => [(0, actsV l), (3, .ptr (some (0, 0))), (4, .ptr (some (1, 0))), (5, .int .i64 k), (29, .slice es.length (es.flatMap keyE) none), (30, .int .i64 x.k)]) (fun _ => Hq) (fun x => x.k ≤ es.length) (fun x => es.length - x.k) ⟨⟨0⟩, Nat.zero_le _, ⟨rfl, rfl, rfl, rfl, rfl, rfl, trivial⟩, rfl⟩ ?_
      rintro ⟨j⟩ hj
      replace hj : j ≤ es.length := hj
      (conv => whnf)
      refine ⟨fun hjl => ?_, fun hjl => ?_⟩
      · have hjl : (j : Int) < es.length := hjl
        have hi : j < es.length := by omega
        have hat1 := fun q c hq => keys_at hkl hi q c hq
        have hat2 := fun q c hq => xflat_at hkl hi q c hq
        have hkey := hkl _ (List.getElem_mem hi)
        generalize es[j] = e at hat1 hat2 hkey
        obtain ⟨er, en, ekv, ekey, ebox⟩ := e
        match ekey, hkey with
        | [a0, a1, a2, a3, a4, a5, a6, a7, a8, a9, a10, a11, a12, a13, a14, a15, b0, b1, b2, b3, b4, b5, b6, b7, b8, b9, b10, b11, b12, b13, b14, b15], _ =>
          (conv => whnf)
          refine drawK_pure2 (by kernel_rfl) ?_
          (conv => whnf)
          (apply Exists.intro; apply And.intro; (focus ((conv => whnf); first | exact ⟨rfl, rfl, trivial⟩ | (refine ⟨by omega, ?_⟩; (conv => whnf); exact ⟨rfl, rfl, trivial⟩))); (conv => whnf))
          (apply Exists.intro; apply And.intro; (focus ((conv => whnf); first | exact ⟨rfl, rfl, trivial⟩ | (refine ⟨by omega, ?_⟩; (conv => whnf); exact ⟨rfl, rfl, trivial⟩))); (conv => whnf))
          refine ⟨.elem ([a0, a1, a2, a3, a4, a5, a6, a7, a8, a9, a10, a11, a12, a13, a14, a15, b0, b1, b2, b3, b4, b5, b6, b7, b8, b9, b10, b11, b12, b13, b14, b15].map byteC), ⟨⟨by omega, hjl⟩, [a0, a1, a2, a3, a4, a5, a6, a7, a8, a9, a10, a11, a12, a13, a14, a15, b0, b1, b2, b3, b4, b5, b6, b7, b8, b9, b10, b11, b12, b13, b14, b15].map byteC, hat1, rfl, rfl, trivial⟩, ?_⟩
          (conv => whnf)
          (apply Exists.intro; apply And.intro; (focus ((conv => whnf); first | exact ⟨rfl, rfl, trivial⟩ | (refine ⟨by omega, ?_⟩; (conv => whnf); exact ⟨rfl, rfl, trivial⟩))); (conv => whnf))
          (apply Exists.intro; apply And.intro; (focus ((conv => whnf); first | exact ⟨rfl, rfl, trivial⟩ | (refine ⟨by omega, ?_⟩; (conv => whnf); exact ⟨rfl, rfl, trivial⟩))); (conv => whnf))
          (apply Exists.intro; apply And.intro; (focus ((conv => whnf); first | exact ⟨rfl, rfl, trivial⟩ | (refine ⟨by omega, ?_⟩; (conv => whnf); exact ⟨rfl, rfl, trivial⟩))); (conv => whnf))
          (apply Exists.intro; apply And.intro; (focus ((conv => whnf); first | exact ⟨rfl, rfl, trivial⟩ | (refine ⟨by omega, ?_⟩; (conv => whnf); exact ⟨rfl, rfl, trivial⟩))); (conv => whnf))
          apply Exists.intro
          apply And.intro
          · (conv => whnf)
            ((conv in (_[_]?) => tactic => exact w2); (conv => whnf))
            exact ⟨rfl, rfl, trivial⟩
          (conv => whnf)
          (apply Exists.intro; apply And.intro; (focus ((conv => whnf); first | exact ⟨rfl, rfl, trivial⟩ | (refine ⟨by omega, ?_⟩; (conv => whnf); exact ⟨rfl, rfl, trivial⟩))); (conv => whnf))
          refine ⟨.elem (Ent.mk er en ekv [a0, a1, a2, a3, a4, a5, a6, a7, a8, a9, a10, a11, a12, a13, a14, a15, b0, b1, b2, b3, b4, b5, b6, b7, b8, b9, b10, b11, b12, b13, b14, b15] ebox).xcells, ⟨⟨by omega, hjl⟩, (Ent.mk er en ekv [a0, a1, a2, a3, a4, a5, a6, a7, a8, a9, a10, a11, a12, a13, a14, a15, b0, b1, b2, b3, b4, b5, b6, b7, b8, b9, b10, b11, b12, b13, b14, b15] ebox).xcells, hat2, rfl, rfl, trivial⟩, ?_⟩
          (conv => whnf)
          (apply Exists.intro; apply And.intro; (focus ((conv => whnf); first | exact ⟨rfl, rfl, trivial⟩ | (refine ⟨by omega, ?_⟩; (conv => whnf); exact ⟨rfl, rfl, trivial⟩))); (conv => whnf))
          (apply Exists.intro; apply And.intro; (focus ((conv => whnf); first | exact ⟨rfl, rfl, trivial⟩ | (refine ⟨by omega, ?_⟩; (conv => whnf); exact ⟨rfl, rfl, trivial⟩))); (conv => whnf))
          refine ⟨.bool false, ?_, ?_⟩
          · (conv => whnf)
            refine ⟨⟨fitKeyP [a0, a1, a2, a3, a4, a5, a6, a7, a8, a9, a10, a11, a12, a13, a14, a15, b0, b1, b2, b3, b4, b5, b6, b7, b8, b9, b10, b11, b12, b13, b14, b15], fitKeyP [a0, a1, a2, a3, a4, a5, a6, a7, a8, a9, a10, a11, a12, a13, a14, a15, b0, b1, b2, b3, b4, b5, b6, b7, b8, b9, b10, b11, b12, b13, b14, b15]⟩, ?_⟩
            (conv => whnf)
            exact ⟨fun _ => ⟨rfl, rfl, trivial⟩, fun h => absurd rfl h⟩
          (conv => whnf)
          refine ⟨⟨j + 1⟩, by show j + 1 ≤ es.length; omega, ⟨rfl, rfl, rfl, rfl, rfl, ?_, trivial⟩, rfl, by show es.length - (j + 1) < es.length - j; omega⟩
          show PV.int _ (IntKind.i64.wrap ((j : Int) + 1)) = PV.int _ _
          rw [wrap64 (by omega) (by omega)]; simp
      · (conv => whnf)
        refine ⟨⟨k + 1, Hq, es⟩, ⟨by show k + 1 ≤ l.length; omega, hsave⟩, ⟨rfl, rfl, rfl, ?_, trivial⟩, rfl, by show l.length - (k + 1) < l.length - k; omega⟩
        show PV.int _ (IntKind.i64.wrap ((k : Int) + 1)) = PV.int _ _
        rw [wrap64 (by omega) (by omega)]; simp
    | some e =>
      rw [hL] at hc37
      have hmem := lastE_mem hL
      have hkey := hB.ring.klen e hmem
      obtain ⟨er, en, ekv, ekey, ebox⟩ := e
      match ekey, hkey with
      | [a0, a1, a2, a3, a4, a5, a6, a7, a8, a9, a10, a11, a12, a13, a14, a15, b0, b1, b2, b3, b4, b5, b6, b7, b8, b9, b10, b11, b12, b13, b14, b15], _ =>
        (conv => whnf)
        ((conv in (_[_]?) => tactic => exact w1 _); (conv => whnf))
        refine callK_of hc37 ?_
        rintro x H' ⟨hx, hH⟩
        rw [hx, hH]; clear hx hH hc37
        (conv => whnf)
        ((conv in (_[_]?) => tactic => exact get_last _ _); (conv => whnf))
        refine ⟨fun _ => ?_, fun h => absurd rfl h⟩
        (conv => whnf)
        refine ⟨fun _ => ?_, fun h => absurd rfl h⟩
        (conv => whnf)
        refine ⟨fun _ => ?_, fun h => absurd rfl h⟩
        (conv => whnf)
        have hbx : ∀ o z c, BoxAt ((((H ++ [o]).set H.length (actO ⟨kind, ar, an, ak, akv⟩)) ++ [z]).set ((H ++ [o]).set H.length (actO ⟨kind, ar, an, ak, akv⟩)).length c) ebox [a0, a1, a2, a3, a4, a5, a6, a7, a8, a9, a10, a11, a12, a13, a14, a15, b0, b1, b2, b3, b4, b5, b6, b7, b8, b9, b10, b11, b12, b13, b14, b15] := fun o z c => (hB4 o z c).ring.box _ hmem
        refine callK_of (sealAt (key := [a0, a1, a2, a3, a4, a5, a6, a7, a8, a9, a10, a11, a12, a13, a14, a15, b0, b1, b2, b3, b4, b5, b6, b7, b8, b9, b10, b11, b12, b13, b14, b15]) (hbx zA zK (kO [a0, a1, a2, a3, a4, a5, a6, a7, a8, a9, a10, a11, a12, a13, a14, a15, b0, b1, b2, b3, b4, b5, b6, b7, b8, b9, b10, b11, b12, b13, b14, b15])) 1 2 rfl (by decide) (by decide) [121] (by decide)) ?_
        rintro x H5 ⟨rfl, hev2, hlen2⟩
        have hB5 := (hB4 zA zK (kO [a0, a1, a2, a3, a4, a5, a6, a7, a8, a9, a10, a11, a12, a13, a14, a15, b0, b1, b2, b3, b4, b5, b6, b7, b8, b9, b10, b11, b12, b13, b14, b15])).evo hev2 id id
        have w5 := hev2.same _ _ (w4 zA zK (kO [a0, a1, a2, a3, a4, a5, a6, a7, a8, a9, a10, a11, a12, a13, a14, a15, b0, b1, b2, b3, b4, b5, b6, b7, b8, b9, b10, b11, b12, b13, b14, b15])) id (aT _).1 (aT _).2
        have hc := c35 [a0, a1, a2, a3, a4, a5, a6, a7, a8, a9, a10, a11, a12, a13, a14, a15, b0, b1, b2, b3, b4, b5, b6, b7, b8, b9, b10, b11, b12, b13, b14, b15] rfl 1 2 rfl (by decide) (by decide) [121] (by decide)
        have hc : Pure prog 35 [.agg ([a0, a1, a2, a3, a4, a5, a6, a7, a8, a9, a10, a11, a12, a13, a14, a15, b0, b1, b2, b3, b4, b5, b6, b7, b8, b9, b10, b11, b12, b13, b14, b15].map byteC), .int .i64 1, .int .i64 2, sl [121]] (.tup [ow (sealK [a0, a1, a2, a3, a4, a5, a6, a7, a8, a9, a10, a11, a12, a13, a14, a15, b0, b1, b2, b3, b4, b5, b6, b7, b8, b9, b10, b11, b12, b13, b14, b15] 1 2 [121]), .int .i64 0]) := hc
        generalize sealK [a0, a1, a2, a3, a4, a5, a6, a7, a8, a9, a10, a11, a12, a13, a14, a15, b0, b1, b2, b3, b4, b5, b6, b7, b8, b9, b10, b11, b12, b13, b14, b15] 1 2 [121] = s at hc
        (conv => whnf)
        ((conv in (_[_]?) => tactic => exact w5); (conv => whnf))
        refine callK_pure hc ?_
        (conv => whnf)
        refine ⟨fun _ => ?_, fun h => absurd rfl h⟩
        (conv => whnf)
        refine ⟨s, ⟨rfl, rfl⟩, ?_⟩
        (conv => whnf)
        refine ⟨s, ⟨rfl, rfl⟩, ?_⟩
        (conv => whnf)
        refine ⟨fun _ => ?_, fun h => absurd rfl h⟩
        (conv => whnf)
        have hsave := hB5
        clear hc
        obtain ⟨v1, w1⟩ := hB5.ring.ex
        obtain ⟨v2, w2⟩ := hB5.x
        have hlen := hB5.len
        have hkl := hB5.ring.klen
        refine callK_of (c38v w1 (by omega) hkl) ?_
        rintro x Hq ⟨hx, hH⟩
        rw [hx]
        replace w1 := (congrArg (·[0]?) hH).trans w1
        replace w2 := (congrArg (·[1]?) hH).trans w2
        replace hsave : Both Hq es := by rw [hH]; exact hsave
        clear hx hH
        (conv => whnf)
        refine drawK_pure2 (by kernel_rfl) ?_
        (conv => whnf)
        (apply Exists.intro; apply And.intro; (focus ((conv => whnf); first | exact ⟨rfl, rfl, trivial⟩ | (refine ⟨by omega, ?_⟩; (conv => whnf); exact ⟨rfl, rfl, trivial⟩))); (conv => whnf))
        (apply Exists.intro; apply And.intro; (focus ((conv => whnf); first | exact ⟨rfl, rfl, trivial⟩ | (refine ⟨by omega, ?_⟩; (conv => whnf); exact ⟨rfl, rfl, trivial⟩))); (conv => whnf))
        (apply Exists.intro; apply And.intro; (focus ((conv => whnf); first | exact ⟨rfl, rfl, trivial⟩ | (refine ⟨by omega, ?_⟩; (conv => whnf); exact ⟨rfl, rfl, trivial⟩))); (conv => whnf))
        (apply Exists.intro; apply And.intro; (focus ((conv => whnf); first | exact ⟨rfl, rfl, trivial⟩ | (refine ⟨by omega, ?_⟩; (conv => whnf); exact ⟨rfl, rfl, trivial⟩))); (conv => whnf))
        (apply Exists.intro; apply And.intro; (focus ((conv => whnf); first | exact ⟨rfl, rfl, trivial⟩ | (refine ⟨by omega, ?_⟩; (conv => whnf); exact ⟨rfl, rfl, trivial⟩))); (conv => whnf))
        apply Exists.intro
        apply And.intro
        · (conv => whnf)
          ((conv in (_[_]?) => tactic => exact w2); (conv => whnf))
          exact ⟨rfl, rfl, trivial⟩
        (conv => whnf)
        (apply Exists.intro; apply And.intro; (focus ((conv => whnf); first | exact ⟨rfl, rfl, trivial⟩ | (refine ⟨by omega, ?_⟩; (conv => whnf); exact ⟨rfl, rfl, trivial⟩))); (conv => whnf))
        refine ⟨.bool false, ?_, ?_⟩
        · (conv => whnf)
          exact ⟨fun _ => ⟨rfl, rfl, trivial⟩, fun h => absurd rfl h⟩
        (conv => whnf)
        (apply Exists.intro; apply And.intro; (focus ((conv => whnf); first | exact ⟨rfl, rfl, trivial⟩ | (refine ⟨by omega, ?_⟩; (conv => whnf); exact ⟨rfl, rfl, trivial⟩))); (conv => whnf))
        (apply Exists.intro; apply And.intro; (focus ((conv => whnf); first | exact ⟨rfl, rfl, trivial⟩ | (refine ⟨by omega, ?_⟩; (conv => whnf); exact ⟨rfl, rfl, trivial⟩))); (conv => whnf))
        refine ⟨_, callK_of (c39 w1) (by rintro _ _ ⟨rfl, rfl⟩; exact ⟨rfl, rfl, trivial⟩), ?_⟩
        (conv => whnf)
        (apply Exists.intro; apply And.intro; (focus ((conv => whnf); first | exact ⟨rfl, rfl, trivial⟩ | (refine ⟨by omega, ?_⟩; (conv => whnf); exact ⟨rfl, rfl, trivial⟩))); (conv => whnf))
        (apply Exists.intro; apply And.intro; (focus ((conv => whnf); first | exact ⟨rfl, rfl, trivial⟩ | (refine ⟨by omega, ?_⟩; (conv => whnf); exact ⟨rfl, rfl, trivial⟩))); (conv => whnf))
        (apply Exists.intro; apply And.intro; (focus ((conv => whnf); first | exact ⟨rfl, rfl, trivial⟩ | (refine ⟨by omega, ?_⟩; (conv => whnf); exact ⟨rfl, rfl, trivial⟩))); (conv => whnf))
        apply Exists.intro
        apply And.intro
        · (conv => whnf)
          ((conv in (_[_]?) => tactic => exact w2); (conv => whnf))
          exact ⟨rfl, rfl, trivial⟩
        (conv => whnf)
        (apply Exists.intro; apply And.intro; (focus ((conv => whnf); first | exact ⟨rfl, rfl, trivial⟩ | (refine ⟨by omega, ?_⟩; (conv => whnf); exact ⟨rfl, rfl, trivial⟩))); (conv => whnf))
        refine ⟨.bool false, ?_, ?_⟩
        · (conv => whnf)
          exact ⟨fun _ => ⟨rfl, rfl, trivial⟩, fun h => absurd rfl h⟩
        (conv => whnf)
        (apply Exists.intro; apply And.intro; (focus ((conv => whnf); first | exact ⟨rfl, rfl, trivial⟩ | (refine ⟨by omega, ?_⟩; (conv => whnf); exact ⟨rfl, rfl, trivial⟩))); (conv => whnf))
        refine loopK_of FiS (fun x => [(0, actsV l), (3, .ptr (some (0, 0))), (4, .ptr (some (1, 0))), (5, .int .i64 k), (29, .slice es.length (es.flatMap keyE) none), (30, .int .i64 x.k)]) (fun _ => Hq) (fun x => x.k ≤ es.length) (fun x => es.length - x.k) ⟨⟨0⟩, Nat.zero_le _, ⟨rfl, rfl, rfl, rfl, rfl, rfl, trivial⟩, rfl⟩ ?_
        rintro ⟨j⟩ hj
        replace hj : j ≤ es.length := hj
        (conv => whnf)
        refine ⟨fun hjl => ?_, fun hjl => ?_⟩
        · have hjl : (j : Int) < es.length := hjl
          have hi : j < es.length := by omega
          have hat1 := fun q c hq => keys_at hkl hi q c hq
          have hat2 := fun q c hq => xflat_at hkl hi q c hq
          have hkey := hkl _ (List.getElem_mem hi)
          generalize es[j] = e at hat1 hat2 hkey
          obtain ⟨er, en, ekv, ekey, ebox⟩ := e
          match ekey, hkey with
          | [a0, a1, a2, a3, a4, a5, a6, a7, a8, a9, a10, a11, a12, a13, a14, a15, b0, b1, b2, b3, b4, b5, b6, b7, b8, b9, b10, b11, b12, b13, b14, b15], _ =>
            (conv => whnf)
            refine drawK_pure2 (by kernel_rfl) ?_
            (conv => whnf)
            (apply Exists.intro; apply And.intro; (focus ((conv => whnf); first | exact ⟨rfl, rfl, trivial⟩ | (refine ⟨by omega, ?_⟩; (conv => whnf); exact ⟨rfl, rfl, trivial⟩))); (conv => whnf))
            (apply Exists.intro; apply And.intro; (focus ((conv => whnf); first | exact ⟨rfl, rfl, trivial⟩ | (refine ⟨by omega, ?_⟩; (conv => whnf); exact ⟨rfl, rfl, trivial⟩))); (conv => whnf))
            refine ⟨.elem ([a0, a1, a2, a3, a4, a5, a6, a7, a8, a9, a10, a11, a12, a13, a14, a15, b0, b1, b2, b3, b4, b5, b6, b7, b8, b9, b10, b11, b12, b13, b14, b15].map byteC), ⟨⟨by omega, hjl⟩, [a0, a1, a2, a3, a4, a5, a6, a7, a8, a9, a10, a11, a12, a13, a14, a15, b0, b1, b2, b3, b4, b5, b6, b7, b8, b9, b10, b11, b12, b13, b14, b15].map byteC, hat1, rfl, rfl, trivial⟩, ?_⟩
            (conv => whnf)
            (apply Exists.intro; apply And.intro; (focus ((conv => whnf); first | exact ⟨rfl, rfl, trivial⟩ | (refine ⟨by omega, ?_⟩; (conv => whnf); exact ⟨rfl, rfl, trivial⟩))); (conv => whnf))
            (apply Exists.intro; apply And.intro; (focus ((conv => whnf); first | exact ⟨rfl, rfl, trivial⟩ | (refine ⟨by omega, ?_⟩; (conv => whnf); exact ⟨rfl, rfl, trivial⟩))); (conv => whnf))
            (apply Exists.intro; apply And.intro; (focus ((conv => whnf); first | exact ⟨rfl, rfl, trivial⟩ | (refine ⟨by omega, ?_⟩; (conv => whnf); exact ⟨rfl, rfl, trivial⟩))); (conv => whnf))
            (apply Exists.intro; apply And.intro; (focus ((conv => whnf); first | exact ⟨rfl, rfl, trivial⟩ | (refine ⟨by omega, ?_⟩; (conv => whnf); exact ⟨rfl, rfl, trivial⟩))); (conv => whnf))
            apply Exists.intro
            apply And.intro
            · (conv => whnf)
              ((conv in (_[_]?) => tactic => exact w2); (conv => whnf))
              exact ⟨rfl, rfl, trivial⟩
            (conv => whnf)
            (apply Exists.intro; apply And.intro; (focus ((conv => whnf); first | exact ⟨rfl, rfl, trivial⟩ | (refine ⟨by omega, ?_⟩; (conv => whnf); exact ⟨rfl, rfl, trivial⟩))); (conv => whnf))
            refine ⟨.elem (Ent.mk er en ekv [a0, a1, a2, a3, a4, a5, a6, a7, a8, a9, a10, a11, a12, a13, a14, a15, b0, b1, b2, b3, b4, b5, b6, b7, b8, b9, b10, b11, b12, b13, b14, b15] ebox).xcells, ⟨⟨by omega, hjl⟩, (Ent.mk er en ekv [a0, a1, a2, a3, a4, a5, a6, a7, a8, a9, a10, a11, a12, a13, a14, a15, b0, b1, b2, b3, b4, b5, b6, b7, b8, b9, b10, b11, b12, b13, b14, b15] ebox).xcells, hat2, rfl, rfl, trivial⟩, ?_⟩
            (conv => whnf)
            (apply Exists.intro; apply And.intro; (focus ((conv => whnf); first | exact ⟨rfl, rfl, trivial⟩ | (refine ⟨by omega, ?_⟩; (conv => whnf); exact ⟨rfl, rfl, trivial⟩))); (conv => whnf))
            (apply Exists.intro; apply And.intro; (focus ((conv => whnf); first | exact ⟨rfl, rfl, trivial⟩ | (refine ⟨by omega, ?_⟩; (conv => whnf); exact ⟨rfl, rfl, trivial⟩))); (conv => whnf))
            refine ⟨.bool false, ?_, ?_⟩
            · (conv => whnf)
              refine ⟨⟨fitKeyP [a0, a1, a2, a3, a4, a5, a6, a7, a8, a9, a10, a11, a12, a13, a14, a15, b0, b1, b2, b3, b4, b5, b6, b7, b8, b9, b10, b11, b12, b13, b14, b15], fitKeyP [a0, a1, a2, a3, a4, a5, a6, a7, a8, a9, a10, a11, a12, a13, a14, a15, b0, b1, b2, b3, b4, b5, b6, b7, b8, b9, b10, b11, b12, b13, b14, b15]⟩, ?_⟩
              (conv => whnf)
              exact ⟨fun _ => ⟨rfl, rfl, trivial⟩, fun h => absurd rfl h⟩
            (conv => whnf)
            refine ⟨⟨j + 1⟩, by show j + 1 ≤ es.length; omega, ⟨rfl, rfl, rfl, rfl, rfl, ?_, trivial⟩, rfl, by show es.length - (j + 1) < es.length - j; omega⟩
            show PV.int _ (IntKind.i64.wrap ((j : Int) + 1)) = PV.int _ _
            rw [wrap64 (by omega) (by omega)]; simp
        · (conv => whnf)
          refine ⟨⟨k + 1, Hq, es⟩, ⟨by show k + 1 ≤ l.length; omega, hsave⟩, ⟨rfl, rfl, rfl, ?_, trivial⟩, rfl, by show l.length - (k + 1) < l.length - k; omega⟩
          show PV.int _ (IntKind.i64.wrap ((k : Int) + 1)) = PV.int _ _
          rw [wrap64 (by omega) (by omega)]; simp
end Go.Proofs.Tryz