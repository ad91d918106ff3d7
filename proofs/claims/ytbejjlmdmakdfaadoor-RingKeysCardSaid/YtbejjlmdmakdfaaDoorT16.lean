import Derived.Test.YtbejjlmdmakdfaaDoorT15
set_option linter.all false
set_option linter.unusedVariables false
set_option linter.unusedSimpArgs false
set_option linter.unnecessarySimpa false
set_option maxRecDepth 100000
set_option linter.unusedVariables false
namespace Go.Proofs.Tryd
open Go Ps
def D11 (rid : Nat) : Draw := { cons := [(15, [49])], imp := [9, 12, 15], win := [(0, 0, 2), (1, 0, 1), (2, 0, 1), (3, 0, 1), (4, 0, 1), (5, 0, 1), (6, 0, 1), (7, 0, 1), (10, 1, 1), (11, 1, 1), (12, 1, 1), (13, 2, 2), (14, 2, 2), (15, 2, 2)], fs := [(4, 12, .cell rid 0)] }
theorem c11n (H : PH) (r n key : List UInt8) (hk : key.length = 32) : CallOk prog 11 [.ptr none, .agg [.str r, .str n], .agg (key.map byteC)] H fun x H' => x = .tup [.int .i64 0, .int .i64 1] ∧ H' = H := by
  match key, hk with
  | [a0, a1, a2, a3, a4, a5, a6, a7, a8, a9, a10, a11, a12, a13, a14, a15, b0, b1, b2, b3, b4, b5, b6, b7, b8, b9, b10, b11, b12, b13, b14, b15], _ =>
    (refine callOk_of_pFun2 (tt := ttR) (imm := imm11) follows ttR_ok depth6 func11 (by kernel_rfl) ?_; (conv => whnf))
    exact ⟨rfl, rfl⟩
/-- The number that a principal's next key has. -/
def nextKv : Option Ent → Nat
  | none => 1
  | some e => e.kv + 1
def addR (l : List Ent) (r n : List UInt8) : PV := match isPrincB r n with
  | true => if 40 ≤ l.length ∨ 255 < nextKv (lastE (isP r n) l) then .tup [.int .i64 0, .int .i64 13] else .tup [.int .i64 (nextKv (lastE (isP r n) l)), .int .i64 0]
  | false => .tup [.int .i64 0, .int .i64 1]
def addE (H : PH) (l : List Ent) (r n key : List UInt8) : Ent := ⟨r, n, nextKv (lastE (isP r n) l), key, H.length + 1⟩
def addH (H : PH) (rid v : Nat) (l : List Ent) (r n key : List UInt8) : PH := match isPrincB r n with
  | true => if 40 ≤ l.length ∨ 255 < nextKv (lastE (isP r n) l) then H else (H ++ [speckO (key.take 16), boxO key H.length]).set rid (ringO (l ++ [addE H l r n key]) (v + 2))
  | false => H
theorem c11 {H : PH} {rid v : Nat} {l : List Ent} (hid : H[rid]? = some (ringO l v)) (hl : l.length ≤ 1000) (hk : ∀ e ∈ l, e.key.length = 32 ∧ e.kv ≤ 1000) (r n key : List UInt8) (hkey : key.length = 32)
    (hr : r.length ≤ 1099511627775) (hn : n.length ≤ 1099511627775) :
    CallOk prog 11 [.ptr (some (rid, 0)), .agg [.str r, .str n], .agg (key.map byteC)] H fun x H' => x = addR l r n ∧ H' = addH H rid v l r n key := by
  match key, hkey with
  | [a0, a1, a2, a3, a4, a5, a6, a7, a8, a9, a10, a11, a12, a13, a14, a15, b0, b1, b2, b3, b4, b5, b6, b7, b8, b9, b10, b11, b12, b13, b14, b15], hkey =>
    (refine callOk_of_pFun2 (tt := ttR) (imm := imm11) follows ttR_ok depth6 func11 (by kernel_rfl) ?_; (conv => whnf))
    refine callK_pure (c24 r n hr hn) ?_
    unfold addR addH
    obtain ⟨N, hN⟩ : ∃ N, N = nextKv (lastE (isP r n) l) := ⟨_, rfl⟩
    rw [← hN]
    have hN0 := hN
    cases hp : isPrincB r n
    · (conv => whnf)
      exact ⟨rfl, rfl⟩
    · (conv => whnf)
      refine callK_of (c25 hid hl (fun e he => (hk e he).1) r n) ?_
      rintro x H' ⟨hx, hH⟩
      rw [hx, hH]
      clear hx hH x H'
      have hkv : ∀ e, lastE (isP r n) l = some e → e.key.length = 32 ∧ e.kv ≤ 1000 := fun e he => hk e (List.mem_reverse.1 (List.mem_of_find?_eq_some he))
      cases he : lastE (isP r n) l with
      | none =>
        rw [he] at hN
        have hN : N = 1 := hN
        (conv => whnf)
        rw [hid]
        (conv => whnf)
        refine ⟨fun h40 => ?_, fun h40 => ?_⟩
        · (conv => whnf)
          have h40 : (l.length : Int) ≥ 40 := h40
          have hc : 40 ≤ l.length ∨ 255 < N := by omega
          rw [if_pos hc, if_pos hc]
          exact ⟨rfl, rfl⟩
        · (conv => whnf)
          have h40 : ¬ (l.length : Int) ≥ 40 := h40
          refine ⟨fun h255 => ?_, fun h255 => ?_⟩
          · (conv => whnf)
            have h255 : (1 : Int) > 255 := h255
            have hc : 40 ≤ l.length ∨ 255 < N := by omega
            rw [if_pos hc, if_pos hc]
            exact ⟨rfl, rfl⟩
          · (conv => whnf)
            have h255 : ¬ (1 : Int) > 255 := h255
            have hc : ¬ (40 ≤ l.length ∨ 255 < N) := by omega
            rw [if_neg hc, if_neg hc]
            obtain ⟨H1, hH1⟩ : ∃ H1, H1 = H ++ [speckO [a0, a1, a2, a3, a4, a5, a6, a7, a8, a9, a10, a11, a12, a13, a14, a15], boxO [a0, a1, a2, a3, a4, a5, a6, a7, a8, a9, a10, a11, a12, a13, a14, a15, b0, b1, b2, b3, b4, b5, b6, b7, b8, b9, b10, b11, b12, b13, b14, b15] H.length] := ⟨_, rfl⟩
            have h1 : H1[rid]? = some (ringO l v) := by rw [hH1, List.getElem?_append_left (List.getElem?_eq_some_iff.1 hid).1]; exact hid
            have h2 : (H1.set rid ⟨77, [.slice l.length (l.flatMap Ent.cells) none], v + 1⟩)[rid]? = some ⟨77, [.slice l.length (l.flatMap Ent.cells) none], v + 1⟩ := get_set h1
            refine drawK_of2 (D11 rid) [H, H1, H1.set rid ⟨77, [.slice l.length (l.flatMap Ent.cells) none], v + 1⟩, H1.set rid (ringO (l ++ [addE H l r n [a0, a1, a2, a3, a4, a5, a6, a7, a8, a9, a10, a11, a12, a13, a14, a15, b0, b1, b2, b3, b4, b5, b6, b7, b8, b9, b10, b11, b12, b13, b14, b15]]) (v + 2))] (by kernel_rfl) rfl ?_ ?_
            · refine ⟨fun k h3 h4 => ?_, trivial⟩
              have h4 : k < 1 := h4
              have : k = 0 := by omega
              subst this
              exact ⟨_, _, hid, h1, rfl⟩
            (conv => whnf)
            (apply Exists.intro; apply And.intro; (focus ((conv => whnf); apply And.intro; (focus ((conv => whnf); first | exact ⟨rfl, rfl, trivial⟩ | (refine ⟨by omega, ?_⟩; (conv => whnf); exact ⟨rfl, rfl, trivial⟩))); (conv => whnf); apply And.intro; (focus ((conv => whnf); first | exact ⟨rfl, rfl, trivial⟩ | (refine ⟨by omega, ?_⟩; (conv => whnf); exact ⟨rfl, rfl, trivial⟩))); ((conv => whnf); first | exact ⟨rfl, rfl, trivial⟩ | (refine ⟨by omega, ?_⟩; (conv => whnf); exact ⟨rfl, rfl, trivial⟩)))); (conv => whnf))
            (apply Exists.intro; apply And.intro; (focus ((conv => whnf); apply And.intro; (focus ((conv => whnf); first | exact ⟨rfl, rfl, trivial⟩ | (refine ⟨by omega, ?_⟩; (conv => whnf); exact ⟨rfl, rfl, trivial⟩))); ((conv => whnf); first | exact ⟨rfl, rfl, trivial⟩ | (refine ⟨by omega, ?_⟩; (conv => whnf); exact ⟨rfl, rfl, trivial⟩)))); (conv => whnf))
            (apply Exists.intro; apply And.intro; (focus ((conv => whnf); apply And.intro; (focus ((conv => whnf); first | exact ⟨rfl, rfl, trivial⟩ | (refine ⟨by omega, ?_⟩; (conv => whnf); exact ⟨rfl, rfl, trivial⟩))); ((conv => whnf); first | exact ⟨rfl, rfl, trivial⟩ | (refine ⟨by omega, ?_⟩; (conv => whnf); exact ⟨rfl, rfl, trivial⟩)))); (conv => whnf))
            (apply Exists.intro; apply And.intro; (focus ((conv => whnf); apply And.intro; (focus ((conv => whnf); first | exact ⟨rfl, rfl, trivial⟩ | (refine ⟨by omega, ?_⟩; (conv => whnf); exact ⟨rfl, rfl, trivial⟩))); ((conv => whnf); first | exact ⟨rfl, rfl, trivial⟩ | (refine ⟨by omega, ?_⟩; (conv => whnf); exact ⟨rfl, rfl, trivial⟩)))); (conv => whnf))
            apply Exists.intro
            apply And.intro
            · (conv => whnf)
              apply And.intro
              · (conv => whnf)
                conv in (_[rid]?) => tactic => exact hid
                (conv => whnf)
                exact ⟨rfl, rfl, rfl, trivial⟩
              · (conv => whnf)
                conv in (_[rid]?) => tactic => exact h1
                (conv => whnf)
                exact ⟨rfl, rfl, rfl, trivial⟩
            (conv => whnf)
            (apply Exists.intro; apply And.intro; (focus ((conv => whnf); apply And.intro; (focus ((conv => whnf); first | exact ⟨rfl, rfl, trivial⟩ | (refine ⟨by omega, ?_⟩; (conv => whnf); exact ⟨rfl, rfl, trivial⟩))); ((conv => whnf); first | exact ⟨rfl, rfl, trivial⟩ | (refine ⟨by omega, ?_⟩; (conv => whnf); exact ⟨rfl, rfl, trivial⟩)))); (conv => whnf))
            (apply Exists.intro; apply And.intro; (focus ((conv => whnf); apply And.intro; (focus ((conv => whnf); first | exact ⟨rfl, rfl, trivial⟩ | (refine ⟨by omega, ?_⟩; (conv => whnf); exact ⟨rfl, rfl, trivial⟩))); ((conv => whnf); first | exact ⟨rfl, rfl, trivial⟩ | (refine ⟨by omega, ?_⟩; (conv => whnf); exact ⟨rfl, rfl, trivial⟩)))); (conv => whnf))
            (apply Exists.intro; apply And.intro; (focus ((conv => whnf); apply And.intro; (focus ((conv => whnf); first | exact ⟨rfl, rfl, trivial⟩ | (refine ⟨by omega, ?_⟩; (conv => whnf); exact ⟨rfl, rfl, trivial⟩))); ((conv => whnf); first | exact ⟨rfl, rfl, trivial⟩ | (refine ⟨by omega, ?_⟩; (conv => whnf); exact ⟨rfl, rfl, trivial⟩)))); (conv => whnf))
            (apply Exists.intro; apply And.intro; (focus ((conv => whnf); first | exact ⟨rfl, rfl, trivial⟩ | (refine ⟨by omega, ?_⟩; (conv => whnf); exact ⟨rfl, rfl, trivial⟩))); (conv => whnf))
            apply Exists.intro
            apply And.intro
            · (conv => whnf)
              refine callK_of (c26 [a0, a1, a2, a3, a4, a5, a6, a7, a8, a9, a10, a11, a12, a13, a14, a15, b0, b1, b2, b3, b4, b5, b6, b7, b8, b9, b10, b11, b12, b13, b14, b15] rfl H) ?_
              rintro x H' ⟨rfl, hH'⟩
              (conv => whnf)
              exact ⟨rfl, hH'.trans hH1.symm, trivial⟩
            (conv => whnf)
            (apply Exists.intro; apply And.intro; (focus ((conv => whnf); first | exact ⟨rfl, rfl, trivial⟩ | (refine ⟨by omega, ?_⟩; (conv => whnf); exact ⟨rfl, rfl, trivial⟩))); (conv => whnf))
            (apply Exists.intro; apply And.intro; (focus ((conv => whnf); first | exact ⟨rfl, rfl, trivial⟩ | (refine ⟨by omega, ?_⟩; (conv => whnf); exact ⟨rfl, rfl, trivial⟩))); (conv => whnf))
            apply Exists.intro
            apply And.intro
            · (conv => whnf)
              conv in (_[rid]?) => tactic => exact h1
              (conv => whnf)
              refine ⟨⟨by show (l.length + 1) * 80 ≤ _; omega, rfl, rfl⟩, ?_⟩
              (conv => whnf)
              exact ⟨rfl, rfl, trivial⟩
            (conv => whnf)
            (apply Exists.intro; apply And.intro; (focus ((conv => whnf); first | exact ⟨rfl, rfl, trivial⟩ | (refine ⟨by omega, ?_⟩; (conv => whnf); exact ⟨rfl, rfl, trivial⟩))); (conv => whnf))
            (apply Exists.intro; apply And.intro; (focus ((conv => whnf); first | exact ⟨rfl, rfl, trivial⟩ | (refine ⟨by omega, ?_⟩; (conv => whnf); exact ⟨rfl, rfl, trivial⟩))); (conv => whnf))
            apply Exists.intro
            apply And.intro
            · (conv => whnf)
              conv in (_[rid]?) => tactic => exact h2
              (conv => whnf)
              refine ⟨rfl, ?_, trivial⟩
              show (List.set H1 rid ⟨77, [.slice l.length (l.flatMap Ent.cells) none], v + 1⟩).set rid ⟨77, [PV.slice (l.length + 1) (l.flatMap Ent.cells ++ ([.str r, .str n, .int .i64 ((1 : Int))] ++ [a0, a1, a2, a3, a4, a5, a6, a7, a8, a9, a10, a11, a12, a13, a14, a15, b0, b1, b2, b3, b4, b5, b6, b7, b8, b9, b10, b11, b12, b13, b14, b15].map byteC ++ [.ptr (some (H.length + 1, 0))])) (some 81)], v + 1 + 1⟩ = List.set H1 rid (ringO (l ++ [addE H l r n [a0, a1, a2, a3, a4, a5, a6, a7, a8, a9, a10, a11, a12, a13, a14, a15, b0, b1, b2, b3, b4, b5, b6, b7, b8, b9, b10, b11, b12, b13, b14, b15]]) (v + 2))
              have hE : addE H l r n [a0, a1, a2, a3, a4, a5, a6, a7, a8, a9, a10, a11, a12, a13, a14, a15, b0, b1, b2, b3, b4, b5, b6, b7, b8, b9, b10, b11, b12, b13, b14, b15] = ⟨r, n, N, [a0, a1, a2, a3, a4, a5, a6, a7, a8, a9, a10, a11, a12, a13, a14, a15, b0, b1, b2, b3, b4, b5, b6, b7, b8, b9, b10, b11, b12, b13, b14, b15], H.length + 1⟩ := by unfold addE; rw [← hN0]
              have hKV : (1 : Int) = (N : Int) := by rw [hN]; rfl
              rw [List.set_set, hE, hKV]
              unfold ringO
              rw [List.flatMap_append, List.length_append]
              rfl
            (conv => whnf)
            refine ⟨?_, by subst hH1; exact rfl⟩
            have hKV : (1 : Int) = (N : Int) := by rw [hN]; rfl
            show PV.tup [.int .i64 ((1 : Int)), .int .i64 0] = PV.tup [.int .i64 N, .int .i64 0]
            rw [hKV]
      | some e =>
        obtain ⟨hek, hev⟩ := hkv e he
        rw [he] at hN
        obtain ⟨er, en, kv, ekey, box⟩ := e
        have hN : N = kv + 1 := hN
        have hev : kv ≤ 1000 := hev
        match ekey, hek with
        | [c0, c1, c2, c3, c4, c5, c6, c7, c8, c9, c10, c11, c12, c13, c14, c15, d0, d1, d2, d3, d4, d5, d6, d7, d8, d9, d10, d11, d12, d13, d14, d15], _ =>
          (conv => whnf)
          rw [hid]
          (conv => whnf)
          refine ⟨fun h40 => ?_, fun h40 => ?_⟩
          · (conv => whnf)
            have h40 : (l.length : Int) ≥ 40 := h40
            have hc : 40 ≤ l.length ∨ 255 < N := by omega
            rw [if_pos hc, if_pos hc]
            exact ⟨rfl, rfl⟩
          · (conv => whnf)
            have h40 : ¬ (l.length : Int) ≥ 40 := h40
            refine ⟨fun h255 => ?_, fun h255 => ?_⟩
            · (conv => whnf)
              have h255 : IntKind.i64.wrap ((kv : Int) + 1) > 255 := h255
              have hc : 40 ≤ l.length ∨ 255 < N := by rw [wrap64 (by omega) (by omega)] at h255; omega
              rw [if_pos hc, if_pos hc]
              exact ⟨rfl, rfl⟩
            · (conv => whnf)
              have h255 : ¬ IntKind.i64.wrap ((kv : Int) + 1) > 255 := h255
              have hc : ¬ (40 ≤ l.length ∨ 255 < N) := by rw [wrap64 (by omega) (by omega)] at h255; omega
              rw [if_neg hc, if_neg hc]
              obtain ⟨H1, hH1⟩ : ∃ H1, H1 = H ++ [speckO [a0, a1, a2, a3, a4, a5, a6, a7, a8, a9, a10, a11, a12, a13, a14, a15], boxO [a0, a1, a2, a3, a4, a5, a6, a7, a8, a9, a10, a11, a12, a13, a14, a15, b0, b1, b2, b3, b4, b5, b6, b7, b8, b9, b10, b11, b12, b13, b14, b15] H.length] := ⟨_, rfl⟩
              have h1 : H1[rid]? = some (ringO l v) := by rw [hH1, List.getElem?_append_left (List.getElem?_eq_some_iff.1 hid).1]; exact hid
              have h2 : (H1.set rid ⟨77, [.slice l.length (l.flatMap Ent.cells) none], v + 1⟩)[rid]? = some ⟨77, [.slice l.length (l.flatMap Ent.cells) none], v + 1⟩ := get_set h1
              refine drawK_of2 (D11 rid) [H, H1, H1.set rid ⟨77, [.slice l.length (l.flatMap Ent.cells) none], v + 1⟩, H1.set rid (ringO (l ++ [addE H l r n [a0, a1, a2, a3, a4, a5, a6, a7, a8, a9, a10, a11, a12, a13, a14, a15, b0, b1, b2, b3, b4, b5, b6, b7, b8, b9, b10, b11, b12, b13, b14, b15]]) (v + 2))] (by kernel_rfl) rfl ?_ ?_
              · refine ⟨fun k h3 h4 => ?_, trivial⟩
                have h4 : k < 1 := h4
                have : k = 0 := by omega
                subst this
                exact ⟨_, _, hid, h1, rfl⟩
              (conv => whnf)
              (apply Exists.intro; apply And.intro; (focus ((conv => whnf); apply And.intro; (focus ((conv => whnf); first | exact ⟨rfl, rfl, trivial⟩ | (refine ⟨by omega, ?_⟩; (conv => whnf); exact ⟨rfl, rfl, trivial⟩))); (conv => whnf); apply And.intro; (focus ((conv => whnf); first | exact ⟨rfl, rfl, trivial⟩ | (refine ⟨by omega, ?_⟩; (conv => whnf); exact ⟨rfl, rfl, trivial⟩))); ((conv => whnf); first | exact ⟨rfl, rfl, trivial⟩ | (refine ⟨by omega, ?_⟩; (conv => whnf); exact ⟨rfl, rfl, trivial⟩)))); (conv => whnf))
              (apply Exists.intro; apply And.intro; (focus ((conv => whnf); apply And.intro; (focus ((conv => whnf); first | exact ⟨rfl, rfl, trivial⟩ | (refine ⟨by omega, ?_⟩; (conv => whnf); exact ⟨rfl, rfl, trivial⟩))); ((conv => whnf); first | exact ⟨rfl, rfl, trivial⟩ | (refine ⟨by omega, ?_⟩; (conv => whnf); exact ⟨rfl, rfl, trivial⟩)))); (conv => whnf))
              (apply Exists.intro; apply And.intro; (focus ((conv => whnf); apply And.intro; (focus ((conv => whnf); first | exact ⟨rfl, rfl, trivial⟩ | (refine ⟨by omega, ?_⟩; (conv => whnf); exact ⟨rfl, rfl, trivial⟩))); ((conv => whnf); first | exact ⟨rfl, rfl, trivial⟩ | (refine ⟨by omega, ?_⟩; (conv => whnf); exact ⟨rfl, rfl, trivial⟩)))); (conv => whnf))
              (apply Exists.intro; apply And.intro; (focus ((conv => whnf); apply And.intro; (focus ((conv => whnf); first | exact ⟨rfl, rfl, trivial⟩ | (refine ⟨by omega, ?_⟩; (conv => whnf); exact ⟨rfl, rfl, trivial⟩))); ((conv => whnf); first | exact ⟨rfl, rfl, trivial⟩ | (refine ⟨by omega, ?_⟩; (conv => whnf); exact ⟨rfl, rfl, trivial⟩)))); (conv => whnf))
              apply Exists.intro
              apply And.intro
              · (conv => whnf)
                apply And.intro
                · (conv => whnf)
                  conv in (_[rid]?) => tactic => exact hid
                  (conv => whnf)
                  exact ⟨rfl, rfl, rfl, trivial⟩
                · (conv => whnf)
                  conv in (_[rid]?) => tactic => exact h1
                  (conv => whnf)
                  exact ⟨rfl, rfl, rfl, trivial⟩
              (conv => whnf)
              (apply Exists.intro; apply And.intro; (focus ((conv => whnf); apply And.intro; (focus ((conv => whnf); first | exact ⟨rfl, rfl, trivial⟩ | (refine ⟨by omega, ?_⟩; (conv => whnf); exact ⟨rfl, rfl, trivial⟩))); ((conv => whnf); first | exact ⟨rfl, rfl, trivial⟩ | (refine ⟨by omega, ?_⟩; (conv => whnf); exact ⟨rfl, rfl, trivial⟩)))); (conv => whnf))
              (apply Exists.intro; apply And.intro; (focus ((conv => whnf); apply And.intro; (focus ((conv => whnf); first | exact ⟨rfl, rfl, trivial⟩ | (refine ⟨by omega, ?_⟩; (conv => whnf); exact ⟨rfl, rfl, trivial⟩))); ((conv => whnf); first | exact ⟨rfl, rfl, trivial⟩ | (refine ⟨by omega, ?_⟩; (conv => whnf); exact ⟨rfl, rfl, trivial⟩)))); (conv => whnf))
              (apply Exists.intro; apply And.intro; (focus ((conv => whnf); apply And.intro; (focus ((conv => whnf); first | exact ⟨rfl, rfl, trivial⟩ | (refine ⟨by omega, ?_⟩; (conv => whnf); exact ⟨rfl, rfl, trivial⟩))); ((conv => whnf); first | exact ⟨rfl, rfl, trivial⟩ | (refine ⟨by omega, ?_⟩; (conv => whnf); exact ⟨rfl, rfl, trivial⟩)))); (conv => whnf))
              (apply Exists.intro; apply And.intro; (focus ((conv => whnf); first | exact ⟨rfl, rfl, trivial⟩ | (refine ⟨by omega, ?_⟩; (conv => whnf); exact ⟨rfl, rfl, trivial⟩))); (conv => whnf))
              apply Exists.intro
              apply And.intro
              · (conv => whnf)
                refine callK_of (c26 [a0, a1, a2, a3, a4, a5, a6, a7, a8, a9, a10, a11, a12, a13, a14, a15, b0, b1, b2, b3, b4, b5, b6, b7, b8, b9, b10, b11, b12, b13, b14, b15] rfl H) ?_
                rintro x H' ⟨rfl, hH'⟩
                (conv => whnf)
                exact ⟨rfl, hH'.trans hH1.symm, trivial⟩
              (conv => whnf)
              (apply Exists.intro; apply And.intro; (focus ((conv => whnf); first | exact ⟨rfl, rfl, trivial⟩ | (refine ⟨by omega, ?_⟩; (conv => whnf); exact ⟨rfl, rfl, trivial⟩))); (conv => whnf))
              (apply Exists.intro; apply And.intro; (focus ((conv => whnf); first | exact ⟨rfl, rfl, trivial⟩ | (refine ⟨by omega, ?_⟩; (conv => whnf); exact ⟨rfl, rfl, trivial⟩))); (conv => whnf))
              apply Exists.intro
              apply And.intro
              · (conv => whnf)
                conv in (_[rid]?) => tactic => exact h1
                (conv => whnf)
                refine ⟨⟨by show (l.length + 1) * 80 ≤ _; omega, rfl, rfl⟩, ?_⟩
                (conv => whnf)
                exact ⟨rfl, rfl, trivial⟩
              (conv => whnf)
              (apply Exists.intro; apply And.intro; (focus ((conv => whnf); first | exact ⟨rfl, rfl, trivial⟩ | (refine ⟨by omega, ?_⟩; (conv => whnf); exact ⟨rfl, rfl, trivial⟩))); (conv => whnf))
              (apply Exists.intro; apply And.intro; (focus ((conv => whnf); first | exact ⟨rfl, rfl, trivial⟩ | (refine ⟨by omega, ?_⟩; (conv => whnf); exact ⟨rfl, rfl, trivial⟩))); (conv => whnf))
              apply Exists.intro
              apply And.intro
              · (conv => whnf)
                conv in (_[rid]?) => tactic => exact h2
                (conv => whnf)
                refine ⟨rfl, ?_, trivial⟩
                show (List.set H1 rid ⟨77, [.slice l.length (l.flatMap Ent.cells) none], v + 1⟩).set rid ⟨77, [PV.slice (l.length + 1) (l.flatMap Ent.cells ++ ([.str r, .str n, .int .i64 (IntKind.i64.wrap ((kv : Int) + 1))] ++ [a0, a1, a2, a3, a4, a5, a6, a7, a8, a9, a10, a11, a12, a13, a14, a15, b0, b1, b2, b3, b4, b5, b6, b7, b8, b9, b10, b11, b12, b13, b14, b15].map byteC ++ [.ptr (some (H.length + 1, 0))])) (some 81)], v + 1 + 1⟩ = List.set H1 rid (ringO (l ++ [addE H l r n [a0, a1, a2, a3, a4, a5, a6, a7, a8, a9, a10, a11, a12, a13, a14, a15, b0, b1, b2, b3, b4, b5, b6, b7, b8, b9, b10, b11, b12, b13, b14, b15]]) (v + 2))
                have hE : addE H l r n [a0, a1, a2, a3, a4, a5, a6, a7, a8, a9, a10, a11, a12, a13, a14, a15, b0, b1, b2, b3, b4, b5, b6, b7, b8, b9, b10, b11, b12, b13, b14, b15] = ⟨r, n, N, [a0, a1, a2, a3, a4, a5, a6, a7, a8, a9, a10, a11, a12, a13, a14, a15, b0, b1, b2, b3, b4, b5, b6, b7, b8, b9, b10, b11, b12, b13, b14, b15], H.length + 1⟩ := by unfold addE; rw [← hN0]
                have hKV : IntKind.i64.wrap ((kv : Int) + 1) = (N : Int) := by rw [wrap64 (by omega) (by omega), hN]; rfl
                rw [List.set_set, hE, hKV]
                unfold ringO
                rw [List.flatMap_append, List.length_append]
                rfl
              (conv => whnf)
              refine ⟨?_, by subst hH1; exact rfl⟩
              have hKV : IntKind.i64.wrap ((kv : Int) + 1) = (N : Int) := by rw [wrap64 (by omega) (by omega), hN]; rfl
              show PV.tup [.int .i64 (IntKind.i64.wrap ((kv : Int) + 1)), .int .i64 0] = PV.tup [.int .i64 N, .int .i64 0]
              rw [hKV]
end Go.Proofs.Tryd
