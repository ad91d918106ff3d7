import Derived.Test.YtbejjlmdmakdfaaGreatDoorA2
import Derived.Test.YtbejjlmdmakdfaaGreatDoorA1
import Derived.Test.YtbejjlmdmakdfaaGreatDoorPsB
set_option linter.all false
set_option maxRecDepth 100000
set_option maxHeartbeats 4000000
set_option linter.unusedVariables false
set_option linter.unusedSimpArgs false
namespace Go.Proofs.Tryz
open Go Ps
theorem princR_wrap (r n rest : List UInt8) (hr : r.length ≤ 1000) (hn : n.length ≤ 1000) : princR (some (princE r n ++ rest)) = (some rest, (r, n)) := by
  have h1 := wrapB_len 27 r
  have h2 := wrapB_len 27 n
  unfold princR princE
  rw [elemC_wrap 48 _ rest (by simp only [List.flatten_cons, List.flatten_nil, List.length_append, List.length_nil]; omega)]
  simp only [List.flatten_cons, List.flatten_nil]
  rw [txtC_wrap r _ (by omega)]
  simp only
  rw [txtC_wrap n [] (by omega)]
  rfl
theorem tickR_wrap (r n : List UInt8) (kv : Int) (b rest : List UInt8) (hr : r.length ≤ 1000) (hn : n.length ≤ 1000) (h0 : 0 ≤ kv) (h1 : kv ≤ 4611686018427387904) (hb : b.length ≤ 10000) :
    tickR (some (ticketE r n kv b ++ rest)) = (some rest, ⟨r, n, kv, b⟩) := by
  have k1 := princE_len r n
  have k2 := intE_len kv
  have k3 := wrapB_len 4 b
  unfold tickR ticketE
  rw [elemC_wrap 97 _ rest (by simp only [List.flatten_cons, List.flatten_nil, List.length_append, List.length_nil]; omega)]
  simp only [List.flatten_cons, List.flatten_nil]
  unfold tickRD
  rw [princR_wrap r n _ hr hn]
  simp only
  rw [rintC_wrap kv h0 h1]
  simp only
  rw [octC_wrap b [] (by omega)]
  rfl
theorem takenR_wrap (t : UInt8) (x : List UInt8) (hx : x.length ≤ 65535) : takenR (wrapB t x) = takenRT t (some x) := by
  have e := elemC_wrap t x [] hx
  rw [List.append_nil] at e
  show takenRT t (elemC t (some (wrapB t x))).2 = _
  rw [e]
/-- What is laid is read as it was. -/
theorem takenR_laid (m : Msg) (h : isB m = true) : (takenR (laidB m)).d = m.d := by
  obtain ⟨o1, o2, o3, o4, o5⟩ := others_z (isB_kind h)
  have hm := (Bool.and_eq_true _ _ ▸ h : _ ∧ _).1
  by_cases h1 : m.kind = 1
  · skip
    rw [if_pos h1] at hm
    simp only [Bool.and_eq_true] at hm
    have g1 := princ_len hm.1.1.1
    have g2 := princ_len hm.1.1.2
    have g3 := inZ_le hm.1.2
    have g4 := inZ_le hm.2
    have e0 := princE_len m.a1 m.a2
    have e1 := princE_len m.a3 m.a4
    have e2 := intE_len m.aTill
    have e3 := intE_len m.aNonce
    have hl : laidB m = wrapB 106 [princE m.a1 m.a2, princE m.a3 m.a4, intE m.aTill, intE m.aNonce].flatten := by unfold laidB; rw [if_pos h1]
    rw [hl, takenR_wrap _ _ (by simp only [List.flatten_cons, List.flatten_nil, List.length_append, List.length_nil]; omega)]
    show (rkAs (some [princE m.a1 m.a2, princE m.a3 m.a4, intE m.aTill, intE m.aNonce].flatten)).d = _
    simp only [List.flatten_cons, List.flatten_nil]
    unfold rkAs
    have w0 := princR_wrap m.a1 m.a2 (princE m.a3 m.a4 ++ (intE m.aTill ++ (intE m.aNonce ++ []))) (by omega) (by omega)
    have w1 := princR_wrap m.a3 m.a4 (intE m.aTill ++ (intE m.aNonce ++ [])) (by omega) (by omega)
    have w2 := rintC_wrap m.aTill (by omega) (by omega) (intE m.aNonce ++ [])
    have w3 := rintC_wrap m.aNonce (by omega) (by omega) []
    simp only [w0, w1, w2, w3]
    have z2 := noTgs_z (o2 (by omega))
    have z3 := noRep_z (o3 (by omega))
    have z4 := noAp_z (o4 (by omega))
    have z5 := noFail_z (o5 (by omega))
    clear o1 o2 o3 o4 o5 hl hm h w0
    obtain ⟨kind, a1, a2, a3, a4, aTill, aNonce, t1, t2, tKv, tB, tBo, tAu, tAuo, t3, t4, tTill, tNonce, r1, r2, r3, r4, rKv, rB, rBo, rBl, rBlo, p1, p2, pKv, pB, pBo, pAu, pAuo, fErr, fNonce⟩ := m
    obtain ⟨y2_0, y2_1, y2_2, y2_3, y2_4, y2_5, y2_6, y2_7, y2_8⟩ := z2
    obtain ⟨y3_0, y3_1, y3_2, y3_3, y3_4, y3_5, y3_6⟩ := z3
    obtain ⟨y4_0, y4_1, y4_2, y4_3, y4_4⟩ := z4
    obtain ⟨y5_0, y5_1⟩ := z5
    simp only at *
    subst h1 y2_0 y2_1 y2_2 y2_3 y2_4 y2_5 y2_6 y2_7 y2_8 y3_0 y3_1 y3_2 y3_3 y3_4 y3_5 y3_6 y4_0 y4_1 y4_2 y4_3 y4_4 y5_0 y5_1
    rfl
  by_cases h2 : m.kind = 2
  · skip
    rw [if_neg h1] at hm
    rw [if_pos h2] at hm
    simp only [Bool.and_eq_true] at hm
    have g1 := tick_len hm.1.1.1.1
    have gk := tick_kv hm.1.1.1.1
    have g2 := inZ_le hm.1.1.1.2
    have g3 := princ_len hm.1.1.2
    have g4 := inZ_le hm.1.2
    have g5 := inZ_le hm.2
    have e0 := ticketE_len m.t1 m.t2 m.tKv m.tB
    have e1 := wrapB_len 4 m.tAu
    have e2 := princE_len m.t3 m.t4
    have e3 := intE_len m.tTill
    have e4 := intE_len m.tNonce
    have hl : laidB m = wrapB 108 [ticketE m.t1 m.t2 m.tKv m.tB, wrapB 4 m.tAu, princE m.t3 m.t4, intE m.tTill, intE m.tNonce].flatten := by unfold laidB; rw [if_neg h1]; rw [if_pos h2]
    rw [hl, takenR_wrap _ _ (by simp only [List.flatten_cons, List.flatten_nil, List.length_append, List.length_nil]; omega)]
    show (rkTgs (some [ticketE m.t1 m.t2 m.tKv m.tB, wrapB 4 m.tAu, princE m.t3 m.t4, intE m.tTill, intE m.tNonce].flatten)).d = _
    simp only [List.flatten_cons, List.flatten_nil]
    unfold rkTgs
    have w0 := tickR_wrap m.t1 m.t2 m.tKv m.tB (wrapB 4 m.tAu ++ (princE m.t3 m.t4 ++ (intE m.tTill ++ (intE m.tNonce ++ [])))) (by omega) (by omega) (by omega) (by omega) (by omega)
    have w1 := octC_wrap m.tAu (princE m.t3 m.t4 ++ (intE m.tTill ++ (intE m.tNonce ++ []))) (by omega)
    have w2 := princR_wrap m.t3 m.t4 (intE m.tTill ++ (intE m.tNonce ++ [])) (by omega) (by omega)
    have w3 := rintC_wrap m.tTill (by omega) (by omega) (intE m.tNonce ++ [])
    have w4 := rintC_wrap m.tNonce (by omega) (by omega) []
    simp only [w0, w1, w2, w3, w4]
    have z1 := noAs_z (o1 (by omega))
    have z3 := noRep_z (o3 (by omega))
    have z4 := noAp_z (o4 (by omega))
    have z5 := noFail_z (o5 (by omega))
    clear o1 o2 o3 o4 o5 hl hm h w0
    obtain ⟨kind, a1, a2, a3, a4, aTill, aNonce, t1, t2, tKv, tB, tBo, tAu, tAuo, t3, t4, tTill, tNonce, r1, r2, r3, r4, rKv, rB, rBo, rBl, rBlo, p1, p2, pKv, pB, pBo, pAu, pAuo, fErr, fNonce⟩ := m
    obtain ⟨y1_0, y1_1, y1_2, y1_3, y1_4, y1_5⟩ := z1
    obtain ⟨y3_0, y3_1, y3_2, y3_3, y3_4, y3_5, y3_6⟩ := z3
    obtain ⟨y4_0, y4_1, y4_2, y4_3, y4_4⟩ := z4
    obtain ⟨y5_0, y5_1⟩ := z5
    simp only at *
    subst h2 y1_0 y1_1 y1_2 y1_3 y1_4 y1_5 y3_0 y3_1 y3_2 y3_3 y3_4 y3_5 y3_6 y4_0 y4_1 y4_2 y4_3 y4_4 y5_0 y5_1
    rfl
  by_cases h3 : m.kind = 3
  · skip
    rw [if_neg h1] at hm
    rw [if_neg h2] at hm
    rw [if_pos h3] at hm
    simp only [Bool.and_eq_true] at hm
    have g1 := princ_len hm.1.1
    have g2 := tick_len hm.1.2
    have gk := tick_kv hm.1.2
    have g3 := inZ_le hm.2
    have e0 := princE_len m.r1 m.r2
    have e1 := ticketE_len m.r3 m.r4 m.rKv m.rB
    have e2 := wrapB_len 4 m.rBl
    have hl : laidB m = wrapB 107 [princE m.r1 m.r2, ticketE m.r3 m.r4 m.rKv m.rB, wrapB 4 m.rBl].flatten := by unfold laidB; rw [if_neg h1]; rw [if_neg h2]; rw [if_pos h3]
    rw [hl, takenR_wrap _ _ (by simp only [List.flatten_cons, List.flatten_nil, List.length_append, List.length_nil]; omega)]
    show (rkRep (some [princE m.r1 m.r2, ticketE m.r3 m.r4 m.rKv m.rB, wrapB 4 m.rBl].flatten)).d = _
    simp only [List.flatten_cons, List.flatten_nil]
    unfold rkRep
    have w0 := princR_wrap m.r1 m.r2 (ticketE m.r3 m.r4 m.rKv m.rB ++ (wrapB 4 m.rBl ++ [])) (by omega) (by omega)
    have w1 := tickR_wrap m.r3 m.r4 m.rKv m.rB (wrapB 4 m.rBl ++ []) (by omega) (by omega) (by omega) (by omega) (by omega)
    have w2 := octC_wrap m.rBl [] (by omega)
    simp only [w0, w1, w2]
    have z1 := noAs_z (o1 (by omega))
    have z2 := noTgs_z (o2 (by omega))
    have z4 := noAp_z (o4 (by omega))
    have z5 := noFail_z (o5 (by omega))
    clear o1 o2 o3 o4 o5 hl hm h w0
    obtain ⟨kind, a1, a2, a3, a4, aTill, aNonce, t1, t2, tKv, tB, tBo, tAu, tAuo, t3, t4, tTill, tNonce, r1, r2, r3, r4, rKv, rB, rBo, rBl, rBlo, p1, p2, pKv, pB, pBo, pAu, pAuo, fErr, fNonce⟩ := m
    obtain ⟨y1_0, y1_1, y1_2, y1_3, y1_4, y1_5⟩ := z1
    obtain ⟨y2_0, y2_1, y2_2, y2_3, y2_4, y2_5, y2_6, y2_7, y2_8⟩ := z2
    obtain ⟨y4_0, y4_1, y4_2, y4_3, y4_4⟩ := z4
    obtain ⟨y5_0, y5_1⟩ := z5
    simp only at *
    subst h3 y1_0 y1_1 y1_2 y1_3 y1_4 y1_5 y2_0 y2_1 y2_2 y2_3 y2_4 y2_5 y2_6 y2_7 y2_8 y4_0 y4_1 y4_2 y4_3 y4_4 y5_0 y5_1
    rfl
  by_cases h4 : m.kind = 4
  · skip
    rw [if_neg h1] at hm
    rw [if_neg h2] at hm
    rw [if_neg h3] at hm
    rw [if_pos h4] at hm
    simp only [Bool.and_eq_true] at hm
    have g1 := tick_len hm.1
    have gk := tick_kv hm.1
    have g2 := inZ_le hm.2
    have e0 := ticketE_len m.p1 m.p2 m.pKv m.pB
    have e1 := wrapB_len 4 m.pAu
    have hl : laidB m = wrapB 110 [ticketE m.p1 m.p2 m.pKv m.pB, wrapB 4 m.pAu].flatten := by unfold laidB; rw [if_neg h1]; rw [if_neg h2]; rw [if_neg h3]; rw [if_pos h4]
    rw [hl, takenR_wrap _ _ (by simp only [List.flatten_cons, List.flatten_nil, List.length_append, List.length_nil]; omega)]
    show (rkAp (some [ticketE m.p1 m.p2 m.pKv m.pB, wrapB 4 m.pAu].flatten)).d = _
    simp only [List.flatten_cons, List.flatten_nil]
    unfold rkAp
    have w0 := tickR_wrap m.p1 m.p2 m.pKv m.pB (wrapB 4 m.pAu ++ []) (by omega) (by omega) (by omega) (by omega) (by omega)
    have w1 := octC_wrap m.pAu [] (by omega)
    simp only [w0, w1]
    have z1 := noAs_z (o1 (by omega))
    have z2 := noTgs_z (o2 (by omega))
    have z3 := noRep_z (o3 (by omega))
    have z5 := noFail_z (o5 (by omega))
    clear o1 o2 o3 o4 o5 hl hm h w0
    obtain ⟨kind, a1, a2, a3, a4, aTill, aNonce, t1, t2, tKv, tB, tBo, tAu, tAuo, t3, t4, tTill, tNonce, r1, r2, r3, r4, rKv, rB, rBo, rBl, rBlo, p1, p2, pKv, pB, pBo, pAu, pAuo, fErr, fNonce⟩ := m
    obtain ⟨y1_0, y1_1, y1_2, y1_3, y1_4, y1_5⟩ := z1
    obtain ⟨y2_0, y2_1, y2_2, y2_3, y2_4, y2_5, y2_6, y2_7, y2_8⟩ := z2
    obtain ⟨y3_0, y3_1, y3_2, y3_3, y3_4, y3_5, y3_6⟩ := z3
    obtain ⟨y5_0, y5_1⟩ := z5
    simp only at *
    subst h4 y1_0 y1_1 y1_2 y1_3 y1_4 y1_5 y2_0 y2_1 y2_2 y2_3 y2_4 y2_5 y2_6 y2_7 y2_8 y3_0 y3_1 y3_2 y3_3 y3_4 y3_5 y3_6 y5_0 y5_1
    rfl
  by_cases h5 : m.kind = 5
  · skip
    rw [if_neg h1] at hm
    rw [if_neg h2] at hm
    rw [if_neg h3] at hm
    rw [if_neg h4] at hm
    rw [if_pos h5] at hm
    simp only [Bool.and_eq_true] at hm
    have g1 := inZ_le hm.1
    have g2 := inZ_le hm.2
    have e0 := intE_len m.fErr
    have e1 := intE_len m.fNonce
    have hl : laidB m = wrapB 126 [intE m.fErr, intE m.fNonce].flatten := by unfold laidB; rw [if_neg h1, if_neg h2, if_neg h3, if_neg h4]
    rw [hl, takenR_wrap _ _ (by simp only [List.flatten_cons, List.flatten_nil, List.length_append, List.length_nil]; omega)]
    show (rkFail (some [intE m.fErr, intE m.fNonce].flatten)).d = _
    simp only [List.flatten_cons, List.flatten_nil]
    unfold rkFail
    have w0 := rintC_wrap m.fErr (by omega) (by omega) (intE m.fNonce ++ [])
    have w1 := rintC_wrap m.fNonce (by omega) (by omega) []
    simp only [w0, w1]
    have z1 := noAs_z (o1 (by omega))
    have z2 := noTgs_z (o2 (by omega))
    have z3 := noRep_z (o3 (by omega))
    have z4 := noAp_z (o4 (by omega))
    clear o1 o2 o3 o4 o5 hl hm h w0
    obtain ⟨kind, a1, a2, a3, a4, aTill, aNonce, t1, t2, tKv, tB, tBo, tAu, tAuo, t3, t4, tTill, tNonce, r1, r2, r3, r4, rKv, rB, rBo, rBl, rBlo, p1, p2, pKv, pB, pBo, pAu, pAuo, fErr, fNonce⟩ := m
    obtain ⟨y1_0, y1_1, y1_2, y1_3, y1_4, y1_5⟩ := z1
    obtain ⟨y2_0, y2_1, y2_2, y2_3, y2_4, y2_5, y2_6, y2_7, y2_8⟩ := z2
    obtain ⟨y3_0, y3_1, y3_2, y3_3, y3_4, y3_5, y3_6⟩ := z3
    obtain ⟨y4_0, y4_1, y4_2, y4_3, y4_4⟩ := z4
    simp only at *
    subst h5 y1_0 y1_1 y1_2 y1_3 y1_4 y1_5 y2_0 y2_1 y2_2 y2_3 y2_4 y2_5 y2_6 y2_7 y2_8 y3_0 y3_1 y3_2 y3_3 y3_4 y3_5 y3_6 y4_0 y4_1 y4_2 y4_3 y4_4
    rfl
  rw [if_neg h1, if_neg h2, if_neg h3, if_neg h4, if_neg h5] at hm
  cases hm
theorem okM_iff {m : Msg} {b : List UInt8} : okM m b = true ↔ isB m = true ∧ (laidB m).length ≤ 2000 ∧ laidB m = b := by
  unfold okM
  rw [Bool.and_eq_true, Bool.and_eq_true, decide_eq_true_eq, decide_eq_true_eq]
theorem okM_d {m m' : Msg} {b : List UInt8} (h : m.d = m'.d) : okM m b = okM m' b := by
  unfold okM
  rw [d_is h, d_laid h]
/-- Both answer the same. -/
theorem refDec_eq (b : List UInt8) : refDecV b = decV b := by
  unfold refDecV decV
  cases h1 : okM (takenR b) b
  · cases h2 : okM (takenB b) b
    · rw [agM_no h1, agM_no h2]
    · exfalso
      obtain ⟨k1, k2, k3⟩ := okM_iff.1 h2
      have e := takenR_laid _ k1
      rw [k3] at e
      rw [okM_d e, h2] at h1
      cases h1
  · obtain ⟨k1, k2, k3⟩ := okM_iff.1 h1
    have e := taken_laid _ k1
    rw [k3] at e
    have h2 : okM (takenB b) b = true := by rw [okM_d e, h1]
    rw [agM_yes h1, agM_yes h2, e]
/-- What may be is read as it was. -/
theorem dec_yes {m : Msg} {b : List UInt8} (h : okM m b = true) : decV b = .tup [.agg m.d.cells, .int .i64 0] := by
  obtain ⟨k1, k2, k3⟩ := okM_iff.1 h
  have e := taken_laid _ k1
  rw [k3] at e
  unfold decV
  rw [agM_yes (by rw [okM_d e, h]), e]
end Go.Proofs.Tryz

set_option maxRecDepth 100000
set_option maxHeartbeats 4000000
set_option linter.unusedVariables false
set_option linter.unusedSimpArgs false
namespace Go.Proofs.Tryz
open Go Ps
def imm103 : List Nat := [2, 3]
def imm105 : List Nat := [2, 3]
def imm104 : List Nat := [2, 3]
def imm44 : List Nat := [2, 3]
def imm43 : List Nat := [2, 3]
theorem pr_eq2 {r n r' n' : List UInt8} : ([PV.str r, PV.str n] = [PV.str r', PV.str n']) ↔ (r = r' ∧ n = n') := by simp
theorem as_eq2 {a b c d a' b' c' d' : List UInt8} {x y x' y' : Int} : ([PV.str a, PV.str b, PV.str c, PV.str d, PV.int .i64 x, PV.int .i64 y] = [PV.str a', PV.str b', PV.str c', PV.str d', PV.int .i64 x', PV.int .i64 y']) ↔ (a = a' ∧ b = b' ∧ c = c' ∧ d = d' ∧ x = x' ∧ y = y') := by simp
theorem fl_eq2 {x y x' y' : Int} : ([PV.int .i64 x, PV.int .i64 y] = [PV.int .i64 x', PV.int .i64 y']) ↔ (x = x' ∧ y = y') := by simp
def sameTk (r n : List UInt8) (kv : Int) (b r' n' : List UInt8) (kv' : Int) (b' : List UInt8) : Bool := decide (r = r' ∧ n = n') && decide (kv = kv') && decide (b = b')
def sameRep (a c : Msg) : Bool := decide (a.r1 = c.r1 ∧ a.r2 = c.r2) && sameTk a.r3 a.r4 a.rKv a.rB c.r3 c.r4 c.rKv c.rB && decide (a.rBl = c.rBl)
def sameTgs (a c : Msg) : Bool := sameTk a.t1 a.t2 a.tKv a.tB c.t1 c.t2 c.tKv c.tB && decide (a.tAu = c.tAu) && decide (a.t3 = c.t3 ∧ a.t4 = c.t4) && decide (a.tTill = c.tTill) && decide (a.tNonce = c.tNonce)
def sameAs (a c : Msg) : Bool := decide (a.a1 = c.a1 ∧ a.a2 = c.a2 ∧ a.a3 = c.a3 ∧ a.a4 = c.a4 ∧ a.aTill = c.aTill ∧ a.aNonce = c.aNonce)
def sameAp (a c : Msg) : Bool := sameTk a.p1 a.p2 a.pKv a.pB c.p1 c.p2 c.pKv c.pB && decide (a.pAu = c.pAu)
def sameFail (a c : Msg) : Bool := decide (a.fErr = c.fErr ∧ a.fNonce = c.fNonce)
def sameB (a c : Msg) : Bool := if a.kind = c.kind then (if a.kind = 1 then sameAs a c else if a.kind = 2 then sameTgs a c else if a.kind = 3 then sameRep a c else if a.kind = 4 then sameAp a c else if a.kind = 5 then sameFail a c else true) else false
theorem c103 (r n : List UInt8) (kv : Int) (b r' n' : List UInt8) (kv' : Int) (b' : List UInt8) : Pure prog 103 [.agg [.str r, .str n, .int .i64 kv, sl b], .agg [.str r', .str n', .int .i64 kv', sl b']] (.bool (sameTk r n kv b r' n' kv' b')) := by
  intro H
  (refine callOk_of_pFun2 (tt := ttG) (imm := imm103) follows ttG_ok depth6 func103 (by kernel_rfl) ?_; (conv => whnf))
  refine ⟨⟨fitG _ _, fitG _ _⟩, ?_⟩
  (conv => whnf)
  refine ⟨fun h => ?_, fun h => ?_⟩
  rotate_left
  · have f1 : decide (r = r' ∧ n = n') = false := decide_eq_false fun hh => h (Iff.mpr pr_eq2 hh)
    (conv => whnf)
    exact ⟨congrArg PV.bool (by unfold sameTk; simp only [f1, Bool.and_true, Bool.true_and, Bool.and_false, Bool.false_and]), rfl⟩
  have f1 : decide (r = r' ∧ n = n') = true := decide_eq_true (Iff.mp pr_eq2 h)
  (conv => whnf)
  refine ⟨fun h => ?_, fun h => ?_⟩
  rotate_left
  · have f2 : decide (kv = kv') = false := decide_eq_false fun hh => h (Iff.mpr Iff.rfl hh)
    (conv => whnf)
    exact ⟨congrArg PV.bool (by unfold sameTk; simp only [f1, f2, Bool.and_true, Bool.true_and, Bool.and_false, Bool.false_and]), rfl⟩
  have f2 : decide (kv = kv') = true := decide_eq_true (Iff.mp Iff.rfl h)
  (conv => whnf)
  refine ⟨b, ⟨rfl, rfl⟩, ?_⟩
  (conv => whnf)
  refine ⟨b', ⟨rfl, rfl⟩, ?_⟩
  (conv => whnf)
  refine ⟨fun h => ?_, fun h => ?_⟩
  rotate_left
  · have f3 : decide (b = b') = false := decide_eq_false fun hh => h (Iff.mpr Iff.rfl hh)
    (conv => whnf)
    exact ⟨congrArg PV.bool (by unfold sameTk; simp only [f1, f2, f3, Bool.and_true, Bool.true_and, Bool.and_false, Bool.false_and]), rfl⟩
  have f3 : decide (b = b') = true := decide_eq_true (Iff.mp Iff.rfl h)
  (conv => whnf)
  exact ⟨congrArg PV.bool (by unfold sameTk; simp only [f1, f2, f3, Bool.and_true, Bool.true_and, Bool.and_false, Bool.false_and]), rfl⟩
theorem c105 (r n : List UInt8) (kv : Int) (b r' n' : List UInt8) (kv' : Int) (b' : List UInt8) : Pure prog 105 [.agg [.str r, .str n, .int .i64 kv, sl b], .agg [.str r', .str n', .int .i64 kv', sl b']] (.bool (sameTk r n kv b r' n' kv' b')) := by
  intro H
  (refine callOk_of_pFun2 (tt := ttG) (imm := imm105) follows ttG_ok depth6 func105 (by kernel_rfl) ?_; (conv => whnf))
  refine ⟨⟨fitG _ _, fitG _ _⟩, ?_⟩
  (conv => whnf)
  refine ⟨fun h => ?_, fun h => ?_⟩
  rotate_left
  · have f4 : decide (r = r' ∧ n = n') = false := decide_eq_false fun hh => h (Iff.mpr pr_eq2 hh)
    (conv => whnf)
    exact ⟨congrArg PV.bool (by unfold sameTk; simp only [f4, Bool.and_true, Bool.true_and, Bool.and_false, Bool.false_and]), rfl⟩
  have f4 : decide (r = r' ∧ n = n') = true := decide_eq_true (Iff.mp pr_eq2 h)
  (conv => whnf)
  refine ⟨fun h => ?_, fun h => ?_⟩
  rotate_left
  · have f5 : decide (kv = kv') = false := decide_eq_false fun hh => h (Iff.mpr Iff.rfl hh)
    (conv => whnf)
    exact ⟨congrArg PV.bool (by unfold sameTk; simp only [f4, f5, Bool.and_true, Bool.true_and, Bool.and_false, Bool.false_and]), rfl⟩
  have f5 : decide (kv = kv') = true := decide_eq_true (Iff.mp Iff.rfl h)
  (conv => whnf)
  refine callK_pure (c106 b b') ?_
  cases f6 : decide (b = b')
  · (conv => whnf)
    exact ⟨congrArg PV.bool (by unfold sameTk; simp only [f4, f5, f6, Bool.and_true, Bool.true_and, Bool.and_false, Bool.false_and]), rfl⟩
  (conv => whnf)
  exact ⟨congrArg PV.bool (by unfold sameTk; simp only [f4, f5, f6, Bool.and_true, Bool.true_and, Bool.and_false, Bool.false_and]), rfl⟩
theorem c104 (a c : Msg) : Pure prog 104 [.agg (a.rep.map dem), .agg (c.rep.map dem)] (.bool (sameRep a c)) := by
  intro H
  (refine callOk_of_pFun2 (tt := ttG) (imm := imm104) follows ttG_ok depth6 func104 (by kernel_rfl) ?_; (conv => whnf))
  refine ⟨⟨fitG _ _, fitG _ _⟩, ?_⟩
  (conv => whnf)
  refine ⟨fun h => ?_, fun h => ?_⟩
  rotate_left
  · have f7 : decide (a.r1 = c.r1 ∧ a.r2 = c.r2) = false := decide_eq_false fun hh => h (Iff.mpr pr_eq2 hh)
    (conv => whnf)
    exact ⟨congrArg PV.bool (by unfold sameRep; simp only [f7, Bool.and_true, Bool.true_and, Bool.and_false, Bool.false_and]), rfl⟩
  have f7 : decide (a.r1 = c.r1 ∧ a.r2 = c.r2) = true := decide_eq_true (Iff.mp pr_eq2 h)
  (conv => whnf)
  refine callK_pure (c103 a.r3 a.r4 a.rKv a.rB c.r3 c.r4 c.rKv c.rB) ?_
  cases f8 : sameTk a.r3 a.r4 a.rKv a.rB c.r3 c.r4 c.rKv c.rB
  · (conv => whnf)
    exact ⟨congrArg PV.bool (by unfold sameRep; simp only [f7, f8, Bool.and_true, Bool.true_and, Bool.and_false, Bool.false_and]), rfl⟩
  (conv => whnf)
  refine ⟨a.rBl, ⟨rfl, rfl⟩, ?_⟩
  (conv => whnf)
  refine ⟨c.rBl, ⟨rfl, rfl⟩, ?_⟩
  (conv => whnf)
  refine ⟨fun h => ?_, fun h => ?_⟩
  rotate_left
  · have f9 : decide (a.rBl = c.rBl) = false := decide_eq_false fun hh => h (Iff.mpr Iff.rfl hh)
    (conv => whnf)
    exact ⟨congrArg PV.bool (by unfold sameRep; simp only [f7, f8, f9, Bool.and_true, Bool.true_and, Bool.and_false, Bool.false_and]), rfl⟩
  have f9 : decide (a.rBl = c.rBl) = true := decide_eq_true (Iff.mp Iff.rfl h)
  (conv => whnf)
  exact ⟨congrArg PV.bool (by unfold sameRep; simp only [f7, f8, f9, Bool.and_true, Bool.true_and, Bool.and_false, Bool.false_and]), rfl⟩
def D44 (n : Nat) : Draw := { imp := [6, 7], robs := [z55, z55], res := [(4, 0), (5, 1)], base := n, win := [(2, 0, 1), (3, 0, 1), (7, 1, 1)] }
theorem c44x (a c : Msg) (H : PH) : CallOk prog 44 [.agg a.cells, .agg c.cells] H fun r H' => r = .bool (sameB a c) ∧ ∃ ext, H' = H ++ ext := by
  (refine callOk_of_pFun2 (tt := ttG) (imm := imm44) follows ttG_ok depth6 func44 (by kernel_rfl) ?_; (conv => whnf))
  refine ⟨fun h => ?_, fun h => ?_⟩
  rotate_left
  · have h : ¬ a.kind = c.kind := h
    (conv => whnf)
    exact ⟨congrArg PV.bool (show false = sameB a c from (if_neg h).symm), Ext.refl _⟩
  have h0 : a.kind = c.kind := h
  (conv => whnf)
  have e0 : sameB a c = (if a.kind = 1 then sameAs a c else if a.kind = 2 then sameTgs a c else if a.kind = 3 then sameRep a c else if a.kind = 4 then sameAp a c else if a.kind = 5 then sameFail a c else true) := if_pos h0
  rw [e0]
  refine ⟨fun h1 => ?_, fun h1 => ?_⟩
  · have h1 : a.kind = 1 := h1
    rw [if_pos h1]
    (conv => whnf)
    refine ⟨⟨fitA _ _ _ _ _ _, fitA _ _ _ _ _ _⟩, ?_⟩
    (conv => whnf)
    refine ⟨fun h => ?_, fun h => ?_⟩
    · (conv => whnf)
      exact ⟨congrArg PV.bool (decide_eq_true (Iff.mp as_eq2 h)).symm, Ext.refl _⟩
    · (conv => whnf)
      exact ⟨congrArg PV.bool (decide_eq_false (fun hh => h (Iff.mpr as_eq2 hh))).symm, Ext.refl _⟩
  have h1 : ¬ a.kind = 1 := h1
  (conv => whnf)
  refine ⟨fun h2 => ?_, fun h2 => ?_⟩
  · have h2 : a.kind = 2 := h2
    rw [if_neg h1]
    rw [if_pos h2]
    (conv => whnf)
    refine drawK_of2 (D44 H.length) [H ++ [z55, z55], H ++ [PObj.mk 30 (a.tgs.map dem) 1, z55], H ++ [PObj.mk 30 (a.tgs.map dem) 1, PObj.mk 30 (c.tgs.map dem) 1]] (by kernel_rfl) ⟨rfl, rfl⟩ trivial ?_
    (conv => whnf)
    (apply Exists.intro; apply And.intro; (focus ((conv => whnf); first | exact ⟨rfl, rfl, trivial⟩ | (refine ⟨by omega, ?_⟩; (conv => whnf); exact ⟨rfl, rfl, trivial⟩))); (conv => whnf))
    (apply Exists.intro; apply And.intro; (focus ((conv => whnf); first | exact ⟨rfl, rfl, trivial⟩ | (refine ⟨by omega, ?_⟩; (conv => whnf); exact ⟨rfl, rfl, trivial⟩))); (conv => whnf))
    (apply Exists.intro; apply And.intro; (focus ((conv => whnf); apply And.intro; (focus ((conv => whnf); first | exact ⟨rfl, rfl, trivial⟩ | (refine ⟨by omega, ?_⟩; (conv => whnf); exact ⟨rfl, rfl, trivial⟩))); ((conv => whnf); first | exact ⟨rfl, rfl, trivial⟩ | (refine ⟨by omega, ?_⟩; (conv => whnf); exact ⟨rfl, rfl, trivial⟩)))); (conv => whnf))
    (apply Exists.intro; apply And.intro; (focus ((conv => whnf); apply And.intro; (focus ((conv => whnf); first | exact ⟨rfl, rfl, trivial⟩ | (refine ⟨by omega, ?_⟩; (conv => whnf); exact ⟨rfl, rfl, trivial⟩))); ((conv => whnf); first | exact ⟨rfl, rfl, trivial⟩ | (refine ⟨by omega, ?_⟩; (conv => whnf); exact ⟨rfl, rfl, trivial⟩)))); (conv => whnf))
    refine ⟨_, ⟨⟨rfl, rfl, trivial⟩, app_get H [z55, z55] 0⟩, ?_⟩
    (conv => whnf)
    refine ⟨_, ⟨⟨rfl, rfl, trivial⟩, app_get H [z55, z55] 1⟩, ?_⟩
    (conv => whnf)
    apply Exists.intro
    apply And.intro
    focus
      (conv => whnf)
      ((conv in (_[_]?) => tactic => exact app_get H [z55, z55] 0); (conv => whnf))
      (conv => whnf)
      exact ⟨rfl, app_set H [z55, z55] 0 (PObj.mk 30 (a.tgs.map dem) 1), trivial⟩
    (conv => whnf)
    apply Exists.intro
    apply And.intro
    focus
      (conv => whnf)
      ((conv in (_[_]?) => tactic => exact app_get H [PObj.mk 30 (a.tgs.map dem) 1, z55] 1); (conv => whnf))
      (conv => whnf)
      exact ⟨rfl, app_set H [PObj.mk 30 (a.tgs.map dem) 1, z55] 1 (PObj.mk 30 (c.tgs.map dem) 1), trivial⟩
    (conv => whnf)
    ((conv in (_[_]?) => tactic => exact app_get H [PObj.mk 30 (a.tgs.map dem) 1, PObj.mk 30 (c.tgs.map dem) 1] 0); (conv => whnf))
    ((conv in (_[_]?) => tactic => exact app_get H [PObj.mk 30 (a.tgs.map dem) 1, PObj.mk 30 (c.tgs.map dem) 1] 1); (conv => whnf))
    refine callK_pure (c105 a.t1 a.t2 a.tKv a.tB c.t1 c.t2 c.tKv c.tB) ?_
    cases f10 : sameTk a.t1 a.t2 a.tKv a.tB c.t1 c.t2 c.tKv c.tB
    · (conv => whnf)
      exact ⟨congrArg PV.bool (by unfold sameTgs; simp only [f10, Bool.and_true, Bool.true_and, Bool.and_false, Bool.false_and]), ⟨_, rfl⟩⟩
    (conv => whnf)
    ((conv in (_[_]?) => tactic => exact app_get H [PObj.mk 30 (a.tgs.map dem) 1, PObj.mk 30 (c.tgs.map dem) 1] 0); (conv => whnf))
    ((conv in (_[_]?) => tactic => exact app_get H [PObj.mk 30 (a.tgs.map dem) 1, PObj.mk 30 (c.tgs.map dem) 1] 1); (conv => whnf))
    refine callK_pure (c106 a.tAu c.tAu) ?_
    cases f11 : decide (a.tAu = c.tAu)
    · (conv => whnf)
      exact ⟨congrArg PV.bool (by unfold sameTgs; simp only [f10, f11, Bool.and_true, Bool.true_and, Bool.and_false, Bool.false_and]), ⟨_, rfl⟩⟩
    (conv => whnf)
    ((conv in (_[_]?) => tactic => exact app_get H [PObj.mk 30 (a.tgs.map dem) 1, PObj.mk 30 (c.tgs.map dem) 1] 0); (conv => whnf))
    ((conv in (_[_]?) => tactic => exact app_get H [PObj.mk 30 (a.tgs.map dem) 1, PObj.mk 30 (c.tgs.map dem) 1] 1); (conv => whnf))
    refine ⟨⟨fitG _ _, fitG _ _⟩, ?_⟩
    (conv => whnf)
    refine ⟨fun h => ?_, fun h => ?_⟩
    rotate_left
    · have f12 : decide (a.t3 = c.t3 ∧ a.t4 = c.t4) = false := decide_eq_false fun hh => h (Iff.mpr pr_eq2 hh)
      (conv => whnf)
      exact ⟨congrArg PV.bool (by unfold sameTgs; simp only [f10, f11, f12, Bool.and_true, Bool.true_and, Bool.and_false, Bool.false_and]), ⟨_, rfl⟩⟩
    have f12 : decide (a.t3 = c.t3 ∧ a.t4 = c.t4) = true := decide_eq_true (Iff.mp pr_eq2 h)
    (conv => whnf)
    ((conv in (_[_]?) => tactic => exact app_get H [PObj.mk 30 (a.tgs.map dem) 1, PObj.mk 30 (c.tgs.map dem) 1] 0); (conv => whnf))
    ((conv in (_[_]?) => tactic => exact app_get H [PObj.mk 30 (a.tgs.map dem) 1, PObj.mk 30 (c.tgs.map dem) 1] 1); (conv => whnf))
    refine ⟨fun h => ?_, fun h => ?_⟩
    rotate_left
    · have f13 : decide (a.tTill = c.tTill) = false := decide_eq_false fun hh => h (Iff.mpr Iff.rfl hh)
      (conv => whnf)
      exact ⟨congrArg PV.bool (by unfold sameTgs; simp only [f10, f11, f12, f13, Bool.and_true, Bool.true_and, Bool.and_false, Bool.false_and]), ⟨_, rfl⟩⟩
    have f13 : decide (a.tTill = c.tTill) = true := decide_eq_true (Iff.mp Iff.rfl h)
    (conv => whnf)
    ((conv in (_[_]?) => tactic => exact app_get H [PObj.mk 30 (a.tgs.map dem) 1, PObj.mk 30 (c.tgs.map dem) 1] 0); (conv => whnf))
    ((conv in (_[_]?) => tactic => exact app_get H [PObj.mk 30 (a.tgs.map dem) 1, PObj.mk 30 (c.tgs.map dem) 1] 1); (conv => whnf))
    refine ⟨fun h => ?_, fun h => ?_⟩
    rotate_left
    · have f14 : decide (a.tNonce = c.tNonce) = false := decide_eq_false fun hh => h (Iff.mpr Iff.rfl hh)
      (conv => whnf)
      exact ⟨congrArg PV.bool (by unfold sameTgs; simp only [f10, f11, f12, f13, f14, Bool.and_true, Bool.true_and, Bool.and_false, Bool.false_and]), ⟨_, rfl⟩⟩
    have f14 : decide (a.tNonce = c.tNonce) = true := decide_eq_true (Iff.mp Iff.rfl h)
    (conv => whnf)
    exact ⟨congrArg PV.bool (by unfold sameTgs; simp only [f10, f11, f12, f13, f14, Bool.and_true, Bool.true_and, Bool.and_false, Bool.false_and]), ⟨_, rfl⟩⟩
  have h2 : ¬ a.kind = 2 := h2
  (conv => whnf)
  refine ⟨fun h3 => ?_, fun h3 => ?_⟩
  · have h3 : a.kind = 3 := h3
    rw [if_neg h1]
    rw [if_neg h2]
    rw [if_pos h3]
    (conv => whnf)
    refine ⟨⟨fitG _ _, fitG _ _⟩, ?_⟩
    (conv => whnf)
    refine ⟨fun h => ?_, fun h => ?_⟩
    rotate_left
    · have f15 : decide (a.r1 = c.r1 ∧ a.r2 = c.r2) = false := decide_eq_false fun hh => h (Iff.mpr pr_eq2 hh)
      (conv => whnf)
      exact ⟨congrArg PV.bool (by unfold sameRep; simp only [f15, Bool.and_true, Bool.true_and, Bool.and_false, Bool.false_and]), Ext.refl _⟩
    have f15 : decide (a.r1 = c.r1 ∧ a.r2 = c.r2) = true := decide_eq_true (Iff.mp pr_eq2 h)
    (conv => whnf)
    refine callK_pure (c105 a.r3 a.r4 a.rKv a.rB c.r3 c.r4 c.rKv c.rB) ?_
    cases f16 : sameTk a.r3 a.r4 a.rKv a.rB c.r3 c.r4 c.rKv c.rB
    · (conv => whnf)
      exact ⟨congrArg PV.bool (by unfold sameRep; simp only [f15, f16, Bool.and_true, Bool.true_and, Bool.and_false, Bool.false_and]), Ext.refl _⟩
    (conv => whnf)
    refine callK_pure (c106 a.rBl c.rBl) ?_
    cases f17 : decide (a.rBl = c.rBl)
    · (conv => whnf)
      exact ⟨congrArg PV.bool (by unfold sameRep; simp only [f15, f16, f17, Bool.and_true, Bool.true_and, Bool.and_false, Bool.false_and]), Ext.refl _⟩
    (conv => whnf)
    exact ⟨congrArg PV.bool (by unfold sameRep; simp only [f15, f16, f17, Bool.and_true, Bool.true_and, Bool.and_false, Bool.false_and]), Ext.refl _⟩
  have h3 : ¬ a.kind = 3 := h3
  (conv => whnf)
  refine ⟨fun h4 => ?_, fun h4 => ?_⟩
  · have h4 : a.kind = 4 := h4
    rw [if_neg h1]
    rw [if_neg h2]
    rw [if_neg h3]
    rw [if_pos h4]
    (conv => whnf)
    refine callK_pure (c105 a.p1 a.p2 a.pKv a.pB c.p1 c.p2 c.pKv c.pB) ?_
    cases f18 : sameTk a.p1 a.p2 a.pKv a.pB c.p1 c.p2 c.pKv c.pB
    · (conv => whnf)
      exact ⟨congrArg PV.bool (by unfold sameAp; simp only [f18, Bool.and_true, Bool.true_and, Bool.and_false, Bool.false_and]), Ext.refl _⟩
    (conv => whnf)
    refine callK_pure (c106 a.pAu c.pAu) ?_
    cases f19 : decide (a.pAu = c.pAu)
    · (conv => whnf)
      exact ⟨congrArg PV.bool (by unfold sameAp; simp only [f18, f19, Bool.and_true, Bool.true_and, Bool.and_false, Bool.false_and]), Ext.refl _⟩
    (conv => whnf)
    exact ⟨congrArg PV.bool (by unfold sameAp; simp only [f18, f19, Bool.and_true, Bool.true_and, Bool.and_false, Bool.false_and]), Ext.refl _⟩
  have h4 : ¬ a.kind = 4 := h4
  (conv => whnf)
  refine ⟨fun h5 => ?_, fun h5 => ?_⟩
  · have h5 : a.kind = 5 := h5
    rw [if_neg h1]
    rw [if_neg h2]
    rw [if_neg h3]
    rw [if_neg h4]
    rw [if_pos h5]
    (conv => whnf)
    refine ⟨⟨fitF _ _, fitF _ _⟩, ?_⟩
    (conv => whnf)
    refine ⟨fun h => ?_, fun h => ?_⟩
    · (conv => whnf)
      exact ⟨congrArg PV.bool (decide_eq_true (Iff.mp fl_eq2 h)).symm, Ext.refl _⟩
    · (conv => whnf)
      exact ⟨congrArg PV.bool (decide_eq_false (fun hh => h (Iff.mpr fl_eq2 hh))).symm, Ext.refl _⟩
  have h5 : ¬ a.kind = 5 := h5
  (conv => whnf)
  rw [if_neg h1, if_neg h2, if_neg h3, if_neg h4, if_neg h5]
  exact ⟨rfl, Ext.refl _⟩
theorem c44 (a c : Msg) : Pure prog 44 [.agg a.cells, .agg c.cells] (.bool (sameB a c)) := Pure.of_gc rfl (c44x a c)
def D43 (n : Nat) : Draw := { imp := [6, 7], robs := [z55, z55], res := [(4, 0), (5, 1)], base := n, win := [(2, 0, 1), (3, 0, 1), (7, 1, 1)] }
theorem c43x (a c : Msg) (H : PH) : CallOk prog 43 [.agg a.cells, .agg c.cells] H fun r H' => r = .bool (sameB a c) ∧ ∃ ext, H' = H ++ ext := by
  (refine callOk_of_pFun2 (tt := ttG) (imm := imm43) follows ttG_ok depth6 func43 (by kernel_rfl) ?_; (conv => whnf))
  refine ⟨fun h => ?_, fun h => ?_⟩
  rotate_left
  · have h : ¬ a.kind = c.kind := h
    (conv => whnf)
    exact ⟨congrArg PV.bool (show false = sameB a c from (if_neg h).symm), Ext.refl _⟩
  have h0 : a.kind = c.kind := h
  (conv => whnf)
  have e0 : sameB a c = (if a.kind = 1 then sameAs a c else if a.kind = 2 then sameTgs a c else if a.kind = 3 then sameRep a c else if a.kind = 4 then sameAp a c else if a.kind = 5 then sameFail a c else true) := if_pos h0
  rw [e0]
  refine ⟨fun h1 => ?_, fun h1 => ?_⟩
  · have h1 : a.kind = 1 := h1
    rw [if_pos h1]
    (conv => whnf)
    refine ⟨⟨fitA _ _ _ _ _ _, fitA _ _ _ _ _ _⟩, ?_⟩
    (conv => whnf)
    refine ⟨fun h => ?_, fun h => ?_⟩
    · (conv => whnf)
      exact ⟨congrArg PV.bool (decide_eq_true (Iff.mp as_eq2 h)).symm, Ext.refl _⟩
    · (conv => whnf)
      exact ⟨congrArg PV.bool (decide_eq_false (fun hh => h (Iff.mpr as_eq2 hh))).symm, Ext.refl _⟩
  have h1 : ¬ a.kind = 1 := h1
  (conv => whnf)
  refine ⟨fun h2 => ?_, fun h2 => ?_⟩
  · have h2 : a.kind = 2 := h2
    rw [if_neg h1]
    rw [if_pos h2]
    (conv => whnf)
    refine drawK_of2 (D43 H.length) [H ++ [z55, z55], H ++ [PObj.mk 30 (a.tgs.map dem) 1, z55], H ++ [PObj.mk 30 (a.tgs.map dem) 1, PObj.mk 30 (c.tgs.map dem) 1]] (by kernel_rfl) ⟨rfl, rfl⟩ trivial ?_
    (conv => whnf)
    (apply Exists.intro; apply And.intro; (focus ((conv => whnf); first | exact ⟨rfl, rfl, trivial⟩ | (refine ⟨by omega, ?_⟩; (conv => whnf); exact ⟨rfl, rfl, trivial⟩))); (conv => whnf))
    (apply Exists.intro; apply And.intro; (focus ((conv => whnf); first | exact ⟨rfl, rfl, trivial⟩ | (refine ⟨by omega, ?_⟩; (conv => whnf); exact ⟨rfl, rfl, trivial⟩))); (conv => whnf))
    (apply Exists.intro; apply And.intro; (focus ((conv => whnf); apply And.intro; (focus ((conv => whnf); first | exact ⟨rfl, rfl, trivial⟩ | (refine ⟨by omega, ?_⟩; (conv => whnf); exact ⟨rfl, rfl, trivial⟩))); ((conv => whnf); first | exact ⟨rfl, rfl, trivial⟩ | (refine ⟨by omega, ?_⟩; (conv => whnf); exact ⟨rfl, rfl, trivial⟩)))); (conv => whnf))
    (apply Exists.intro; apply And.intro; (focus ((conv => whnf); apply And.intro; (focus ((conv => whnf); first | exact ⟨rfl, rfl, trivial⟩ | (refine ⟨by omega, ?_⟩; (conv => whnf); exact ⟨rfl, rfl, trivial⟩))); ((conv => whnf); first | exact ⟨rfl, rfl, trivial⟩ | (refine ⟨by omega, ?_⟩; (conv => whnf); exact ⟨rfl, rfl, trivial⟩)))); (conv => whnf))
    refine ⟨_, ⟨⟨rfl, rfl, trivial⟩, app_get H [z55, z55] 0⟩, ?_⟩
    (conv => whnf)
    refine ⟨_, ⟨⟨rfl, rfl, trivial⟩, app_get H [z55, z55] 1⟩, ?_⟩
    (conv => whnf)
    apply Exists.intro
    apply And.intro
    focus
      (conv => whnf)
      ((conv in (_[_]?) => tactic => exact app_get H [z55, z55] 0); (conv => whnf))
      (conv => whnf)
      exact ⟨rfl, app_set H [z55, z55] 0 (PObj.mk 30 (a.tgs.map dem) 1), trivial⟩
    (conv => whnf)
    apply Exists.intro
    apply And.intro
    focus
      (conv => whnf)
      ((conv in (_[_]?) => tactic => exact app_get H [PObj.mk 30 (a.tgs.map dem) 1, z55] 1); (conv => whnf))
      (conv => whnf)
      exact ⟨rfl, app_set H [PObj.mk 30 (a.tgs.map dem) 1, z55] 1 (PObj.mk 30 (c.tgs.map dem) 1), trivial⟩
    (conv => whnf)
    ((conv in (_[_]?) => tactic => exact app_get H [PObj.mk 30 (a.tgs.map dem) 1, PObj.mk 30 (c.tgs.map dem) 1] 0); (conv => whnf))
    ((conv in (_[_]?) => tactic => exact app_get H [PObj.mk 30 (a.tgs.map dem) 1, PObj.mk 30 (c.tgs.map dem) 1] 1); (conv => whnf))
    refine callK_pure (c103 a.t1 a.t2 a.tKv a.tB c.t1 c.t2 c.tKv c.tB) ?_
    cases g1 : sameTk a.t1 a.t2 a.tKv a.tB c.t1 c.t2 c.tKv c.tB
    · (conv => whnf)
      exact ⟨congrArg PV.bool (by unfold sameTgs; simp only [g1, Bool.and_true, Bool.true_and, Bool.and_false, Bool.false_and]), ⟨_, rfl⟩⟩
    (conv => whnf)
    ((conv in (_[_]?) => tactic => exact app_get H [PObj.mk 30 (a.tgs.map dem) 1, PObj.mk 30 (c.tgs.map dem) 1] 0); (conv => whnf))
    refine ⟨a.tAu, ⟨rfl, rfl⟩, ?_⟩
    (conv => whnf)
    ((conv in (_[_]?) => tactic => exact app_get H [PObj.mk 30 (a.tgs.map dem) 1, PObj.mk 30 (c.tgs.map dem) 1] 1); (conv => whnf))
    refine ⟨c.tAu, ⟨rfl, rfl⟩, ?_⟩
    (conv => whnf)
    refine ⟨fun h => ?_, fun h => ?_⟩
    rotate_left
    · have g2 : decide (a.tAu = c.tAu) = false := decide_eq_false h
      (conv => whnf)
      exact ⟨congrArg PV.bool (by unfold sameTgs; simp only [g1, g2, Bool.and_true, Bool.true_and, Bool.and_false, Bool.false_and]), ⟨_, rfl⟩⟩
    have g2 : decide (a.tAu = c.tAu) = true := decide_eq_true h
    (conv => whnf)
    ((conv in (_[_]?) => tactic => exact app_get H [PObj.mk 30 (a.tgs.map dem) 1, PObj.mk 30 (c.tgs.map dem) 1] 0); (conv => whnf))
    ((conv in (_[_]?) => tactic => exact app_get H [PObj.mk 30 (a.tgs.map dem) 1, PObj.mk 30 (c.tgs.map dem) 1] 1); (conv => whnf))
    refine ⟨⟨fitG _ _, fitG _ _⟩, ?_⟩
    (conv => whnf)
    refine ⟨fun h => ?_, fun h => ?_⟩
    rotate_left
    · have f20 : decide (a.t3 = c.t3 ∧ a.t4 = c.t4) = false := decide_eq_false fun hh => h (Iff.mpr pr_eq2 hh)
      (conv => whnf)
      exact ⟨congrArg PV.bool (by unfold sameTgs; simp only [g1, g2, f20, Bool.and_true, Bool.true_and, Bool.and_false, Bool.false_and]), ⟨_, rfl⟩⟩
    have f20 : decide (a.t3 = c.t3 ∧ a.t4 = c.t4) = true := decide_eq_true (Iff.mp pr_eq2 h)
    (conv => whnf)
    ((conv in (_[_]?) => tactic => exact app_get H [PObj.mk 30 (a.tgs.map dem) 1, PObj.mk 30 (c.tgs.map dem) 1] 0); (conv => whnf))
    ((conv in (_[_]?) => tactic => exact app_get H [PObj.mk 30 (a.tgs.map dem) 1, PObj.mk 30 (c.tgs.map dem) 1] 1); (conv => whnf))
    refine ⟨fun h => ?_, fun h => ?_⟩
    rotate_left
    · have f21 : decide (a.tTill = c.tTill) = false := decide_eq_false fun hh => h (Iff.mpr Iff.rfl hh)
      (conv => whnf)
      exact ⟨congrArg PV.bool (by unfold sameTgs; simp only [g1, g2, f20, f21, Bool.and_true, Bool.true_and, Bool.and_false, Bool.false_and]), ⟨_, rfl⟩⟩
    have f21 : decide (a.tTill = c.tTill) = true := decide_eq_true (Iff.mp Iff.rfl h)
    (conv => whnf)
    ((conv in (_[_]?) => tactic => exact app_get H [PObj.mk 30 (a.tgs.map dem) 1, PObj.mk 30 (c.tgs.map dem) 1] 0); (conv => whnf))
    ((conv in (_[_]?) => tactic => exact app_get H [PObj.mk 30 (a.tgs.map dem) 1, PObj.mk 30 (c.tgs.map dem) 1] 1); (conv => whnf))
    refine ⟨fun h => ?_, fun h => ?_⟩
    rotate_left
    · have f22 : decide (a.tNonce = c.tNonce) = false := decide_eq_false fun hh => h (Iff.mpr Iff.rfl hh)
      (conv => whnf)
      exact ⟨congrArg PV.bool (by unfold sameTgs; simp only [g1, g2, f20, f21, f22, Bool.and_true, Bool.true_and, Bool.and_false, Bool.false_and]), ⟨_, rfl⟩⟩
    have f22 : decide (a.tNonce = c.tNonce) = true := decide_eq_true (Iff.mp Iff.rfl h)
    (conv => whnf)
    exact ⟨congrArg PV.bool (by unfold sameTgs; simp only [g1, g2, f20, f21, f22, Bool.and_true, Bool.true_and, Bool.and_false, Bool.false_and]), ⟨_, rfl⟩⟩
  have h2 : ¬ a.kind = 2 := h2
  (conv => whnf)
  refine ⟨fun h3 => ?_, fun h3 => ?_⟩
  · have h3 : a.kind = 3 := h3
    rw [if_neg h1]
    rw [if_neg h2]
    rw [if_pos h3]
    (conv => whnf)
    refine callK_pure (c104 a c) ?_
    cases f1 : sameRep a c
    · (conv => whnf)
      exact ⟨rfl, Ext.refl _⟩
    · (conv => whnf)
      exact ⟨rfl, Ext.refl _⟩
  have h3 : ¬ a.kind = 3 := h3
  (conv => whnf)
  refine ⟨fun h4 => ?_, fun h4 => ?_⟩
  · have h4 : a.kind = 4 := h4
    rw [if_neg h1]
    rw [if_neg h2]
    rw [if_neg h3]
    rw [if_pos h4]
    (conv => whnf)
    refine callK_pure (c103 a.p1 a.p2 a.pKv a.pB c.p1 c.p2 c.pKv c.pB) ?_
    cases f23 : sameTk a.p1 a.p2 a.pKv a.pB c.p1 c.p2 c.pKv c.pB
    · (conv => whnf)
      exact ⟨congrArg PV.bool (by unfold sameAp; simp only [f23, Bool.and_true, Bool.true_and, Bool.and_false, Bool.false_and]), Ext.refl _⟩
    (conv => whnf)
    refine ⟨a.pAu, ⟨rfl, rfl⟩, ?_⟩
    (conv => whnf)
    refine ⟨c.pAu, ⟨rfl, rfl⟩, ?_⟩
    (conv => whnf)
    refine ⟨fun h => ?_, fun h => ?_⟩
    rotate_left
    · have f24 : decide (a.pAu = c.pAu) = false := decide_eq_false fun hh => h (Iff.mpr Iff.rfl hh)
      (conv => whnf)
      exact ⟨congrArg PV.bool (by unfold sameAp; simp only [f23, f24, Bool.and_true, Bool.true_and, Bool.and_false, Bool.false_and]), Ext.refl _⟩
    have f24 : decide (a.pAu = c.pAu) = true := decide_eq_true (Iff.mp Iff.rfl h)
    (conv => whnf)
    exact ⟨congrArg PV.bool (by unfold sameAp; simp only [f23, f24, Bool.and_true, Bool.true_and, Bool.and_false, Bool.false_and]), Ext.refl _⟩
  have h4 : ¬ a.kind = 4 := h4
  (conv => whnf)
  refine ⟨fun h5 => ?_, fun h5 => ?_⟩
  · have h5 : a.kind = 5 := h5
    rw [if_neg h1]
    rw [if_neg h2]
    rw [if_neg h3]
    rw [if_neg h4]
    rw [if_pos h5]
    (conv => whnf)
    refine ⟨⟨fitF _ _, fitF _ _⟩, ?_⟩
    (conv => whnf)
    refine ⟨fun h => ?_, fun h => ?_⟩
    · (conv => whnf)
      exact ⟨congrArg PV.bool (decide_eq_true (Iff.mp fl_eq2 h)).symm, Ext.refl _⟩
    · (conv => whnf)
      exact ⟨congrArg PV.bool (decide_eq_false (fun hh => h (Iff.mpr fl_eq2 hh))).symm, Ext.refl _⟩
  have h5 : ¬ a.kind = 5 := h5
  (conv => whnf)
  rw [if_neg h1, if_neg h2, if_neg h3, if_neg h4, if_neg h5]
  exact ⟨rfl, Ext.refl _⟩
theorem c43 (a c : Msg) : Pure prog 43 [.agg a.cells, .agg c.cells] (.bool (sameB a c)) := Pure.of_gc rfl (c43x a c)
end Go.Proofs.Tryz

set_option maxRecDepth 100000
set_option maxHeartbeats 4000000
set_option linter.unusedVariables false
set_option linter.unusedSimpArgs false
namespace Go.Proofs.Tryz
open Go Ps
def ttQ : TT := [(3, ⟨.int .i64, 1, 8, [.int .i64 0]⟩), (4, ⟨.bool, 1, 1, [.bool false]⟩), (5, ⟨.int .u8, 1, 1, [.int .u8 0]⟩), (9, ⟨.str, 1, 16, [.str []]⟩), (22, ⟨.slice 5, 1, 24, [.slice 0 [] (some 5)]⟩), (24, ⟨.strct [(9, 0), (9, 1)], 2, 32, [.str [], .str []]⟩), (35, ⟨.int .i64, 1, 8, [.int .i64 0]⟩), (49, ⟨.arr 32 5, 32, 32, List.replicate 32 (.int .u8 0)⟩), (51, ⟨.strct [(24, 0), (49, 2), (9, 34), (3, 35), (3, 36)], 37, 96, [.str [], .str []] ++ List.replicate 32 (.int .u8 0) ++ [.str [], .int .i64 0, .int .i64 0]⟩), (53, ⟨.strct [(24, 0), (3, 2), (3, 3)], 4, 48, [.str [], .str [], .int .i64 0, .int .i64 0]⟩), (55, ⟨.strct [(49, 0), (24, 32), (3, 34), (3, 35), (3, 36)], 37, 88, List.replicate 32 (.int .u8 0) ++ [.str [], .str [], .int .i64 0, .int .i64 0, .int .i64 0]⟩), (60, ⟨.fn, 1, 8, [.nilF]⟩), (62, ⟨.fn, 1, 8, [.nilF]⟩), (124, ⟨.ptr, 1, 8, [.ptr none]⟩), (126, ⟨.strct [(22, 0), (4, 1)], 2, 32, [.slice 0 [] (some 5), .bool false]⟩), (144, ⟨.ptr, 1, 8, [.ptr none]⟩), (146, ⟨.strct [(144, 0)], 1, 8, [.ptr none]⟩), (200, ⟨.slice 3, 1, 24, [.slice 0 [] (some 3)]⟩), (201, ⟨.slice 22, 1, 24, [.slice 0 [] (some 22)]⟩)]
theorem ttQ_ok : ttOk prog ttQ = true := by kernel_rfl
def imm48 : List Nat := [1]
def imm49 : List Nat := [1]
def imm50 : List Nat := [1]
def imm17 : List Nat := [1]
def imm19 : List Nat := [1]
def imm21 : List Nat := [1]
def imm82 : List Nat := []
def imm23 : List Nat := []
def imm25 : List Nat := []
def imm27 : List Nat := []
def imm18 : List Nat := [1]
def imm84 : List Nat := [4]
def imm24 : List Nat := []
def imm20 : List Nat := [1]
def imm85 : List Nat := [4]
def imm26 : List Nat := []
/-- A key as it is taken: what is left, and it. -/
def keyR (s : Option (List UInt8)) : Option (List UInt8) × (Nat → UInt8) := if (octC s).2.length = 32 then ((octC s).1, keyOf (octC s).2) else (none, fun _ => 0)
def kcB (p : List UInt8) (i : Nat) : List PV := (p.take i).map byteC ++ List.replicate (32 - i) (.int .u8 0)
theorem kcB_len (p : List UInt8) (i : Nat) (hp : p.length = 32) (hi : i ≤ 32) : (kcB p i).length = 32 := by
  unfold kcB
  rw [List.length_append, List.length_map, List.length_take, List.length_replicate]; omega
theorem kcB_set (p : List UInt8) (i : Nat) (hp : p.length = 32) (hi : i < 32) (h : i < p.length) : setCells i [byteC p[i]] (kcB p i) = kcB p (i + 1) := by
  unfold kcB
  rw [show 32 - i = (32 - (i + 1)) + 1 by omega, List.replicate_succ, setCells_one _ _ _ _ _ (by rw [List.length_map, List.length_take]; omega), List.take_succ_eq_append_getElem h, List.map_append, List.append_assoc]
  rfl
theorem kcB_all (p : List UInt8) (hp : p.length = 32) : kcB p 32 = keyC (keyOf p) := by
  unfold kcB
  rw [List.take_of_length_le (by omega), keyC_map, keyB_range, show 32 - 32 = 0 from rfl, List.replicate_zero, List.append_nil]
  congr 1
  apply List.ext_getElem?
  intro j
  by_cases h : j < 32
  · rw [List.getElem?_map, List.getElem?_range h, List.getElem?_eq_getElem (show j < p.length by omega)]
    show some p[j] = some (p.getD j 0)
    rw [List.getD_eq_getElem?_getD, List.getElem?_eq_getElem (show j < p.length by omega)]; rfl
  · rw [List.getElem?_eq_none (by omega), List.getElem?_eq_none (by rw [List.length_map, List.length_range]; omega)]
theorem c82 (c : Nat) (s : Option (List UInt8)) (H : PH) (hc : rcur H c s) (hl : ∀ l, s = some l → l.length ≤ 140737488355328) :
    CallOk prog 82 [.ptr (some (c, 0))] H fun r H' => r = .agg (keyC (keyR s).2) ∧ Upd (· = c) H H' ∧ rcur H' c (keyR s).1 := by
  have hd := hc.lt
  (refine callOk_of_pFun2 (tt := ttQ) (imm := imm82) follows ttQ_ok depth6 func82 (by kernel_rfl) ?_; (conv => whnf))
  obtain ⟨H1, hH1⟩ : ∃ H1, H1 = H ++ [PObj.mk 49 (List.replicate 32 (.int .u8 0)) 0] := ⟨_, rfl⟩
  have hl1 : H1.length = H.length + 1 := by rw [hH1]; simp
  have h0 : H1[H.length]? = some ⟨49, List.replicate 32 (.int .u8 0), 0⟩ := by rw [hH1]; exact get_last _ _
  have u1 : Upd (· = c) H H1 := by rw [hH1]; exact (Upd.refl H).push _
  have hc1 : rcur H1 c s := hc.keep (X := fun _ => False) (by rw [hH1]; exact (Upd.refl H).push _) (fun f => f)
  show callK _ _ _ (H ++ [PObj.mk 49 (List.replicate 32 (.int .u8 0)) 0]) _
  rw [← hH1]
  refine callK_of (c57 c s H1 hc1 hl) ?_
  rintro _ H2 ⟨rfl, k1, k2⟩
  have hle := k2.lt
  have h2z : H2[H.length]? = some ⟨49, List.replicate 32 (.int .u8 0), 0⟩ := (k1.2 _ (by omega) (by omega)).trans h0
  have uB : Upd (· = c) H H2 := u1.trans k1
  have hn2 : H.length < H2.length := (List.getElem?_eq_some_iff.1 h2z).1
  obtain ⟨bc, vc, hcc, hxc⟩ := id k2
  unfold keyR
  generalize (octC s).2 = x
  (conv => whnf)
  ((conv in (_[_]?) => tactic => exact get_last _ _); (conv => whnf))
  refine ⟨fun h => ?_, fun h => ?_⟩
  rotate_left
  · have h : ¬ (x.length : Int) = 32 := h
    rw [if_neg (by omega)]
    have e1 : ((H2 ++ [PObj.mk 49 (List.replicate 32 (.int .u8 0)) 0]).set H2.length ⟨49, List.replicate 32 (.int .u8 0), 1⟩)[c]? = some ⟨126, [sl bc, .bool (octC s).1.isNone], vc⟩ := by
      rw [set_last, List.getElem?_append_left hle]; exact hcc
    have e2 : ∀ o, (((H2 ++ [PObj.mk 49 (List.replicate 32 (.int .u8 0)) 0]).set H2.length ⟨49, List.replicate 32 (.int .u8 0), 1⟩).set c o)[H2.length]? = some ⟨49, List.replicate 32 (.int .u8 0), 1⟩ := fun o => by
      rw [set_last, List.getElem?_set_ne (by omega)]; exact get_last _ _
    have e3 : ∀ o, (((H2 ++ [PObj.mk 49 (List.replicate 32 (.int .u8 0)) 0]).set H2.length ⟨49, List.replicate 32 (.int .u8 0), 1⟩).set c o)[H.length]? = some ⟨49, List.replicate 32 (.int .u8 0), 0⟩ := fun o => by
      rw [set_last, List.getElem?_set_ne (by omega), List.getElem?_append_left hn2]; exact h2z
    (conv => whnf)
    ((conv in (_[_]?) => tactic => exact e1); (conv => whnf))
    ((conv in (_[_]?) => tactic => exact e2 _); (conv => whnf))
    ((conv in (_[_]?) => tactic => exact e3 _); (conv => whnf))
    ((conv in (_[_]?) => tactic => exact get_set (e3 _)); (conv => whnf))
    have uF : Upd (· = c) H (((H2 ++ [PObj.mk 49 (List.replicate 32 (.int .u8 0)) 0]).set H2.length ⟨49, List.replicate 32 (.int .u8 0), 1⟩).set c ⟨126, [sl bc, .bool true], vc + 1⟩) := by
      rw [set_last]; exact (uB.push _).set (.inl rfl) _
    have eF : rcur (((H2 ++ [PObj.mk 49 (List.replicate 32 (.int .u8 0)) 0]).set H2.length ⟨49, List.replicate 32 (.int .u8 0), 1⟩).set c ⟨126, [sl bc, .bool true], vc + 1⟩) c none := ⟨bc, vc + 1, get_set e1, fun l h => by cases h⟩
    exact ⟨rfl, uF.set (.inr (Nat.le_refl _)) _, eF.set_ne (by omega) _⟩
  · have h : (x.length : Int) = 32 := h
    have hx : x.length = 32 := by omega
    rw [if_pos hx]
    (conv => whnf)
    refine loopK_of RwS (fun y => [(0, .ptr (some (c, 0))), (2, .ptr (some (H.length, 0))), (3, sl x), (4, .ptr (some (H2.length, 0))), (5, .int .i64 y.i)]) (fun y => H2 ++ [PObj.mk 49 (kcB x y.i) (y.i + 1)]) (fun y => y.i ≤ 32) (fun y => 32 - y.i)
      ⟨⟨0⟩, Nat.zero_le _, ⟨rfl, rfl, rfl, rfl, rfl, trivial⟩, set_last _ _ _⟩ ?_
    rintro ⟨i⟩ hi
    have hi : i ≤ 32 := hi
    (conv => whnf)
    refine ⟨fun h5 => ?_, fun h5 => ?_⟩
    · (conv => whnf)
      have h5 : (i : Int) < 32 := h5
      have hlt : i < x.length := by omega
      refine ⟨⟨by show (0 : Int) ≤ (i : Int); omega, by show (i : Int) < (x.length : Int); omega⟩, [byteC x[i]], at1 ?_, ?_⟩
      · show (x.map byteC)[(i : Int).toNat * 1]? = _
        rw [Int.toNat_natCast, Nat.mul_one, List.getElem?_map, List.getElem?_eq_getElem hlt]; rfl
      (conv => whnf)
      refine ⟨⟨by show (0 : Int) ≤ (i : Int); omega, by show (i : Int) < 32; omega⟩, ?_⟩
      (conv => whnf)
      ((conv in (_[_]?) => tactic => exact get_last _ _); (conv => whnf))
      ((conv in (Nat.ble _ _) => tactic => exact (show Nat.ble (0 + (i : Int).toNat * 1 + 1) (kcB x i).length = true by rw [Nat.ble_eq, kcB_len x i hx hi]; omega)); (conv => whnf))
      refine ⟨⟨i + 1⟩, by show i + 1 ≤ 32; omega, ⟨rfl, rfl, rfl, rfl, ?_, trivial⟩, ?_, by show 32 - (i + 1) < 32 - i; omega⟩
      · show PV.int _ (IntKind.i64.wrap ((i : Int) + 1)) = PV.int _ ((i + 1 : Nat) : Int)
        rw [wrap64 (by omega) (by omega)]; rfl
      · show (H2 ++ [PObj.mk 49 (kcB x i) (i + 1)]).set H2.length ⟨49, setCells (0 + (i : Int).toNat * 1) [byteC x[i]] (kcB x i), i + 1 + 1⟩ = H2 ++ [PObj.mk 49 (kcB x (i + 1)) (i + 1 + 1)]
        rw [set_last, Int.toNat_natCast, Nat.mul_one, Nat.zero_add, kcB_set x i hx (by omega) hlt]
    · (conv => whnf)
      have h5 : ¬ (i : Int) < 32 := h5
      have hi2 : i = 32 := by omega
      subst hi2
      rw [kcB_all x hx]
      have e3 : (H2 ++ [PObj.mk 49 (keyC (keyOf x)) 33])[H.length]? = some ⟨49, List.replicate 32 (.int .u8 0), 0⟩ := by
        rw [List.getElem?_append_left hn2]; exact h2z
      ((conv in (_[_]?) => tactic => exact get_last _ _); (conv => whnf))
      ((conv in (_[_]?) => tactic => exact e3); (conv => whnf))
      ((conv in (_[_]?) => tactic => exact get_set e3); (conv => whnf))
      exact ⟨rfl, (uB.push _).set (.inr (Nat.le_refl _)) _, (k2.keep (X := fun _ => False) ((Upd.refl H2).push _) (fun f => f)).set_ne (by omega) _⟩
end Go.Proofs.Tryz

set_option maxRecDepth 100000
set_option maxHeartbeats 4000000
set_option linter.unusedVariables false
set_option linter.unusedSimpArgs false
namespace Go.Proofs.Tryz
open Go Ps
theorem keyR_wrap (k : Nat → UInt8) (rest : List UInt8) : keyR (some (wrapB 4 (keyB k) ++ rest)) = (some rest, keyOf (keyB k)) := by
  unfold keyR
  rw [octC_wrap (keyB k) rest (by rw [keyB_len]; decide)]
  exact if_pos (keyB_len k)
theorem part_same_cells {p q : Prt} (h : p.same q) : p.cells = q.cells := by
  obtain ⟨h0, h1, h2, h3, h4, h5⟩ := h
  unfold Prt.cells
  rw [keyC_map, keyC_map]
  rw [h0, h1, h2, h3, h4, h5]
theorem okPrt_iff {p : Prt} {b : List UInt8} : okPrt p b = true ↔ isPartB p = true ∧ (partL p).length ≤ 2000 ∧ partL p = b := by
  unfold okPrt
  rw [Bool.and_eq_true, Bool.and_eq_true, decide_eq_true_eq, decide_eq_true_eq]
theorem okPrt_same {p q : Prt} {b : List UInt8} (h : p.same q) : okPrt p b = okPrt q b := by
  unfold okPrt
  rw [(part_same h).1, (part_same h).2]
def partRD (s : Option (List UInt8)) : Prt := ⟨(princR s).2.1, (princR s).2.2, (keyR (princR s).1).2, (txtC (keyR (princR s).1).1).2, (rintC (txtC (keyR (princR s).1).1).1).2, (rintC (rintC (txtC (keyR (princR s).1).1).1).1).2⟩
def partRE (s : Option (List UInt8)) : Option (List UInt8) := (rintC (rintC (txtC (keyR (princR s).1).1).1).1).1
def partR (b : List UInt8) : Option (List UInt8) := (elemC 99 (some b)).2
theorem partR_laid (p : Prt) (h : isPartB p = true) : (partRD (partR (partL p))).same p ∧ partRE (partR (partL p)) = some [] := by
  unfold isPartB at h
  simp only [Bool.and_eq_true] at h
  have gp := princ_len h.1.1
  have gt := isText_len h.1.2
  have g_st := inZ_le h.2.1
  have g_en := inZ_le h.2.2
  have e0 := princE_len p.r p.n
  have e1 := wrapB_len 4 (keyB p.k)
  have e2 := wrapB_len 27 p.tr
  have e3 := intE_len p.st
  have e4 := intE_len p.en
  have ek := keyB_len p.k
  have e0x := elemC_wrap 99 [princE p.r p.n, wrapB 4 (keyB p.k), wrapB 27 p.tr, intE p.st, intE p.en].flatten [] (by simp only [List.flatten_cons, List.flatten_nil, List.length_append, List.length_nil]; omega)
  rw [List.append_nil] at e0x
  have w0 := princR_wrap p.r p.n (wrapB 4 (keyB p.k) ++ (wrapB 27 p.tr ++ (intE p.st ++ (intE p.en ++ [])))) (by omega) (by omega)
  have w1 := keyR_wrap p.k (wrapB 27 p.tr ++ (intE p.st ++ (intE p.en ++ [])))
  have w2 := txtC_wrap p.tr (intE p.st ++ (intE p.en ++ [])) (by omega)
  have w3 := rintC_wrap p.st (by omega) (by omega) (intE p.en ++ [])
  have w4 := rintC_wrap p.en (by omega) (by omega) []
  unfold partR partL
  rw [e0x]
  show (partRD (some [princE p.r p.n, wrapB 4 (keyB p.k), wrapB 27 p.tr, intE p.st, intE p.en].flatten)).same p ∧ partRE (some [princE p.r p.n, wrapB 4 (keyB p.k), wrapB 27 p.tr, intE p.st, intE p.en].flatten) = some []
  simp only [List.flatten_cons, List.flatten_nil]
  unfold partRD partRE
  simp only [w0, w1, w2, w3, w4]
  exact ⟨⟨rfl, rfl, keyB_of _, rfl, rfl, rfl⟩, trivial⟩
def refPV (b : List UInt8) : PV := match !(partRE (partR b)).isNone && okPrt (partRD (partR b)) b with
  | true => .tup [.agg (partRD (partR b)).cells, .int .i64 0]
  | false => .tup [.agg zPrt.cells, .int .i64 2]
theorem refPV_eq (b : List UInt8) : refPV b = agPV (partC b) b := by
  cases h2 : okPrt (partC b) b
  · have h1 : okPrt (partRD (partR b)) b = false := by
      cases h1 : okPrt (partRD (partR b)) b
      · rfl
      · obtain ⟨k1, k2, k3⟩ := okPrt_iff.1 h1
        have e := partC_laid _ k1
        rw [k3] at e
        rw [okPrt_same e, h1] at h2
        cases h2
    rw [agPV_no h2]
    unfold refPV
    rw [h1, Bool.and_false]
  · obtain ⟨k1, k2, k3⟩ := okPrt_iff.1 h2
    have e := partR_laid _ k1
    rw [k3] at e
    have h1 : okPrt (partRD (partR b)) b = true := by rw [okPrt_same e.1, h2]
    rw [agPV_yes h2]
    unfold refPV
    rw [h1, e.2]
    show PV.tup [.agg (partRD (partR b)).cells, .int .i64 0] = _
    rw [part_same_cells e.1]
structure Aut where
  r : List UInt8
  n : List UInt8
  tm : Int
  sq : Int
def Aut.cells (p : Aut) : List PV := [.str p.r, .str p.n] ++ [.int .i64 p.tm] ++ [.int .i64 p.sq]
def isAutB (p : Aut) : Bool := isPrincB p.r p.n && inZ p.tm 0 1073741824 && inZ p.sq 0 1073741824
def autL (p : Aut) : List UInt8 := wrapB 98 [princE p.r p.n, intE p.tm, intE p.sq].flatten
def encAV (p : Aut) : PV := if isAutB p = true ∧ (autL p).length ≤ 2000 then .tup [sl (autL p), .int .i64 0] else .tup [sl [], .int .i64 1]
theorem encAV_yes {p : Aut} (h : isAutB p = true ∧ (autL p).length ≤ 2000) : encAV p = .tup [sl (autL p), .int .i64 0] := if_pos h
theorem encAV_no {p : Aut} (h : ¬ (isAutB p = true ∧ (autL p).length ≤ 2000)) : encAV p = .tup [sl [], .int .i64 1] := if_neg h
def autD (s : Option (List UInt8)) : Aut := ⟨(princC s).2.1, (princC s).2.2, (intC (princC s).1).2, (intC (intC (princC s).1).1).2⟩
def autC (b : List UInt8) : Aut := autD (elemC 98 (some b)).2
def Aut.same (p q : Aut) : Prop := p.r = q.r ∧ p.n = q.n ∧ p.tm = q.tm ∧ p.sq = q.sq
def zAut : Aut := ⟨[], [], 0, 0⟩
theorem aut_same {p q : Aut} (h : p.same q) : isAutB p = isAutB q ∧ autL p = autL q := by
  obtain ⟨h0, h1, h2, h3⟩ := h
  unfold isAutB autL
  rw [h0, h1, h2, h3]
  exact ⟨rfl, rfl⟩
theorem aut_len (p : Aut) : (autL p).length ≤ p.r.length + p.n.length + 100 := by
  have h0 := wrapB_len 98 [princE p.r p.n, intE p.tm, intE p.sq].flatten
  have e0 := princE_len p.r p.n
  have e1 := intE_len p.tm
  have e2 := intE_len p.sq
  simp only [List.flatten_cons, List.flatten_nil, List.length_append, List.length_nil] at h0
  unfold autL
  simp only [List.flatten_cons, List.flatten_nil]
  omega
def okAut (p : Aut) (b : List UInt8) : Bool := isAutB p && (decide ((autL p).length ≤ 2000) && decide (autL p = b))
def agAV (p : Aut) (b : List UInt8) : PV := match okAut p b with
  | true => .tup [.agg p.cells, .int .i64 0]
  | false => .tup [.agg zAut.cells, .int .i64 2]
theorem agAV_yes {p : Aut} {b : List UInt8} (h : okAut p b = true) : agAV p b = .tup [.agg p.cells, .int .i64 0] := by unfold agAV; rw [h]
theorem agAV_no {p : Aut} {b : List UInt8} (h : okAut p b = false) : agAV p b = .tup [.agg zAut.cells, .int .i64 2] := by unfold agAV; rw [h]
theorem aut_same_cells {p q : Aut} (h : p.same q) : p.cells = q.cells := by
  obtain ⟨h0, h1, h2, h3⟩ := h
  unfold Aut.cells
  rw [h0, h1, h2, h3]
theorem okAut_iff {p : Aut} {b : List UInt8} : okAut p b = true ↔ isAutB p = true ∧ (autL p).length ≤ 2000 ∧ autL p = b := by
  unfold okAut
  rw [Bool.and_eq_true, Bool.and_eq_true, decide_eq_true_eq, decide_eq_true_eq]
theorem okAut_same {p q : Aut} {b : List UInt8} (h : p.same q) : okAut p b = okAut q b := by
  unfold okAut
  rw [(aut_same h).1, (aut_same h).2]
def autRD (s : Option (List UInt8)) : Aut := ⟨(princR s).2.1, (princR s).2.2, (rintC (princR s).1).2, (rintC (rintC (princR s).1).1).2⟩
def autRE (s : Option (List UInt8)) : Option (List UInt8) := (rintC (rintC (princR s).1).1).1
def autR (b : List UInt8) : Option (List UInt8) := (elemC 98 (some b)).2
theorem autC_laid (p : Aut) (h : isAutB p = true) : (autC (autL p)).same p := by
  unfold isAutB at h
  simp only [Bool.and_eq_true] at h
  have gp := princ_len h.1.1
  have g_tm := inZ_le h.1.2
  have g_sq := inZ_le h.2
  have e0 := princE_len p.r p.n
  have e1 := intE_len p.tm
  have e2 := intE_len p.sq
  have e0x := elemC_wrap 98 [princE p.r p.n, intE p.tm, intE p.sq].flatten [] (by simp only [List.flatten_cons, List.flatten_nil, List.length_append, List.length_nil]; omega)
  rw [List.append_nil] at e0x
  have w0 := princC_wrap p.r p.n (intE p.tm ++ (intE p.sq ++ [])) (by omega) (by omega)
  have w1 := intC_wrap p.tm (by omega) (by omega) (intE p.sq ++ [])
  have w2 := intC_wrap p.sq (by omega) (by omega) []
  unfold autC autL
  rw [e0x]
  show (autD (some [princE p.r p.n, intE p.tm, intE p.sq].flatten)).same p
  simp only [List.flatten_cons, List.flatten_nil]
  unfold autD
  simp only [w0, w1, w2]
  exact ⟨rfl, rfl, rfl, rfl⟩
theorem autR_laid (p : Aut) (h : isAutB p = true) : (autRD (autR (autL p))).same p ∧ autRE (autR (autL p)) = some [] := by
  unfold isAutB at h
  simp only [Bool.and_eq_true] at h
  have gp := princ_len h.1.1
  have g_tm := inZ_le h.1.2
  have g_sq := inZ_le h.2
  have e0 := princE_len p.r p.n
  have e1 := intE_len p.tm
  have e2 := intE_len p.sq
  have e0x := elemC_wrap 98 [princE p.r p.n, intE p.tm, intE p.sq].flatten [] (by simp only [List.flatten_cons, List.flatten_nil, List.length_append, List.length_nil]; omega)
  rw [List.append_nil] at e0x
  have w0 := princR_wrap p.r p.n (intE p.tm ++ (intE p.sq ++ [])) (by omega) (by omega)
  have w1 := rintC_wrap p.tm (by omega) (by omega) (intE p.sq ++ [])
  have w2 := rintC_wrap p.sq (by omega) (by omega) []
  unfold autR autL
  rw [e0x]
  show (autRD (some [princE p.r p.n, intE p.tm, intE p.sq].flatten)).same p ∧ autRE (some [princE p.r p.n, intE p.tm, intE p.sq].flatten) = some []
  simp only [List.flatten_cons, List.flatten_nil]
  unfold autRD autRE
  simp only [w0, w1, w2]
  exact ⟨⟨rfl, rfl, rfl, rfl⟩, trivial⟩
def refAV (b : List UInt8) : PV := match okAut (autRD (autR b)) b with
  | true => .tup [.agg (autRD (autR b)).cells, .int .i64 0]
  | false => .tup [.agg zAut.cells, .int .i64 2]
theorem refAV_eq (b : List UInt8) : refAV b = agAV (autC b) b := by
  cases h2 : okAut (autC b) b
  · have h1 : okAut (autRD (autR b)) b = false := by
      cases h1 : okAut (autRD (autR b)) b
      · rfl
      · obtain ⟨k1, k2, k3⟩ := okAut_iff.1 h1
        have e := autC_laid _ k1
        rw [k3] at e
        rw [okAut_same e, h1] at h2
        cases h2
    rw [agAV_no h2]
    unfold refAV
    rw [h1]
  · obtain ⟨k1, k2, k3⟩ := okAut_iff.1 h2
    have e := autR_laid _ k1
    rw [k3] at e
    have h1 : okAut (autRD (autR b)) b = true := by rw [okAut_same e.1, h2]
    rw [agAV_yes h2]
    unfold refAV
    rw [h1]
    show PV.tup [.agg (autRD (autR b)).cells, .int .i64 0] = _
    rw [aut_same_cells e.1]
structure Rpt where
  k : Nat → UInt8
  r : List UInt8
  n : List UInt8
  st : Int
  en : Int
  nc : Int
def Rpt.cells (p : Rpt) : List PV := keyC p.k ++ [.str p.r, .str p.n] ++ [.int .i64 p.st] ++ [.int .i64 p.en] ++ [.int .i64 p.nc]
def isRptB (p : Rpt) : Bool := isPrincB p.r p.n && (inZ p.st 0 1073741824 && inZ p.en 0 1073741824) && inZ p.nc 0 1073741824
def rptL (p : Rpt) : List UInt8 := wrapB 122 [wrapB 4 (keyB p.k), princE p.r p.n, intE p.st, intE p.en, intE p.nc].flatten
def encRV (p : Rpt) : PV := if isRptB p = true ∧ (rptL p).length ≤ 2000 then .tup [sl (rptL p), .int .i64 0] else .tup [sl [], .int .i64 1]
theorem encRV_yes {p : Rpt} (h : isRptB p = true ∧ (rptL p).length ≤ 2000) : encRV p = .tup [sl (rptL p), .int .i64 0] := if_pos h
theorem encRV_no {p : Rpt} (h : ¬ (isRptB p = true ∧ (rptL p).length ≤ 2000)) : encRV p = .tup [sl [], .int .i64 1] := if_neg h
def rptD (s : Option (List UInt8)) : Rpt := ⟨keyOf (octC s).2, (princC (octC s).1).2.1, (princC (octC s).1).2.2, (intC (princC (octC s).1).1).2, (intC (intC (princC (octC s).1).1).1).2, (intC (intC (intC (princC (octC s).1).1).1).1).2⟩
def rptC (b : List UInt8) : Rpt := rptD (elemC 122 (some b)).2
def Rpt.same (p q : Rpt) : Prop := keyB p.k = keyB q.k ∧ p.r = q.r ∧ p.n = q.n ∧ p.st = q.st ∧ p.en = q.en ∧ p.nc = q.nc
def zRpt : Rpt := ⟨fun _ => 0, [], [], 0, 0, 0⟩
theorem rpt_same {p q : Rpt} (h : p.same q) : isRptB p = isRptB q ∧ rptL p = rptL q := by
  obtain ⟨h0, h1, h2, h3, h4, h5⟩ := h
  unfold isRptB rptL
  rw [h0, h1, h2, h3, h4, h5]
  exact ⟨rfl, rfl⟩
theorem rpt_len (p : Rpt) : (rptL p).length ≤ p.r.length + p.n.length + 100 := by
  have h0 := wrapB_len 122 [wrapB 4 (keyB p.k), princE p.r p.n, intE p.st, intE p.en, intE p.nc].flatten
  have e0 := wrapB_len 4 (keyB p.k)
  have e1 := princE_len p.r p.n
  have e2 := intE_len p.st
  have e3 := intE_len p.en
  have e4 := intE_len p.nc
  have ek := keyB_len p.k
  simp only [List.flatten_cons, List.flatten_nil, List.length_append, List.length_nil] at h0
  unfold rptL
  simp only [List.flatten_cons, List.flatten_nil]
  omega
def okRpt (p : Rpt) (b : List UInt8) : Bool := isRptB p && (decide ((rptL p).length ≤ 2000) && decide (rptL p = b))
def agRV (p : Rpt) (b : List UInt8) : PV := match okRpt p b with
  | true => .tup [.agg p.cells, .int .i64 0]
  | false => .tup [.agg zRpt.cells, .int .i64 2]
theorem agRV_yes {p : Rpt} {b : List UInt8} (h : okRpt p b = true) : agRV p b = .tup [.agg p.cells, .int .i64 0] := by unfold agRV; rw [h]
theorem agRV_no {p : Rpt} {b : List UInt8} (h : okRpt p b = false) : agRV p b = .tup [.agg zRpt.cells, .int .i64 2] := by unfold agRV; rw [h]
theorem rpt_same_cells {p q : Rpt} (h : p.same q) : p.cells = q.cells := by
  obtain ⟨h0, h1, h2, h3, h4, h5⟩ := h
  unfold Rpt.cells
  rw [keyC_map, keyC_map]
  rw [h0, h1, h2, h3, h4, h5]
theorem okRpt_iff {p : Rpt} {b : List UInt8} : okRpt p b = true ↔ isRptB p = true ∧ (rptL p).length ≤ 2000 ∧ rptL p = b := by
  unfold okRpt
  rw [Bool.and_eq_true, Bool.and_eq_true, decide_eq_true_eq, decide_eq_true_eq]
theorem okRpt_same {p q : Rpt} {b : List UInt8} (h : p.same q) : okRpt p b = okRpt q b := by
  unfold okRpt
  rw [(rpt_same h).1, (rpt_same h).2]
def rptRD (s : Option (List UInt8)) : Rpt := ⟨(keyR s).2, (princR (keyR s).1).2.1, (princR (keyR s).1).2.2, (rintC (princR (keyR s).1).1).2, (rintC (rintC (princR (keyR s).1).1).1).2, (rintC (rintC (rintC (princR (keyR s).1).1).1).1).2⟩
def rptRE (s : Option (List UInt8)) : Option (List UInt8) := (rintC (rintC (rintC (princR (keyR s).1).1).1).1).1
def rptR (b : List UInt8) : Option (List UInt8) := (elemC 122 (some b)).2
theorem rptC_laid (p : Rpt) (h : isRptB p = true) : (rptC (rptL p)).same p := by
  unfold isRptB at h
  simp only [Bool.and_eq_true] at h
  have gp := princ_len h.1.1
  have g_st := inZ_le h.1.2.1
  have g_en := inZ_le h.1.2.2
  have g_nc := inZ_le h.2
  have e0 := wrapB_len 4 (keyB p.k)
  have e1 := princE_len p.r p.n
  have e2 := intE_len p.st
  have e3 := intE_len p.en
  have e4 := intE_len p.nc
  have ek := keyB_len p.k
  have e0x := elemC_wrap 122 [wrapB 4 (keyB p.k), princE p.r p.n, intE p.st, intE p.en, intE p.nc].flatten [] (by simp only [List.flatten_cons, List.flatten_nil, List.length_append, List.length_nil]; omega)
  rw [List.append_nil] at e0x
  have w0 := octC_wrap (keyB p.k) (princE p.r p.n ++ (intE p.st ++ (intE p.en ++ (intE p.nc ++ [])))) (by omega)
  have w1 := princC_wrap p.r p.n (intE p.st ++ (intE p.en ++ (intE p.nc ++ []))) (by omega) (by omega)
  have w2 := intC_wrap p.st (by omega) (by omega) (intE p.en ++ (intE p.nc ++ []))
  have w3 := intC_wrap p.en (by omega) (by omega) (intE p.nc ++ [])
  have w4 := intC_wrap p.nc (by omega) (by omega) []
  unfold rptC rptL
  rw [e0x]
  show (rptD (some [wrapB 4 (keyB p.k), princE p.r p.n, intE p.st, intE p.en, intE p.nc].flatten)).same p
  simp only [List.flatten_cons, List.flatten_nil]
  unfold rptD
  simp only [w0, w1, w2, w3, w4]
  exact ⟨keyB_of _, rfl, rfl, rfl, rfl, rfl⟩
theorem rptR_laid (p : Rpt) (h : isRptB p = true) : (rptRD (rptR (rptL p))).same p ∧ rptRE (rptR (rptL p)) = some [] := by
  unfold isRptB at h
  simp only [Bool.and_eq_true] at h
  have gp := princ_len h.1.1
  have g_st := inZ_le h.1.2.1
  have g_en := inZ_le h.1.2.2
  have g_nc := inZ_le h.2
  have e0 := wrapB_len 4 (keyB p.k)
  have e1 := princE_len p.r p.n
  have e2 := intE_len p.st
  have e3 := intE_len p.en
  have e4 := intE_len p.nc
  have ek := keyB_len p.k
  have e0x := elemC_wrap 122 [wrapB 4 (keyB p.k), princE p.r p.n, intE p.st, intE p.en, intE p.nc].flatten [] (by simp only [List.flatten_cons, List.flatten_nil, List.length_append, List.length_nil]; omega)
  rw [List.append_nil] at e0x
  have w0 := keyR_wrap p.k (princE p.r p.n ++ (intE p.st ++ (intE p.en ++ (intE p.nc ++ []))))
  have w1 := princR_wrap p.r p.n (intE p.st ++ (intE p.en ++ (intE p.nc ++ []))) (by omega) (by omega)
  have w2 := rintC_wrap p.st (by omega) (by omega) (intE p.en ++ (intE p.nc ++ []))
  have w3 := rintC_wrap p.en (by omega) (by omega) (intE p.nc ++ [])
  have w4 := rintC_wrap p.nc (by omega) (by omega) []
  unfold rptR rptL
  rw [e0x]
  show (rptRD (some [wrapB 4 (keyB p.k), princE p.r p.n, intE p.st, intE p.en, intE p.nc].flatten)).same p ∧ rptRE (some [wrapB 4 (keyB p.k), princE p.r p.n, intE p.st, intE p.en, intE p.nc].flatten) = some []
  simp only [List.flatten_cons, List.flatten_nil]
  unfold rptRD rptRE
  simp only [w0, w1, w2, w3, w4]
  exact ⟨⟨keyB_of _, rfl, rfl, rfl, rfl, rfl⟩, trivial⟩
def refRV (b : List UInt8) : PV := match !(rptRE (rptR b)).isNone && okRpt (rptRD (rptR b)) b with
  | true => .tup [.agg (rptRD (rptR b)).cells, .int .i64 0]
  | false => .tup [.agg zRpt.cells, .int .i64 2]
theorem refRV_eq (b : List UInt8) : refRV b = agRV (rptC b) b := by
  cases h2 : okRpt (rptC b) b
  · have h1 : okRpt (rptRD (rptR b)) b = false := by
      cases h1 : okRpt (rptRD (rptR b)) b
      · rfl
      · obtain ⟨k1, k2, k3⟩ := okRpt_iff.1 h1
        have e := rptC_laid _ k1
        rw [k3] at e
        rw [okRpt_same e, h1] at h2
        cases h2
    rw [agRV_no h2]
    unfold refRV
    rw [h1, Bool.and_false]
  · obtain ⟨k1, k2, k3⟩ := okRpt_iff.1 h2
    have e := rptR_laid _ k1
    rw [k3] at e
    have h1 : okRpt (rptRD (rptR b)) b = true := by rw [okRpt_same e.1, h2]
    rw [agRV_yes h2]
    unfold refRV
    rw [h1, e.2]
    show PV.tup [.agg (rptRD (rptR b)).cells, .int .i64 0] = _
    rw [rpt_same_cells e.1]
end Go.Proofs.Tryz

set_option maxRecDepth 100000
set_option maxHeartbeats 4000000
set_option linter.unusedVariables false
set_option linter.unusedSimpArgs false
namespace Go.Proofs.Tryz
open Go Ps
theorem c18 (p : Aut) (hr : p.r.length ≤ 1000000) (hn : p.n.length ≤ 1000000) : Pure prog 18 [.agg p.cells] (encAV p) := by
  intro H
  have e0 := princE_len p.r p.n
  have e1 := intE_len p.tm
  have e2 := intE_len p.sq
  (refine callOk_of_pFun2 (tt := ttQ) (imm := imm18) follows ttQ_ok depth6 func18 (by kernel_rfl) ?_; (conv => whnf))
  refine drawK_pure2 (by kernel_rfl) ?_
  (conv => whnf)
  (apply Exists.intro; apply And.intro; (focus ((conv => whnf); first | exact ⟨rfl, rfl, trivial⟩ | (refine ⟨by omega, ?_⟩; (conv => whnf); exact ⟨rfl, rfl, trivial⟩))); (conv => whnf))
  (apply Exists.intro; apply And.intro; (focus ((conv => whnf); first | exact ⟨rfl, rfl, trivial⟩ | (refine ⟨by omega, ?_⟩; (conv => whnf); exact ⟨rfl, rfl, trivial⟩))); (conv => whnf))
  refine ⟨_, callK_pure (c61 p.r p.n (by omega) (by omega)) ⟨rfl, rfl, trivial⟩, ?_⟩
  (conv => whnf)
  cases f0 : isPrincB p.r p.n
  · skip
    (apply Exists.intro; apply And.intro; (focus ((conv => whnf); first | exact ⟨rfl, rfl, trivial⟩ | (refine ⟨by omega, ?_⟩; (conv => whnf); exact ⟨rfl, rfl, trivial⟩))); (conv => whnf))
    (apply Exists.intro; apply And.intro; (focus ((conv => whnf); first | exact ⟨rfl, rfl, trivial⟩ | (refine ⟨by omega, ?_⟩; (conv => whnf); exact ⟨rfl, rfl, trivial⟩))); (conv => whnf))
    (apply Exists.intro; apply And.intro; (focus ((conv => whnf); first | exact ⟨rfl, rfl, trivial⟩ | (refine ⟨by omega, ?_⟩; (conv => whnf); exact ⟨rfl, rfl, trivial⟩))); (conv => whnf))
    (apply Exists.intro; apply And.intro; (focus ((conv => whnf); first | exact ⟨rfl, rfl, trivial⟩ | (refine ⟨by omega, ?_⟩; (conv => whnf); exact ⟨rfl, rfl, trivial⟩))); (conv => whnf))
    (apply Exists.intro; apply And.intro; (focus ((conv => whnf); first | exact ⟨rfl, rfl, trivial⟩ | (refine ⟨by omega, ?_⟩; (conv => whnf); exact ⟨rfl, rfl, trivial⟩))); (conv => whnf))
    (apply Exists.intro; apply And.intro; (focus ((conv => whnf); first | exact ⟨rfl, rfl, trivial⟩ | (refine ⟨by omega, ?_⟩; (conv => whnf); exact ⟨rfl, rfl, trivial⟩))); (conv => whnf))
    (apply Exists.intro; apply And.intro; (focus ((conv => whnf); first | exact ⟨rfl, rfl, trivial⟩ | (refine ⟨by omega, ?_⟩; (conv => whnf); exact ⟨rfl, rfl, trivial⟩))); (conv => whnf))
    (apply Exists.intro; apply And.intro; (focus ((conv => whnf); first | exact ⟨rfl, rfl, trivial⟩ | (refine ⟨by omega, ?_⟩; (conv => whnf); exact ⟨rfl, rfl, trivial⟩))); (conv => whnf))
    (apply Exists.intro; apply And.intro; (focus ((conv => whnf); first | exact ⟨rfl, rfl, trivial⟩ | (refine ⟨by omega, ?_⟩; (conv => whnf); exact ⟨rfl, rfl, trivial⟩))); (conv => whnf))
    (apply Exists.intro; apply And.intro; (focus ((conv => whnf); first | exact ⟨rfl, rfl, trivial⟩ | (refine ⟨by omega, ?_⟩; (conv => whnf); exact ⟨rfl, rfl, trivial⟩))); (conv => whnf))
    (apply Exists.intro; apply And.intro; (focus ((conv => whnf); first | exact ⟨rfl, rfl, trivial⟩ | (refine ⟨by omega, ?_⟩; (conv => whnf); exact ⟨rfl, rfl, trivial⟩))); (conv => whnf))
    (apply Exists.intro; apply And.intro; (focus ((conv => whnf); first | exact ⟨rfl, rfl, trivial⟩ | (refine ⟨by omega, ?_⟩; (conv => whnf); exact ⟨rfl, rfl, trivial⟩))); (conv => whnf))
    (apply Exists.intro; apply And.intro; (focus ((conv => whnf); first | exact ⟨rfl, rfl, trivial⟩ | (refine ⟨by omega, ?_⟩; (conv => whnf); exact ⟨rfl, rfl, trivial⟩))); (conv => whnf))
    refine ⟨_, callK_pure (c65 p.r p.n hr hn) ⟨rfl, rfl, trivial⟩, ?_⟩
    (conv => whnf)
    (apply Exists.intro; apply And.intro; (focus ((conv => whnf); first | exact ⟨rfl, rfl, trivial⟩ | (refine ⟨by omega, ?_⟩; (conv => whnf); exact ⟨rfl, rfl, trivial⟩))); (conv => whnf))
    (apply Exists.intro; apply And.intro; (focus ((conv => whnf); first | exact ⟨rfl, rfl, trivial⟩ | (refine ⟨by omega, ?_⟩; (conv => whnf); exact ⟨rfl, rfl, trivial⟩))); (conv => whnf))
    refine ⟨_, callK_pure (c68 p.tm) ⟨rfl, rfl, trivial⟩, ?_⟩
    (conv => whnf)
    (apply Exists.intro; apply And.intro; (focus ((conv => whnf); first | exact ⟨rfl, rfl, trivial⟩ | (refine ⟨by omega, ?_⟩; (conv => whnf); exact ⟨rfl, rfl, trivial⟩))); (conv => whnf))
    (apply Exists.intro; apply And.intro; (focus ((conv => whnf); first | exact ⟨rfl, rfl, trivial⟩ | (refine ⟨by omega, ?_⟩; (conv => whnf); exact ⟨rfl, rfl, trivial⟩))); (conv => whnf))
    refine ⟨_, callK_pure (c68 p.sq) ⟨rfl, rfl, trivial⟩, ?_⟩
    (conv => whnf)
    (apply Exists.intro; apply And.intro; (focus ((conv => whnf); first | exact ⟨rfl, rfl, trivial⟩ | (refine ⟨by omega, ?_⟩; (conv => whnf); exact ⟨rfl, rfl, trivial⟩))); (conv => whnf))
    refine ⟨_, callK_pure (c64p 98 [princE p.r p.n, intE p.tm, intE p.sq] (by simp) (by simp only [List.flatten_cons, List.flatten_nil, List.length_append, List.length_nil]; omega)) ⟨rfl, rfl, trivial⟩, ?_⟩
    (conv => whnf)
    have hb : isAutB p = false := by unfold isAutB; simp only [f0, Bool.and_true, Bool.true_and, Bool.and_false, Bool.false_and]
    refine ⟨_, callK_pure ((c59 false (autL p)).of_eq (limV_no (fun h => by cases h.1))) ⟨rfl, rfl, trivial⟩, ?_⟩
    (conv => whnf)
    (apply Exists.intro; apply And.intro; (focus ((conv => whnf); first | exact ⟨rfl, rfl, trivial⟩ | (refine ⟨by omega, ?_⟩; (conv => whnf); exact ⟨rfl, rfl, trivial⟩))); (conv => whnf))
    (apply Exists.intro; apply And.intro; (focus ((conv => whnf); first | exact ⟨rfl, rfl, trivial⟩ | (refine ⟨by omega, ?_⟩; (conv => whnf); exact ⟨rfl, rfl, trivial⟩))); (conv => whnf))
    (apply Exists.intro; apply And.intro; (focus ((conv => whnf); first | exact ⟨rfl, rfl, trivial⟩ | (refine ⟨by omega, ?_⟩; (conv => whnf); exact ⟨rfl, rfl, trivial⟩))); (conv => whnf))
    (apply Exists.intro; apply And.intro; (focus ((conv => whnf); first | exact ⟨rfl, rfl, trivial⟩ | (refine ⟨by omega, ?_⟩; (conv => whnf); exact ⟨rfl, rfl, trivial⟩))); (conv => whnf))
    exact ⟨(encAV_no (fun h => by rw [hb] at h; cases h.1)).symm, rfl⟩
  (apply Exists.intro; apply And.intro; (focus ((conv => whnf); first | exact ⟨rfl, rfl, trivial⟩ | (refine ⟨by omega, ?_⟩; (conv => whnf); exact ⟨rfl, rfl, trivial⟩))); (conv => whnf))
  (apply Exists.intro; apply And.intro; (focus ((conv => whnf); first | exact ⟨rfl, rfl, trivial⟩ | (refine ⟨by omega, ?_⟩; (conv => whnf); exact ⟨rfl, rfl, trivial⟩))); (conv => whnf))
  (apply Exists.intro; apply And.intro; (focus ((conv => whnf); first | exact ⟨rfl, rfl, trivial⟩ | (refine ⟨by omega, ?_⟩; (conv => whnf); exact ⟨rfl, rfl, trivial⟩))); (conv => whnf))
  (apply Exists.intro; apply And.intro; (focus ((conv => whnf); first | exact ⟨rfl, rfl, trivial⟩ | (refine ⟨by omega, ?_⟩; (conv => whnf); exact ⟨rfl, rfl, trivial⟩))); (conv => whnf))
  refine ⟨_, callK_pure (c63a p.tm) ⟨rfl, rfl, trivial⟩, ?_⟩
  (conv => whnf)
  cases f1 : inZ p.tm 0 1073741824
  · skip
    (apply Exists.intro; apply And.intro; (focus ((conv => whnf); first | exact ⟨rfl, rfl, trivial⟩ | (refine ⟨by omega, ?_⟩; (conv => whnf); exact ⟨rfl, rfl, trivial⟩))); (conv => whnf))
    (apply Exists.intro; apply And.intro; (focus ((conv => whnf); first | exact ⟨rfl, rfl, trivial⟩ | (refine ⟨by omega, ?_⟩; (conv => whnf); exact ⟨rfl, rfl, trivial⟩))); (conv => whnf))
    (apply Exists.intro; apply And.intro; (focus ((conv => whnf); first | exact ⟨rfl, rfl, trivial⟩ | (refine ⟨by omega, ?_⟩; (conv => whnf); exact ⟨rfl, rfl, trivial⟩))); (conv => whnf))
    (apply Exists.intro; apply And.intro; (focus ((conv => whnf); first | exact ⟨rfl, rfl, trivial⟩ | (refine ⟨by omega, ?_⟩; (conv => whnf); exact ⟨rfl, rfl, trivial⟩))); (conv => whnf))
    (apply Exists.intro; apply And.intro; (focus ((conv => whnf); first | exact ⟨rfl, rfl, trivial⟩ | (refine ⟨by omega, ?_⟩; (conv => whnf); exact ⟨rfl, rfl, trivial⟩))); (conv => whnf))
    (apply Exists.intro; apply And.intro; (focus ((conv => whnf); first | exact ⟨rfl, rfl, trivial⟩ | (refine ⟨by omega, ?_⟩; (conv => whnf); exact ⟨rfl, rfl, trivial⟩))); (conv => whnf))
    (apply Exists.intro; apply And.intro; (focus ((conv => whnf); first | exact ⟨rfl, rfl, trivial⟩ | (refine ⟨by omega, ?_⟩; (conv => whnf); exact ⟨rfl, rfl, trivial⟩))); (conv => whnf))
    (apply Exists.intro; apply And.intro; (focus ((conv => whnf); first | exact ⟨rfl, rfl, trivial⟩ | (refine ⟨by omega, ?_⟩; (conv => whnf); exact ⟨rfl, rfl, trivial⟩))); (conv => whnf))
    refine ⟨_, callK_pure (c65 p.r p.n hr hn) ⟨rfl, rfl, trivial⟩, ?_⟩
    (conv => whnf)
    (apply Exists.intro; apply And.intro; (focus ((conv => whnf); first | exact ⟨rfl, rfl, trivial⟩ | (refine ⟨by omega, ?_⟩; (conv => whnf); exact ⟨rfl, rfl, trivial⟩))); (conv => whnf))
    (apply Exists.intro; apply And.intro; (focus ((conv => whnf); first | exact ⟨rfl, rfl, trivial⟩ | (refine ⟨by omega, ?_⟩; (conv => whnf); exact ⟨rfl, rfl, trivial⟩))); (conv => whnf))
    refine ⟨_, callK_pure (c68 p.tm) ⟨rfl, rfl, trivial⟩, ?_⟩
    (conv => whnf)
    (apply Exists.intro; apply And.intro; (focus ((conv => whnf); first | exact ⟨rfl, rfl, trivial⟩ | (refine ⟨by omega, ?_⟩; (conv => whnf); exact ⟨rfl, rfl, trivial⟩))); (conv => whnf))
    (apply Exists.intro; apply And.intro; (focus ((conv => whnf); first | exact ⟨rfl, rfl, trivial⟩ | (refine ⟨by omega, ?_⟩; (conv => whnf); exact ⟨rfl, rfl, trivial⟩))); (conv => whnf))
    refine ⟨_, callK_pure (c68 p.sq) ⟨rfl, rfl, trivial⟩, ?_⟩
    (conv => whnf)
    (apply Exists.intro; apply And.intro; (focus ((conv => whnf); first | exact ⟨rfl, rfl, trivial⟩ | (refine ⟨by omega, ?_⟩; (conv => whnf); exact ⟨rfl, rfl, trivial⟩))); (conv => whnf))
    refine ⟨_, callK_pure (c64p 98 [princE p.r p.n, intE p.tm, intE p.sq] (by simp) (by simp only [List.flatten_cons, List.flatten_nil, List.length_append, List.length_nil]; omega)) ⟨rfl, rfl, trivial⟩, ?_⟩
    (conv => whnf)
    have hb : isAutB p = false := by unfold isAutB; simp only [f0, f1, Bool.and_true, Bool.true_and, Bool.and_false, Bool.false_and]
    refine ⟨_, callK_pure ((c59 false (autL p)).of_eq (limV_no (fun h => by cases h.1))) ⟨rfl, rfl, trivial⟩, ?_⟩
    (conv => whnf)
    (apply Exists.intro; apply And.intro; (focus ((conv => whnf); first | exact ⟨rfl, rfl, trivial⟩ | (refine ⟨by omega, ?_⟩; (conv => whnf); exact ⟨rfl, rfl, trivial⟩))); (conv => whnf))
    (apply Exists.intro; apply And.intro; (focus ((conv => whnf); first | exact ⟨rfl, rfl, trivial⟩ | (refine ⟨by omega, ?_⟩; (conv => whnf); exact ⟨rfl, rfl, trivial⟩))); (conv => whnf))
    (apply Exists.intro; apply And.intro; (focus ((conv => whnf); first | exact ⟨rfl, rfl, trivial⟩ | (refine ⟨by omega, ?_⟩; (conv => whnf); exact ⟨rfl, rfl, trivial⟩))); (conv => whnf))
    (apply Exists.intro; apply And.intro; (focus ((conv => whnf); first | exact ⟨rfl, rfl, trivial⟩ | (refine ⟨by omega, ?_⟩; (conv => whnf); exact ⟨rfl, rfl, trivial⟩))); (conv => whnf))
    exact ⟨(encAV_no (fun h => by rw [hb] at h; cases h.1)).symm, rfl⟩
  (apply Exists.intro; apply And.intro; (focus ((conv => whnf); first | exact ⟨rfl, rfl, trivial⟩ | (refine ⟨by omega, ?_⟩; (conv => whnf); exact ⟨rfl, rfl, trivial⟩))); (conv => whnf))
  (apply Exists.intro; apply And.intro; (focus ((conv => whnf); first | exact ⟨rfl, rfl, trivial⟩ | (refine ⟨by omega, ?_⟩; (conv => whnf); exact ⟨rfl, rfl, trivial⟩))); (conv => whnf))
  (apply Exists.intro; apply And.intro; (focus ((conv => whnf); first | exact ⟨rfl, rfl, trivial⟩ | (refine ⟨by omega, ?_⟩; (conv => whnf); exact ⟨rfl, rfl, trivial⟩))); (conv => whnf))
  (apply Exists.intro; apply And.intro; (focus ((conv => whnf); first | exact ⟨rfl, rfl, trivial⟩ | (refine ⟨by omega, ?_⟩; (conv => whnf); exact ⟨rfl, rfl, trivial⟩))); (conv => whnf))
  refine ⟨_, callK_pure (c75 p.sq) ⟨rfl, rfl, trivial⟩, ?_⟩
  (conv => whnf)
  cases f2 : inZ p.sq 0 1073741824
  · skip
    (apply Exists.intro; apply And.intro; (focus ((conv => whnf); first | exact ⟨rfl, rfl, trivial⟩ | (refine ⟨by omega, ?_⟩; (conv => whnf); exact ⟨rfl, rfl, trivial⟩))); (conv => whnf))
    (apply Exists.intro; apply And.intro; (focus ((conv => whnf); first | exact ⟨rfl, rfl, trivial⟩ | (refine ⟨by omega, ?_⟩; (conv => whnf); exact ⟨rfl, rfl, trivial⟩))); (conv => whnf))
    (apply Exists.intro; apply And.intro; (focus ((conv => whnf); first | exact ⟨rfl, rfl, trivial⟩ | (refine ⟨by omega, ?_⟩; (conv => whnf); exact ⟨rfl, rfl, trivial⟩))); (conv => whnf))
    refine ⟨_, callK_pure (c65 p.r p.n hr hn) ⟨rfl, rfl, trivial⟩, ?_⟩
    (conv => whnf)
    (apply Exists.intro; apply And.intro; (focus ((conv => whnf); first | exact ⟨rfl, rfl, trivial⟩ | (refine ⟨by omega, ?_⟩; (conv => whnf); exact ⟨rfl, rfl, trivial⟩))); (conv => whnf))
    (apply Exists.intro; apply And.intro; (focus ((conv => whnf); first | exact ⟨rfl, rfl, trivial⟩ | (refine ⟨by omega, ?_⟩; (conv => whnf); exact ⟨rfl, rfl, trivial⟩))); (conv => whnf))
    refine ⟨_, callK_pure (c68 p.tm) ⟨rfl, rfl, trivial⟩, ?_⟩
    (conv => whnf)
    (apply Exists.intro; apply And.intro; (focus ((conv => whnf); first | exact ⟨rfl, rfl, trivial⟩ | (refine ⟨by omega, ?_⟩; (conv => whnf); exact ⟨rfl, rfl, trivial⟩))); (conv => whnf))
    (apply Exists.intro; apply And.intro; (focus ((conv => whnf); first | exact ⟨rfl, rfl, trivial⟩ | (refine ⟨by omega, ?_⟩; (conv => whnf); exact ⟨rfl, rfl, trivial⟩))); (conv => whnf))
    refine ⟨_, callK_pure (c68 p.sq) ⟨rfl, rfl, trivial⟩, ?_⟩
    (conv => whnf)
    (apply Exists.intro; apply And.intro; (focus ((conv => whnf); first | exact ⟨rfl, rfl, trivial⟩ | (refine ⟨by omega, ?_⟩; (conv => whnf); exact ⟨rfl, rfl, trivial⟩))); (conv => whnf))
    refine ⟨_, callK_pure (c64p 98 [princE p.r p.n, intE p.tm, intE p.sq] (by simp) (by simp only [List.flatten_cons, List.flatten_nil, List.length_append, List.length_nil]; omega)) ⟨rfl, rfl, trivial⟩, ?_⟩
    (conv => whnf)
    have hb : isAutB p = false := by unfold isAutB; simp only [f0, f1, f2, Bool.and_true, Bool.true_and, Bool.and_false, Bool.false_and]
    refine ⟨_, callK_pure ((c59 false (autL p)).of_eq (limV_no (fun h => by cases h.1))) ⟨rfl, rfl, trivial⟩, ?_⟩
    (conv => whnf)
    (apply Exists.intro; apply And.intro; (focus ((conv => whnf); first | exact ⟨rfl, rfl, trivial⟩ | (refine ⟨by omega, ?_⟩; (conv => whnf); exact ⟨rfl, rfl, trivial⟩))); (conv => whnf))
    (apply Exists.intro; apply And.intro; (focus ((conv => whnf); first | exact ⟨rfl, rfl, trivial⟩ | (refine ⟨by omega, ?_⟩; (conv => whnf); exact ⟨rfl, rfl, trivial⟩))); (conv => whnf))
    (apply Exists.intro; apply And.intro; (focus ((conv => whnf); first | exact ⟨rfl, rfl, trivial⟩ | (refine ⟨by omega, ?_⟩; (conv => whnf); exact ⟨rfl, rfl, trivial⟩))); (conv => whnf))
    (apply Exists.intro; apply And.intro; (focus ((conv => whnf); first | exact ⟨rfl, rfl, trivial⟩ | (refine ⟨by omega, ?_⟩; (conv => whnf); exact ⟨rfl, rfl, trivial⟩))); (conv => whnf))
    exact ⟨(encAV_no (fun h => by rw [hb] at h; cases h.1)).symm, rfl⟩
  (apply Exists.intro; apply And.intro; (focus ((conv => whnf); first | exact ⟨rfl, rfl, trivial⟩ | (refine ⟨by omega, ?_⟩; (conv => whnf); exact ⟨rfl, rfl, trivial⟩))); (conv => whnf))
  (apply Exists.intro; apply And.intro; (focus ((conv => whnf); first | exact ⟨rfl, rfl, trivial⟩ | (refine ⟨by omega, ?_⟩; (conv => whnf); exact ⟨rfl, rfl, trivial⟩))); (conv => whnf))
  (apply Exists.intro; apply And.intro; (focus ((conv => whnf); first | exact ⟨rfl, rfl, trivial⟩ | (refine ⟨by omega, ?_⟩; (conv => whnf); exact ⟨rfl, rfl, trivial⟩))); (conv => whnf))
  refine ⟨_, callK_pure (c65 p.r p.n hr hn) ⟨rfl, rfl, trivial⟩, ?_⟩
  (conv => whnf)
  (apply Exists.intro; apply And.intro; (focus ((conv => whnf); first | exact ⟨rfl, rfl, trivial⟩ | (refine ⟨by omega, ?_⟩; (conv => whnf); exact ⟨rfl, rfl, trivial⟩))); (conv => whnf))
  (apply Exists.intro; apply And.intro; (focus ((conv => whnf); first | exact ⟨rfl, rfl, trivial⟩ | (refine ⟨by omega, ?_⟩; (conv => whnf); exact ⟨rfl, rfl, trivial⟩))); (conv => whnf))
  refine ⟨_, callK_pure (c68 p.tm) ⟨rfl, rfl, trivial⟩, ?_⟩
  (conv => whnf)
  (apply Exists.intro; apply And.intro; (focus ((conv => whnf); first | exact ⟨rfl, rfl, trivial⟩ | (refine ⟨by omega, ?_⟩; (conv => whnf); exact ⟨rfl, rfl, trivial⟩))); (conv => whnf))
  (apply Exists.intro; apply And.intro; (focus ((conv => whnf); first | exact ⟨rfl, rfl, trivial⟩ | (refine ⟨by omega, ?_⟩; (conv => whnf); exact ⟨rfl, rfl, trivial⟩))); (conv => whnf))
  refine ⟨_, callK_pure (c68 p.sq) ⟨rfl, rfl, trivial⟩, ?_⟩
  (conv => whnf)
  (apply Exists.intro; apply And.intro; (focus ((conv => whnf); first | exact ⟨rfl, rfl, trivial⟩ | (refine ⟨by omega, ?_⟩; (conv => whnf); exact ⟨rfl, rfl, trivial⟩))); (conv => whnf))
  refine ⟨_, callK_pure (c64p 98 [princE p.r p.n, intE p.tm, intE p.sq] (by simp) (by simp only [List.flatten_cons, List.flatten_nil, List.length_append, List.length_nil]; omega)) ⟨rfl, rfl, trivial⟩, ?_⟩
  (conv => whnf)
  have hb : isAutB p = true := by unfold isAutB; simp only [f0, f1, f2, Bool.and_true, Bool.true_and, Bool.and_false, Bool.false_and]
  by_cases hlen : (autL p).length ≤ 2000
  · have hlim := limV_yes (ok := true) (b := autL p) ⟨rfl, hlen⟩
    refine ⟨_, callK_pure ((c59 true (autL p)).of_eq hlim) ⟨rfl, rfl, trivial⟩, ?_⟩
    (conv => whnf)
    (apply Exists.intro; apply And.intro; (focus ((conv => whnf); first | exact ⟨rfl, rfl, trivial⟩ | (refine ⟨by omega, ?_⟩; (conv => whnf); exact ⟨rfl, rfl, trivial⟩))); (conv => whnf))
    (apply Exists.intro; apply And.intro; (focus ((conv => whnf); first | exact ⟨rfl, rfl, trivial⟩ | (refine ⟨by omega, ?_⟩; (conv => whnf); exact ⟨rfl, rfl, trivial⟩))); (conv => whnf))
    (apply Exists.intro; apply And.intro; (focus ((conv => whnf); first | exact ⟨rfl, rfl, trivial⟩ | (refine ⟨by omega, ?_⟩; (conv => whnf); exact ⟨rfl, rfl, trivial⟩))); (conv => whnf))
    (apply Exists.intro; apply And.intro; (focus ((conv => whnf); first | exact ⟨rfl, rfl, trivial⟩ | (refine ⟨by omega, ?_⟩; (conv => whnf); exact ⟨rfl, rfl, trivial⟩))); (conv => whnf))
    exact ⟨(encAV_yes ⟨hb, hlen⟩).symm, rfl⟩
  · have hlim := limV_no (ok := true) (b := autL p) (fun h => hlen h.2)
    refine ⟨_, callK_pure ((c59 true (autL p)).of_eq hlim) ⟨rfl, rfl, trivial⟩, ?_⟩
    (conv => whnf)
    (apply Exists.intro; apply And.intro; (focus ((conv => whnf); first | exact ⟨rfl, rfl, trivial⟩ | (refine ⟨by omega, ?_⟩; (conv => whnf); exact ⟨rfl, rfl, trivial⟩))); (conv => whnf))
    (apply Exists.intro; apply And.intro; (focus ((conv => whnf); first | exact ⟨rfl, rfl, trivial⟩ | (refine ⟨by omega, ?_⟩; (conv => whnf); exact ⟨rfl, rfl, trivial⟩))); (conv => whnf))
    (apply Exists.intro; apply And.intro; (focus ((conv => whnf); first | exact ⟨rfl, rfl, trivial⟩ | (refine ⟨by omega, ?_⟩; (conv => whnf); exact ⟨rfl, rfl, trivial⟩))); (conv => whnf))
    (apply Exists.intro; apply And.intro; (focus ((conv => whnf); first | exact ⟨rfl, rfl, trivial⟩ | (refine ⟨by omega, ?_⟩; (conv => whnf); exact ⟨rfl, rfl, trivial⟩))); (conv => whnf))
    exact ⟨(encAV_no (fun h => hlen h.2)).symm, rfl⟩
theorem c84x (p : Aut) (b : List UInt8) (hr : p.r.length ≤ 1000000) (hn : p.n.length ≤ 1000000) (H : PH) :
    CallOk prog 84 [sl b, .agg p.cells, .func 18 [] []] H fun r H' => r = agAV p b ∧ ∃ ext, H' = H ++ ext := by
  (refine callOk_of_pFun2 (tt := ttQ) (imm := imm84) follows ttQ_ok depth6 func84 (by kernel_rfl) ?_; (conv => whnf))
  have ext3 : ∀ a b c : PObj, ∃ ext, ((H ++ [a] ++ [b]).set H.length c) = H ++ ext := fun a b c => (((Ext.refl H).push _).push _).set (Nat.le_refl _) _
  by_cases hb : isAutB p = true ∧ (autL p).length ≤ 2000
  · refine callK_pure ((c18 p hr hn).of_eq (encAV_yes hb)) ?_
    (conv => whnf)
    refine ⟨fun _ => ?_, fun h => absurd rfl h⟩
    (conv => whnf)
    refine callK_pure (c106 (autL p) b) ?_
    cases hq : decide (autL p = b)
    · have hk : okAut p b = false := by unfold okAut; rw [hq, Bool.and_false, Bool.and_false]
      rw [agAV_no hk]
      (conv => whnf)
      ((conv in (_[_]?) => tactic => exact get_last _ _); (conv => whnf))
      ((conv in (_[_]?) => tactic => exact get_mid _ _ _); (conv => whnf))
      ((conv in (_[_]?) => tactic => exact get_set (get_mid _ _ _)); (conv => whnf))
      exact ⟨rfl, ext3 _ _ _⟩
    · have hk : okAut p b = true := by unfold okAut; rw [hq, hb.1, decide_eq_true hb.2]; rfl
      rw [agAV_yes hk]
      (conv => whnf)
      ((conv in (_[_]?) => tactic => exact get_mid _ _ _); (conv => whnf))
      ((conv in (_[_]?) => tactic => exact get_set (get_mid _ _ _)); (conv => whnf))
      exact ⟨rfl, ext3 _ _ _⟩
  · refine callK_pure ((c18 p hr hn).of_eq (encAV_no hb)) ?_
    have hk : okAut p b = false := by
      unfold okAut
      cases h1 : isAutB p
      · rfl
      · rw [decide_eq_false (fun h2 => hb ⟨h1, h2⟩)]; rfl
    rw [agAV_no hk]
    (conv => whnf)
    refine ⟨fun h => absurd h (by decide), fun _ => ?_⟩
    (conv => whnf)
    ((conv in (_[_]?) => tactic => exact get_last _ _); (conv => whnf))
    ((conv in (_[_]?) => tactic => exact get_mid _ _ _); (conv => whnf))
    ((conv in (_[_]?) => tactic => exact get_set (get_mid _ _ _)); (conv => whnf))
    exact ⟨rfl, ext3 _ _ _⟩
theorem agAV_old (p : Aut) (b : List UInt8) : oldR (agAV p b) = true := by unfold agAV; cases okAut p b <;> rfl
theorem c84 (p : Aut) (b : List UInt8) (hr : p.r.length ≤ 1000000) (hn : p.n.length ≤ 1000000) : Pure prog 84 [sl b, .agg p.cells, .func 18 [] []] (agAV p b) := Pure.of_gc (agAV_old p b) (c84x p b hr hn)
theorem c24x (b : List UInt8) (hb : b.length ≤ 140737488355328) (H : PH) : CallOk prog 24 [sl b] H fun r H' => r = agAV (autC b) b ∧ ∃ ext, H' = H ++ ext := by
  (refine callOk_of_pFun2 (tt := ttQ) (imm := imm24) follows ttQ_ok depth6 func24 (by kernel_rfl) ?_; (conv => whnf))
  refine callK_of (c76 b 98 hb (H ++ [PObj.mk 53 zAut.cells 0])) ?_
  rintro _ H2 ⟨d, rfl, k1, k2, k3⟩
  obtain ⟨o1, o2, e1, e2, e3, e4⟩ := dec_begin k1 k2 k3
  have hs0 : ∀ l, (elemC 98 (some b)).2 = some l → l.length ≤ 140737488355328 := fun l h => ((elemC_len (tag := 98) (fun l h => by cases h; exact hb)).2 l h).1
  show _
  unfold autC
  generalize (elemC 98 (some b)).2 = s at hs0 k3 e3
  (conv => whnf)
  ((conv in (_[_]?) => tactic => exact get_last _ _); (conv => whnf))
  ((conv in (_[_]?) => tactic => exact e2); (conv => whnf))
  have l0 : ∀ l, s = some l → l.length ≤ 140737488355328 := hs0
  refine callK_of (c77 d s _ e3 l0) ?_
  rintro _ K0 ⟨rfl, u0, g0⟩
  have D1 := dec_part o1 o2 e1 e2 e4 u0 g0 (Aut.mk (princC s).2.1 (princC s).2.2 0 0).cells 1
  (conv => whnf)
  ((conv in (_[_]?) => tactic => exact get_last _ _); (conv => whnf))
  have l1 : ∀ l, (princC s).1 = some l → l.length ≤ 140737488355328 := (elemC_len (tag := 48) l0).1
  ((conv in (_[_]?) => tactic => exact D1.c); (conv => whnf))
  refine callK_of (c80 d (princC s).1 _ D1.cur l1) ?_
  rintro _ K1 ⟨rfl, u1, g1⟩
  have D2 := D1.call u1 g1
  (conv => whnf)
  ((conv in (_[_]?) => tactic => exact D2.p); (conv => whnf))
  have D3 := D2.store (Aut.mk (princC s).2.1 (princC s).2.2 (intC (princC s).1).2 0).cells 2
  have l2 : ∀ l, (intC (princC s).1).1 = some l → l.length ≤ 140737488355328 := intC_len l1
  ((conv in (_[_]?) => tactic => exact D3.c); (conv => whnf))
  refine callK_of (c80 d (intC (princC s).1).1 _ D3.cur l2) ?_
  rintro _ K2 ⟨rfl, u2, g2⟩
  have D4 := D3.call u2 g2
  (conv => whnf)
  ((conv in (_[_]?) => tactic => exact D4.p); (conv => whnf))
  have D5 := D4.store (Aut.mk (princC s).2.1 (princC s).2.2 (intC (princC s).1).2 (intC (intC (princC s).1).1).2).cells 3
  ((conv in (_[_]?) => tactic => exact D5.p); (conv => whnf))
  refine callK_pure (c84 (autD s) b (by unfold autD; exact Nat.le_trans (small _ _) (by decide)) (by unfold autD; exact Nat.le_trans (small _ _) (by decide))) ?_
  cases hk : okAut (autD s) b
  · rw [agAV_no hk]
    (conv => whnf)
    ((conv in (_[_]?) => tactic => exact D5.z); (conv => whnf))
    ((conv in (_[_]?) => tactic => exact get_set D5.z); (conv => whnf))
    exact ⟨rfl, Upd.ext (D5.up.set (.inr (Nat.le_refl _)) _)⟩
  · rw [agAV_yes hk]
    (conv => whnf)
    ((conv in (_[_]?) => tactic => exact D5.z); (conv => whnf))
    ((conv in (_[_]?) => tactic => exact get_set D5.z); (conv => whnf))
    exact ⟨rfl, Upd.ext (D5.up.set (.inr (Nat.le_refl _)) _)⟩
theorem c24 (b : List UInt8) (hb : b.length ≤ 140737488355328) : Pure prog 24 [sl b] (agAV (autC b) b) := Pure.of_gc (agAV_old _ b) (c24x b hb)
theorem c20 (p : Rpt) (hr : p.r.length ≤ 1000000) (hn : p.n.length ≤ 1000000) : Pure prog 20 [.agg p.cells] (encRV p) := by
  intro H
  have e0 := wrapB_len 4 (keyB p.k)
  have e1 := princE_len p.r p.n
  have e2 := intE_len p.st
  have e3 := intE_len p.en
  have e4 := intE_len p.nc
  have ek := keyB_len p.k
  (refine callOk_of_pFun2 (tt := ttQ) (imm := imm20) follows ttQ_ok depth6 func20 (by kernel_rfl) ?_; (conv => whnf))
  refine drawK_pure2 (by kernel_rfl) ?_
  (conv => whnf)
  (apply Exists.intro; apply And.intro; (focus ((conv => whnf); first | exact ⟨rfl, rfl, trivial⟩ | (refine ⟨by omega, ?_⟩; (conv => whnf); exact ⟨rfl, rfl, trivial⟩))); (conv => whnf))
  (apply Exists.intro; apply And.intro; (focus ((conv => whnf); first | exact ⟨rfl, rfl, trivial⟩ | (refine ⟨by omega, ?_⟩; (conv => whnf); exact ⟨rfl, rfl, trivial⟩))); (conv => whnf))
  refine ⟨_, callK_pure (c61 p.r p.n (by omega) (by omega)) ⟨rfl, rfl, trivial⟩, ?_⟩
  (conv => whnf)
  cases f0 : isPrincB p.r p.n
  · skip
    (apply Exists.intro; apply And.intro; (focus ((conv => whnf); first | exact ⟨rfl, rfl, trivial⟩ | (refine ⟨by omega, ?_⟩; (conv => whnf); exact ⟨rfl, rfl, trivial⟩))); (conv => whnf))
    (apply Exists.intro; apply And.intro; (focus ((conv => whnf); first | exact ⟨rfl, rfl, trivial⟩ | (refine ⟨by omega, ?_⟩; (conv => whnf); exact ⟨rfl, rfl, trivial⟩))); (conv => whnf))
    (apply Exists.intro; apply And.intro; (focus ((conv => whnf); first | exact ⟨rfl, rfl, trivial⟩ | (refine ⟨by omega, ?_⟩; (conv => whnf); exact ⟨rfl, rfl, trivial⟩))); (conv => whnf))
    (apply Exists.intro; apply And.intro; (focus ((conv => whnf); first | exact ⟨rfl, rfl, trivial⟩ | (refine ⟨by omega, ?_⟩; (conv => whnf); exact ⟨rfl, rfl, trivial⟩))); (conv => whnf))
    (apply Exists.intro; apply And.intro; (focus ((conv => whnf); first | exact ⟨rfl, rfl, trivial⟩ | (refine ⟨by omega, ?_⟩; (conv => whnf); exact ⟨rfl, rfl, trivial⟩))); (conv => whnf))
    (apply Exists.intro; apply And.intro; (focus ((conv => whnf); first | exact ⟨rfl, rfl, trivial⟩ | (refine ⟨by omega, ?_⟩; (conv => whnf); exact ⟨rfl, rfl, trivial⟩))); (conv => whnf))
    (apply Exists.intro; apply And.intro; (focus ((conv => whnf); first | exact ⟨rfl, rfl, trivial⟩ | (refine ⟨by omega, ?_⟩; (conv => whnf); exact ⟨rfl, rfl, trivial⟩))); (conv => whnf))
    (apply Exists.intro; apply And.intro; (focus ((conv => whnf); first | exact ⟨rfl, rfl, trivial⟩ | (refine ⟨by omega, ?_⟩; (conv => whnf); exact ⟨rfl, rfl, trivial⟩))); (conv => whnf))
    (apply Exists.intro; apply And.intro; (focus ((conv => whnf); first | exact ⟨rfl, rfl, trivial⟩ | (refine ⟨by omega, ?_⟩; (conv => whnf); exact ⟨rfl, rfl, trivial⟩))); (conv => whnf))
    (apply Exists.intro; apply And.intro; (focus ((conv => whnf); first | exact ⟨rfl, rfl, trivial⟩ | (refine ⟨by omega, ?_⟩; (conv => whnf); exact ⟨rfl, rfl, trivial⟩))); (conv => whnf))
    (apply Exists.intro; apply And.intro; (focus ((conv => whnf); first | exact ⟨rfl, rfl, trivial⟩ | (refine ⟨by omega, ?_⟩; (conv => whnf); exact ⟨rfl, rfl, trivial⟩))); (conv => whnf))
    (apply Exists.intro; apply And.intro; (focus ((conv => whnf); first | exact ⟨rfl, rfl, trivial⟩ | (refine ⟨by omega, ?_⟩; (conv => whnf); exact ⟨rfl, rfl, trivial⟩))); (conv => whnf))
    (apply Exists.intro; apply And.intro; (focus ((conv => whnf); first | exact ⟨rfl, rfl, trivial⟩ | (refine ⟨by omega, ?_⟩; (conv => whnf); exact ⟨rfl, rfl, trivial⟩))); (conv => whnf))
    (apply Exists.intro; apply And.intro; (focus ((conv => whnf); first | exact ⟨rfl, rfl, trivial⟩ | (refine ⟨by omega, ?_⟩; (conv => whnf); exact ⟨rfl, rfl, trivial⟩))); (conv => whnf))
    (apply Exists.intro; apply And.intro; (focus ((conv => whnf); first | exact ⟨rfl, rfl, trivial⟩ | (refine ⟨by omega, ?_⟩; (conv => whnf); exact ⟨rfl, rfl, trivial⟩))); (conv => whnf))
    refine ⟨_, callK_pure (c66p (keyB p.k) (by omega)) ⟨rfl, rfl, trivial⟩, ?_⟩
    (conv => whnf)
    (apply Exists.intro; apply And.intro; (focus ((conv => whnf); first | exact ⟨rfl, rfl, trivial⟩ | (refine ⟨by omega, ?_⟩; (conv => whnf); exact ⟨rfl, rfl, trivial⟩))); (conv => whnf))
    (apply Exists.intro; apply And.intro; (focus ((conv => whnf); first | exact ⟨rfl, rfl, trivial⟩ | (refine ⟨by omega, ?_⟩; (conv => whnf); exact ⟨rfl, rfl, trivial⟩))); (conv => whnf))
    refine ⟨_, callK_pure (c65 p.r p.n hr hn) ⟨rfl, rfl, trivial⟩, ?_⟩
    (conv => whnf)
    (apply Exists.intro; apply And.intro; (focus ((conv => whnf); first | exact ⟨rfl, rfl, trivial⟩ | (refine ⟨by omega, ?_⟩; (conv => whnf); exact ⟨rfl, rfl, trivial⟩))); (conv => whnf))
    (apply Exists.intro; apply And.intro; (focus ((conv => whnf); first | exact ⟨rfl, rfl, trivial⟩ | (refine ⟨by omega, ?_⟩; (conv => whnf); exact ⟨rfl, rfl, trivial⟩))); (conv => whnf))
    refine ⟨_, callK_pure (c68 p.st) ⟨rfl, rfl, trivial⟩, ?_⟩
    (conv => whnf)
    (apply Exists.intro; apply And.intro; (focus ((conv => whnf); first | exact ⟨rfl, rfl, trivial⟩ | (refine ⟨by omega, ?_⟩; (conv => whnf); exact ⟨rfl, rfl, trivial⟩))); (conv => whnf))
    (apply Exists.intro; apply And.intro; (focus ((conv => whnf); first | exact ⟨rfl, rfl, trivial⟩ | (refine ⟨by omega, ?_⟩; (conv => whnf); exact ⟨rfl, rfl, trivial⟩))); (conv => whnf))
    refine ⟨_, callK_pure (c68 p.en) ⟨rfl, rfl, trivial⟩, ?_⟩
    (conv => whnf)
    (apply Exists.intro; apply And.intro; (focus ((conv => whnf); first | exact ⟨rfl, rfl, trivial⟩ | (refine ⟨by omega, ?_⟩; (conv => whnf); exact ⟨rfl, rfl, trivial⟩))); (conv => whnf))
    (apply Exists.intro; apply And.intro; (focus ((conv => whnf); first | exact ⟨rfl, rfl, trivial⟩ | (refine ⟨by omega, ?_⟩; (conv => whnf); exact ⟨rfl, rfl, trivial⟩))); (conv => whnf))
    refine ⟨_, callK_pure (c68 p.nc) ⟨rfl, rfl, trivial⟩, ?_⟩
    (conv => whnf)
    (apply Exists.intro; apply And.intro; (focus ((conv => whnf); first | exact ⟨rfl, rfl, trivial⟩ | (refine ⟨by omega, ?_⟩; (conv => whnf); exact ⟨rfl, rfl, trivial⟩))); (conv => whnf))
    refine ⟨_, callK_pure (c64p 122 [wrapB 4 (keyB p.k), princE p.r p.n, intE p.st, intE p.en, intE p.nc] (by simp) (by simp only [List.flatten_cons, List.flatten_nil, List.length_append, List.length_nil]; omega)) ⟨rfl, rfl, trivial⟩, ?_⟩
    (conv => whnf)
    have hb : isRptB p = false := by unfold isRptB; simp only [f0, Bool.and_true, Bool.true_and, Bool.and_false, Bool.false_and]
    refine ⟨_, callK_pure ((c59 false (rptL p)).of_eq (limV_no (fun h => by cases h.1))) ⟨rfl, rfl, trivial⟩, ?_⟩
    (conv => whnf)
    (apply Exists.intro; apply And.intro; (focus ((conv => whnf); first | exact ⟨rfl, rfl, trivial⟩ | (refine ⟨by omega, ?_⟩; (conv => whnf); exact ⟨rfl, rfl, trivial⟩))); (conv => whnf))
    (apply Exists.intro; apply And.intro; (focus ((conv => whnf); first | exact ⟨rfl, rfl, trivial⟩ | (refine ⟨by omega, ?_⟩; (conv => whnf); exact ⟨rfl, rfl, trivial⟩))); (conv => whnf))
    (apply Exists.intro; apply And.intro; (focus ((conv => whnf); first | exact ⟨rfl, rfl, trivial⟩ | (refine ⟨by omega, ?_⟩; (conv => whnf); exact ⟨rfl, rfl, trivial⟩))); (conv => whnf))
    (apply Exists.intro; apply And.intro; (focus ((conv => whnf); first | exact ⟨rfl, rfl, trivial⟩ | (refine ⟨by omega, ?_⟩; (conv => whnf); exact ⟨rfl, rfl, trivial⟩))); (conv => whnf))
    exact ⟨(encRV_no (fun h => by rw [hb] at h; cases h.1)).symm, rfl⟩
  (apply Exists.intro; apply And.intro; (focus ((conv => whnf); first | exact ⟨rfl, rfl, trivial⟩ | (refine ⟨by omega, ?_⟩; (conv => whnf); exact ⟨rfl, rfl, trivial⟩))); (conv => whnf))
  (apply Exists.intro; apply And.intro; (focus ((conv => whnf); first | exact ⟨rfl, rfl, trivial⟩ | (refine ⟨by omega, ?_⟩; (conv => whnf); exact ⟨rfl, rfl, trivial⟩))); (conv => whnf))
  (apply Exists.intro; apply And.intro; (focus ((conv => whnf); first | exact ⟨rfl, rfl, trivial⟩ | (refine ⟨by omega, ?_⟩; (conv => whnf); exact ⟨rfl, rfl, trivial⟩))); (conv => whnf))
  (apply Exists.intro; apply And.intro; (focus ((conv => whnf); first | exact ⟨rfl, rfl, trivial⟩ | (refine ⟨by omega, ?_⟩; (conv => whnf); exact ⟨rfl, rfl, trivial⟩))); (conv => whnf))
  (apply Exists.intro; apply And.intro; (focus ((conv => whnf); first | exact ⟨rfl, rfl, trivial⟩ | (refine ⟨by omega, ?_⟩; (conv => whnf); exact ⟨rfl, rfl, trivial⟩))); (conv => whnf))
  (apply Exists.intro; apply And.intro; (focus ((conv => whnf); first | exact ⟨rfl, rfl, trivial⟩ | (refine ⟨by omega, ?_⟩; (conv => whnf); exact ⟨rfl, rfl, trivial⟩))); (conv => whnf))
  refine ⟨_, callK_pure ((c63 [p.st, p.en] (by simp)).of_eq (show PV.bool (inZ p.st 0 1073741824 && (inZ p.en 0 1073741824 && true)) = .bool (inZ p.st 0 1073741824 && inZ p.en 0 1073741824) by rw [Bool.and_true])) ⟨rfl, rfl, trivial⟩, ?_⟩
  (conv => whnf)
  cases f1 : (inZ p.st 0 1073741824 && inZ p.en 0 1073741824)
  · skip
    (apply Exists.intro; apply And.intro; (focus ((conv => whnf); first | exact ⟨rfl, rfl, trivial⟩ | (refine ⟨by omega, ?_⟩; (conv => whnf); exact ⟨rfl, rfl, trivial⟩))); (conv => whnf))
    (apply Exists.intro; apply And.intro; (focus ((conv => whnf); first | exact ⟨rfl, rfl, trivial⟩ | (refine ⟨by omega, ?_⟩; (conv => whnf); exact ⟨rfl, rfl, trivial⟩))); (conv => whnf))
    (apply Exists.intro; apply And.intro; (focus ((conv => whnf); first | exact ⟨rfl, rfl, trivial⟩ | (refine ⟨by omega, ?_⟩; (conv => whnf); exact ⟨rfl, rfl, trivial⟩))); (conv => whnf))
    (apply Exists.intro; apply And.intro; (focus ((conv => whnf); first | exact ⟨rfl, rfl, trivial⟩ | (refine ⟨by omega, ?_⟩; (conv => whnf); exact ⟨rfl, rfl, trivial⟩))); (conv => whnf))
    (apply Exists.intro; apply And.intro; (focus ((conv => whnf); first | exact ⟨rfl, rfl, trivial⟩ | (refine ⟨by omega, ?_⟩; (conv => whnf); exact ⟨rfl, rfl, trivial⟩))); (conv => whnf))
    (apply Exists.intro; apply And.intro; (focus ((conv => whnf); first | exact ⟨rfl, rfl, trivial⟩ | (refine ⟨by omega, ?_⟩; (conv => whnf); exact ⟨rfl, rfl, trivial⟩))); (conv => whnf))
    (apply Exists.intro; apply And.intro; (focus ((conv => whnf); first | exact ⟨rfl, rfl, trivial⟩ | (refine ⟨by omega, ?_⟩; (conv => whnf); exact ⟨rfl, rfl, trivial⟩))); (conv => whnf))
    (apply Exists.intro; apply And.intro; (focus ((conv => whnf); first | exact ⟨rfl, rfl, trivial⟩ | (refine ⟨by omega, ?_⟩; (conv => whnf); exact ⟨rfl, rfl, trivial⟩))); (conv => whnf))
    refine ⟨_, callK_pure (c66p (keyB p.k) (by omega)) ⟨rfl, rfl, trivial⟩, ?_⟩
    (conv => whnf)
    (apply Exists.intro; apply And.intro; (focus ((conv => whnf); first | exact ⟨rfl, rfl, trivial⟩ | (refine ⟨by omega, ?_⟩; (conv => whnf); exact ⟨rfl, rfl, trivial⟩))); (conv => whnf))
    (apply Exists.intro; apply And.intro; (focus ((conv => whnf); first | exact ⟨rfl, rfl, trivial⟩ | (refine ⟨by omega, ?_⟩; (conv => whnf); exact ⟨rfl, rfl, trivial⟩))); (conv => whnf))
    refine ⟨_, callK_pure (c65 p.r p.n hr hn) ⟨rfl, rfl, trivial⟩, ?_⟩
    (conv => whnf)
    (apply Exists.intro; apply And.intro; (focus ((conv => whnf); first | exact ⟨rfl, rfl, trivial⟩ | (refine ⟨by omega, ?_⟩; (conv => whnf); exact ⟨rfl, rfl, trivial⟩))); (conv => whnf))
    (apply Exists.intro; apply And.intro; (focus ((conv => whnf); first | exact ⟨rfl, rfl, trivial⟩ | (refine ⟨by omega, ?_⟩; (conv => whnf); exact ⟨rfl, rfl, trivial⟩))); (conv => whnf))
    refine ⟨_, callK_pure (c68 p.st) ⟨rfl, rfl, trivial⟩, ?_⟩
    (conv => whnf)
    (apply Exists.intro; apply And.intro; (focus ((conv => whnf); first | exact ⟨rfl, rfl, trivial⟩ | (refine ⟨by omega, ?_⟩; (conv => whnf); exact ⟨rfl, rfl, trivial⟩))); (conv => whnf))
    (apply Exists.intro; apply And.intro; (focus ((conv => whnf); first | exact ⟨rfl, rfl, trivial⟩ | (refine ⟨by omega, ?_⟩; (conv => whnf); exact ⟨rfl, rfl, trivial⟩))); (conv => whnf))
    refine ⟨_, callK_pure (c68 p.en) ⟨rfl, rfl, trivial⟩, ?_⟩
    (conv => whnf)
    (apply Exists.intro; apply And.intro; (focus ((conv => whnf); first | exact ⟨rfl, rfl, trivial⟩ | (refine ⟨by omega, ?_⟩; (conv => whnf); exact ⟨rfl, rfl, trivial⟩))); (conv => whnf))
    (apply Exists.intro; apply And.intro; (focus ((conv => whnf); first | exact ⟨rfl, rfl, trivial⟩ | (refine ⟨by omega, ?_⟩; (conv => whnf); exact ⟨rfl, rfl, trivial⟩))); (conv => whnf))
    refine ⟨_, callK_pure (c68 p.nc) ⟨rfl, rfl, trivial⟩, ?_⟩
    (conv => whnf)
    (apply Exists.intro; apply And.intro; (focus ((conv => whnf); first | exact ⟨rfl, rfl, trivial⟩ | (refine ⟨by omega, ?_⟩; (conv => whnf); exact ⟨rfl, rfl, trivial⟩))); (conv => whnf))
    refine ⟨_, callK_pure (c64p 122 [wrapB 4 (keyB p.k), princE p.r p.n, intE p.st, intE p.en, intE p.nc] (by simp) (by simp only [List.flatten_cons, List.flatten_nil, List.length_append, List.length_nil]; omega)) ⟨rfl, rfl, trivial⟩, ?_⟩
    (conv => whnf)
    have hb : isRptB p = false := by unfold isRptB; simp only [f0, f1, Bool.and_true, Bool.true_and, Bool.and_false, Bool.false_and]
    refine ⟨_, callK_pure ((c59 false (rptL p)).of_eq (limV_no (fun h => by cases h.1))) ⟨rfl, rfl, trivial⟩, ?_⟩
    (conv => whnf)
    (apply Exists.intro; apply And.intro; (focus ((conv => whnf); first | exact ⟨rfl, rfl, trivial⟩ | (refine ⟨by omega, ?_⟩; (conv => whnf); exact ⟨rfl, rfl, trivial⟩))); (conv => whnf))
    (apply Exists.intro; apply And.intro; (focus ((conv => whnf); first | exact ⟨rfl, rfl, trivial⟩ | (refine ⟨by omega, ?_⟩; (conv => whnf); exact ⟨rfl, rfl, trivial⟩))); (conv => whnf))
    (apply Exists.intro; apply And.intro; (focus ((conv => whnf); first | exact ⟨rfl, rfl, trivial⟩ | (refine ⟨by omega, ?_⟩; (conv => whnf); exact ⟨rfl, rfl, trivial⟩))); (conv => whnf))
    (apply Exists.intro; apply And.intro; (focus ((conv => whnf); first | exact ⟨rfl, rfl, trivial⟩ | (refine ⟨by omega, ?_⟩; (conv => whnf); exact ⟨rfl, rfl, trivial⟩))); (conv => whnf))
    exact ⟨(encRV_no (fun h => by rw [hb] at h; cases h.1)).symm, rfl⟩
  (apply Exists.intro; apply And.intro; (focus ((conv => whnf); first | exact ⟨rfl, rfl, trivial⟩ | (refine ⟨by omega, ?_⟩; (conv => whnf); exact ⟨rfl, rfl, trivial⟩))); (conv => whnf))
  (apply Exists.intro; apply And.intro; (focus ((conv => whnf); first | exact ⟨rfl, rfl, trivial⟩ | (refine ⟨by omega, ?_⟩; (conv => whnf); exact ⟨rfl, rfl, trivial⟩))); (conv => whnf))
  (apply Exists.intro; apply And.intro; (focus ((conv => whnf); first | exact ⟨rfl, rfl, trivial⟩ | (refine ⟨by omega, ?_⟩; (conv => whnf); exact ⟨rfl, rfl, trivial⟩))); (conv => whnf))
  (apply Exists.intro; apply And.intro; (focus ((conv => whnf); first | exact ⟨rfl, rfl, trivial⟩ | (refine ⟨by omega, ?_⟩; (conv => whnf); exact ⟨rfl, rfl, trivial⟩))); (conv => whnf))
  refine ⟨_, callK_pure (c75 p.nc) ⟨rfl, rfl, trivial⟩, ?_⟩
  (conv => whnf)
  cases f2 : inZ p.nc 0 1073741824
  · skip
    (apply Exists.intro; apply And.intro; (focus ((conv => whnf); first | exact ⟨rfl, rfl, trivial⟩ | (refine ⟨by omega, ?_⟩; (conv => whnf); exact ⟨rfl, rfl, trivial⟩))); (conv => whnf))
    (apply Exists.intro; apply And.intro; (focus ((conv => whnf); first | exact ⟨rfl, rfl, trivial⟩ | (refine ⟨by omega, ?_⟩; (conv => whnf); exact ⟨rfl, rfl, trivial⟩))); (conv => whnf))
    (apply Exists.intro; apply And.intro; (focus ((conv => whnf); first | exact ⟨rfl, rfl, trivial⟩ | (refine ⟨by omega, ?_⟩; (conv => whnf); exact ⟨rfl, rfl, trivial⟩))); (conv => whnf))
    refine ⟨_, callK_pure (c66p (keyB p.k) (by omega)) ⟨rfl, rfl, trivial⟩, ?_⟩
    (conv => whnf)
    (apply Exists.intro; apply And.intro; (focus ((conv => whnf); first | exact ⟨rfl, rfl, trivial⟩ | (refine ⟨by omega, ?_⟩; (conv => whnf); exact ⟨rfl, rfl, trivial⟩))); (conv => whnf))
    (apply Exists.intro; apply And.intro; (focus ((conv => whnf); first | exact ⟨rfl, rfl, trivial⟩ | (refine ⟨by omega, ?_⟩; (conv => whnf); exact ⟨rfl, rfl, trivial⟩))); (conv => whnf))
    refine ⟨_, callK_pure (c65 p.r p.n hr hn) ⟨rfl, rfl, trivial⟩, ?_⟩
    (conv => whnf)
    (apply Exists.intro; apply And.intro; (focus ((conv => whnf); first | exact ⟨rfl, rfl, trivial⟩ | (refine ⟨by omega, ?_⟩; (conv => whnf); exact ⟨rfl, rfl, trivial⟩))); (conv => whnf))
    (apply Exists.intro; apply And.intro; (focus ((conv => whnf); first | exact ⟨rfl, rfl, trivial⟩ | (refine ⟨by omega, ?_⟩; (conv => whnf); exact ⟨rfl, rfl, trivial⟩))); (conv => whnf))
    refine ⟨_, callK_pure (c68 p.st) ⟨rfl, rfl, trivial⟩, ?_⟩
    (conv => whnf)
    (apply Exists.intro; apply And.intro; (focus ((conv => whnf); first | exact ⟨rfl, rfl, trivial⟩ | (refine ⟨by omega, ?_⟩; (conv => whnf); exact ⟨rfl, rfl, trivial⟩))); (conv => whnf))
    (apply Exists.intro; apply And.intro; (focus ((conv => whnf); first | exact ⟨rfl, rfl, trivial⟩ | (refine ⟨by omega, ?_⟩; (conv => whnf); exact ⟨rfl, rfl, trivial⟩))); (conv => whnf))
    refine ⟨_, callK_pure (c68 p.en) ⟨rfl, rfl, trivial⟩, ?_⟩
    (conv => whnf)
    (apply Exists.intro; apply And.intro; (focus ((conv => whnf); first | exact ⟨rfl, rfl, trivial⟩ | (refine ⟨by omega, ?_⟩; (conv => whnf); exact ⟨rfl, rfl, trivial⟩))); (conv => whnf))
    (apply Exists.intro; apply And.intro; (focus ((conv => whnf); first | exact ⟨rfl, rfl, trivial⟩ | (refine ⟨by omega, ?_⟩; (conv => whnf); exact ⟨rfl, rfl, trivial⟩))); (conv => whnf))
    refine ⟨_, callK_pure (c68 p.nc) ⟨rfl, rfl, trivial⟩, ?_⟩
    (conv => whnf)
    (apply Exists.intro; apply And.intro; (focus ((conv => whnf); first | exact ⟨rfl, rfl, trivial⟩ | (refine ⟨by omega, ?_⟩; (conv => whnf); exact ⟨rfl, rfl, trivial⟩))); (conv => whnf))
    refine ⟨_, callK_pure (c64p 122 [wrapB 4 (keyB p.k), princE p.r p.n, intE p.st, intE p.en, intE p.nc] (by simp) (by simp only [List.flatten_cons, List.flatten_nil, List.length_append, List.length_nil]; omega)) ⟨rfl, rfl, trivial⟩, ?_⟩
    (conv => whnf)
    have hb : isRptB p = false := by unfold isRptB; simp only [f0, f1, f2, Bool.and_true, Bool.true_and, Bool.and_false, Bool.false_and]
    refine ⟨_, callK_pure ((c59 false (rptL p)).of_eq (limV_no (fun h => by cases h.1))) ⟨rfl, rfl, trivial⟩, ?_⟩
    (conv => whnf)
    (apply Exists.intro; apply And.intro; (focus ((conv => whnf); first | exact ⟨rfl, rfl, trivial⟩ | (refine ⟨by omega, ?_⟩; (conv => whnf); exact ⟨rfl, rfl, trivial⟩))); (conv => whnf))
    (apply Exists.intro; apply And.intro; (focus ((conv => whnf); first | exact ⟨rfl, rfl, trivial⟩ | (refine ⟨by omega, ?_⟩; (conv => whnf); exact ⟨rfl, rfl, trivial⟩))); (conv => whnf))
    (apply Exists.intro; apply And.intro; (focus ((conv => whnf); first | exact ⟨rfl, rfl, trivial⟩ | (refine ⟨by omega, ?_⟩; (conv => whnf); exact ⟨rfl, rfl, trivial⟩))); (conv => whnf))
    (apply Exists.intro; apply And.intro; (focus ((conv => whnf); first | exact ⟨rfl, rfl, trivial⟩ | (refine ⟨by omega, ?_⟩; (conv => whnf); exact ⟨rfl, rfl, trivial⟩))); (conv => whnf))
    exact ⟨(encRV_no (fun h => by rw [hb] at h; cases h.1)).symm, rfl⟩
  (apply Exists.intro; apply And.intro; (focus ((conv => whnf); first | exact ⟨rfl, rfl, trivial⟩ | (refine ⟨by omega, ?_⟩; (conv => whnf); exact ⟨rfl, rfl, trivial⟩))); (conv => whnf))
  (apply Exists.intro; apply And.intro; (focus ((conv => whnf); first | exact ⟨rfl, rfl, trivial⟩ | (refine ⟨by omega, ?_⟩; (conv => whnf); exact ⟨rfl, rfl, trivial⟩))); (conv => whnf))
  (apply Exists.intro; apply And.intro; (focus ((conv => whnf); first | exact ⟨rfl, rfl, trivial⟩ | (refine ⟨by omega, ?_⟩; (conv => whnf); exact ⟨rfl, rfl, trivial⟩))); (conv => whnf))
  refine ⟨_, callK_pure (c66p (keyB p.k) (by omega)) ⟨rfl, rfl, trivial⟩, ?_⟩
  (conv => whnf)
  (apply Exists.intro; apply And.intro; (focus ((conv => whnf); first | exact ⟨rfl, rfl, trivial⟩ | (refine ⟨by omega, ?_⟩; (conv => whnf); exact ⟨rfl, rfl, trivial⟩))); (conv => whnf))
  (apply Exists.intro; apply And.intro; (focus ((conv => whnf); first | exact ⟨rfl, rfl, trivial⟩ | (refine ⟨by omega, ?_⟩; (conv => whnf); exact ⟨rfl, rfl, trivial⟩))); (conv => whnf))
  refine ⟨_, callK_pure (c65 p.r p.n hr hn) ⟨rfl, rfl, trivial⟩, ?_⟩
  (conv => whnf)
  (apply Exists.intro; apply And.intro; (focus ((conv => whnf); first | exact ⟨rfl, rfl, trivial⟩ | (refine ⟨by omega, ?_⟩; (conv => whnf); exact ⟨rfl, rfl, trivial⟩))); (conv => whnf))
  (apply Exists.intro; apply And.intro; (focus ((conv => whnf); first | exact ⟨rfl, rfl, trivial⟩ | (refine ⟨by omega, ?_⟩; (conv => whnf); exact ⟨rfl, rfl, trivial⟩))); (conv => whnf))
  refine ⟨_, callK_pure (c68 p.st) ⟨rfl, rfl, trivial⟩, ?_⟩
  (conv => whnf)
  (apply Exists.intro; apply And.intro; (focus ((conv => whnf); first | exact ⟨rfl, rfl, trivial⟩ | (refine ⟨by omega, ?_⟩; (conv => whnf); exact ⟨rfl, rfl, trivial⟩))); (conv => whnf))
  (apply Exists.intro; apply And.intro; (focus ((conv => whnf); first | exact ⟨rfl, rfl, trivial⟩ | (refine ⟨by omega, ?_⟩; (conv => whnf); exact ⟨rfl, rfl, trivial⟩))); (conv => whnf))
  refine ⟨_, callK_pure (c68 p.en) ⟨rfl, rfl, trivial⟩, ?_⟩
  (conv => whnf)
  (apply Exists.intro; apply And.intro; (focus ((conv => whnf); first | exact ⟨rfl, rfl, trivial⟩ | (refine ⟨by omega, ?_⟩; (conv => whnf); exact ⟨rfl, rfl, trivial⟩))); (conv => whnf))
  (apply Exists.intro; apply And.intro; (focus ((conv => whnf); first | exact ⟨rfl, rfl, trivial⟩ | (refine ⟨by omega, ?_⟩; (conv => whnf); exact ⟨rfl, rfl, trivial⟩))); (conv => whnf))
  refine ⟨_, callK_pure (c68 p.nc) ⟨rfl, rfl, trivial⟩, ?_⟩
  (conv => whnf)
  (apply Exists.intro; apply And.intro; (focus ((conv => whnf); first | exact ⟨rfl, rfl, trivial⟩ | (refine ⟨by omega, ?_⟩; (conv => whnf); exact ⟨rfl, rfl, trivial⟩))); (conv => whnf))
  refine ⟨_, callK_pure (c64p 122 [wrapB 4 (keyB p.k), princE p.r p.n, intE p.st, intE p.en, intE p.nc] (by simp) (by simp only [List.flatten_cons, List.flatten_nil, List.length_append, List.length_nil]; omega)) ⟨rfl, rfl, trivial⟩, ?_⟩
  (conv => whnf)
  have hb : isRptB p = true := by unfold isRptB; simp only [f0, f1, f2, Bool.and_true, Bool.true_and, Bool.and_false, Bool.false_and]
  by_cases hlen : (rptL p).length ≤ 2000
  · have hlim := limV_yes (ok := true) (b := rptL p) ⟨rfl, hlen⟩
    refine ⟨_, callK_pure ((c59 true (rptL p)).of_eq hlim) ⟨rfl, rfl, trivial⟩, ?_⟩
    (conv => whnf)
    (apply Exists.intro; apply And.intro; (focus ((conv => whnf); first | exact ⟨rfl, rfl, trivial⟩ | (refine ⟨by omega, ?_⟩; (conv => whnf); exact ⟨rfl, rfl, trivial⟩))); (conv => whnf))
    (apply Exists.intro; apply And.intro; (focus ((conv => whnf); first | exact ⟨rfl, rfl, trivial⟩ | (refine ⟨by omega, ?_⟩; (conv => whnf); exact ⟨rfl, rfl, trivial⟩))); (conv => whnf))
    (apply Exists.intro; apply And.intro; (focus ((conv => whnf); first | exact ⟨rfl, rfl, trivial⟩ | (refine ⟨by omega, ?_⟩; (conv => whnf); exact ⟨rfl, rfl, trivial⟩))); (conv => whnf))
    (apply Exists.intro; apply And.intro; (focus ((conv => whnf); first | exact ⟨rfl, rfl, trivial⟩ | (refine ⟨by omega, ?_⟩; (conv => whnf); exact ⟨rfl, rfl, trivial⟩))); (conv => whnf))
    exact ⟨(encRV_yes ⟨hb, hlen⟩).symm, rfl⟩
  · have hlim := limV_no (ok := true) (b := rptL p) (fun h => hlen h.2)
    refine ⟨_, callK_pure ((c59 true (rptL p)).of_eq hlim) ⟨rfl, rfl, trivial⟩, ?_⟩
    (conv => whnf)
    (apply Exists.intro; apply And.intro; (focus ((conv => whnf); first | exact ⟨rfl, rfl, trivial⟩ | (refine ⟨by omega, ?_⟩; (conv => whnf); exact ⟨rfl, rfl, trivial⟩))); (conv => whnf))
    (apply Exists.intro; apply And.intro; (focus ((conv => whnf); first | exact ⟨rfl, rfl, trivial⟩ | (refine ⟨by omega, ?_⟩; (conv => whnf); exact ⟨rfl, rfl, trivial⟩))); (conv => whnf))
    (apply Exists.intro; apply And.intro; (focus ((conv => whnf); first | exact ⟨rfl, rfl, trivial⟩ | (refine ⟨by omega, ?_⟩; (conv => whnf); exact ⟨rfl, rfl, trivial⟩))); (conv => whnf))
    (apply Exists.intro; apply And.intro; (focus ((conv => whnf); first | exact ⟨rfl, rfl, trivial⟩ | (refine ⟨by omega, ?_⟩; (conv => whnf); exact ⟨rfl, rfl, trivial⟩))); (conv => whnf))
    exact ⟨(encRV_no (fun h => hlen h.2)).symm, rfl⟩
theorem c85x (p : Rpt) (b : List UInt8) (hr : p.r.length ≤ 1000000) (hn : p.n.length ≤ 1000000) (H : PH) :
    CallOk prog 85 [sl b, .agg p.cells, .func 20 [] []] H fun r H' => r = agRV p b ∧ ∃ ext, H' = H ++ ext := by
  (refine callOk_of_pFun2 (tt := ttQ) (imm := imm85) follows ttQ_ok depth6 func85 (by kernel_rfl) ?_; (conv => whnf))
  have ext3 : ∀ a b c : PObj, ∃ ext, ((H ++ [a] ++ [b]).set H.length c) = H ++ ext := fun a b c => (((Ext.refl H).push _).push _).set (Nat.le_refl _) _
  by_cases hb : isRptB p = true ∧ (rptL p).length ≤ 2000
  · refine callK_pure ((c20 p hr hn).of_eq (encRV_yes hb)) ?_
    (conv => whnf)
    refine ⟨fun _ => ?_, fun h => absurd rfl h⟩
    (conv => whnf)
    refine callK_pure (c106 (rptL p) b) ?_
    cases hq : decide (rptL p = b)
    · have hk : okRpt p b = false := by unfold okRpt; rw [hq, Bool.and_false, Bool.and_false]
      rw [agRV_no hk]
      (conv => whnf)
      ((conv in (_[_]?) => tactic => exact get_last _ _); (conv => whnf))
      ((conv in (_[_]?) => tactic => exact get_mid _ _ _); (conv => whnf))
      ((conv in (_[_]?) => tactic => exact get_set (get_mid _ _ _)); (conv => whnf))
      exact ⟨rfl, ext3 _ _ _⟩
    · have hk : okRpt p b = true := by unfold okRpt; rw [hq, hb.1, decide_eq_true hb.2]; rfl
      rw [agRV_yes hk]
      (conv => whnf)
      ((conv in (_[_]?) => tactic => exact get_mid _ _ _); (conv => whnf))
      ((conv in (_[_]?) => tactic => exact get_set (get_mid _ _ _)); (conv => whnf))
      exact ⟨rfl, ext3 _ _ _⟩
  · refine callK_pure ((c20 p hr hn).of_eq (encRV_no hb)) ?_
    have hk : okRpt p b = false := by
      unfold okRpt
      cases h1 : isRptB p
      · rfl
      · rw [decide_eq_false (fun h2 => hb ⟨h1, h2⟩)]; rfl
    rw [agRV_no hk]
    (conv => whnf)
    refine ⟨fun h => absurd h (by decide), fun _ => ?_⟩
    (conv => whnf)
    ((conv in (_[_]?) => tactic => exact get_last _ _); (conv => whnf))
    ((conv in (_[_]?) => tactic => exact get_mid _ _ _); (conv => whnf))
    ((conv in (_[_]?) => tactic => exact get_set (get_mid _ _ _)); (conv => whnf))
    exact ⟨rfl, ext3 _ _ _⟩
theorem agRV_old (p : Rpt) (b : List UInt8) : oldR (agRV p b) = true := by unfold agRV; cases okRpt p b <;> rfl
theorem c85 (p : Rpt) (b : List UInt8) (hr : p.r.length ≤ 1000000) (hn : p.n.length ≤ 1000000) : Pure prog 85 [sl b, .agg p.cells, .func 20 [] []] (agRV p b) := Pure.of_gc (agRV_old p b) (c85x p b hr hn)
theorem c26x (b : List UInt8) (hb : b.length ≤ 140737488355328) (H : PH) : CallOk prog 26 [sl b] H fun r H' => r = agRV (rptC b) b ∧ ∃ ext, H' = H ++ ext := by
  (refine callOk_of_pFun2 (tt := ttQ) (imm := imm26) follows ttQ_ok depth6 func26 (by kernel_rfl) ?_; (conv => whnf))
  refine callK_of (c76 b 122 hb (H ++ [PObj.mk 55 zRpt.cells 0])) ?_
  rintro _ H2 ⟨d, rfl, k1, k2, k3⟩
  obtain ⟨o1, o2, e1, e2, e3, e4⟩ := dec_begin k1 k2 k3
  have hs0 : ∀ l, (elemC 122 (some b)).2 = some l → l.length ≤ 140737488355328 := fun l h => ((elemC_len (tag := 122) (fun l h => by cases h; exact hb)).2 l h).1
  show _
  unfold rptC
  generalize (elemC 122 (some b)).2 = s at hs0 k3 e3
  (conv => whnf)
  ((conv in (_[_]?) => tactic => exact get_last _ _); (conv => whnf))
  ((conv in (_[_]?) => tactic => exact e2); (conv => whnf))
  have l0 : ∀ l, s = some l → l.length ≤ 140737488355328 := hs0
  refine callK_of (c78 d s _ e3 l0) ?_
  rintro _ K0 ⟨rfl, u0, g0⟩
  have D1 := dec_part o1 o2 e1 e2 e4 u0 g0 (Rpt.mk (keyOf (octC s).2) [] [] 0 0 0).cells 1
  (conv => whnf)
  ((conv in (_[_]?) => tactic => exact get_last _ _); (conv => whnf))
  have l1 : ∀ l, (octC s).1 = some l → l.length ≤ 140737488355328 := (elemC_len (tag := 4) l0).1
  ((conv in (_[_]?) => tactic => exact D1.c); (conv => whnf))
  refine callK_of (c77 d (octC s).1 _ D1.cur l1) ?_
  rintro _ K1 ⟨rfl, u1, g1⟩
  have D2 := D1.call u1 g1
  (conv => whnf)
  ((conv in (_[_]?) => tactic => exact D2.p); (conv => whnf))
  have D3 := D2.store (Rpt.mk (keyOf (octC s).2) (princC (octC s).1).2.1 (princC (octC s).1).2.2 0 0 0).cells 2
  have l2 : ∀ l, (princC (octC s).1).1 = some l → l.length ≤ 140737488355328 := (elemC_len (tag := 48) l1).1
  ((conv in (_[_]?) => tactic => exact D3.c); (conv => whnf))
  refine callK_of (c80 d (princC (octC s).1).1 _ D3.cur l2) ?_
  rintro _ K2 ⟨rfl, u2, g2⟩
  have D4 := D3.call u2 g2
  (conv => whnf)
  ((conv in (_[_]?) => tactic => exact D4.p); (conv => whnf))
  have D5 := D4.store (Rpt.mk (keyOf (octC s).2) (princC (octC s).1).2.1 (princC (octC s).1).2.2 (intC (princC (octC s).1).1).2 0 0).cells 3
  have l3 : ∀ l, (intC (princC (octC s).1).1).1 = some l → l.length ≤ 140737488355328 := intC_len l2
  ((conv in (_[_]?) => tactic => exact D5.c); (conv => whnf))
  refine callK_of (c80 d (intC (princC (octC s).1).1).1 _ D5.cur l3) ?_
  rintro _ K3 ⟨rfl, u3, g3⟩
  have D6 := D5.call u3 g3
  (conv => whnf)
  ((conv in (_[_]?) => tactic => exact D6.p); (conv => whnf))
  have D7 := D6.store (Rpt.mk (keyOf (octC s).2) (princC (octC s).1).2.1 (princC (octC s).1).2.2 (intC (princC (octC s).1).1).2 (intC (intC (princC (octC s).1).1).1).2 0).cells 4
  have l4 : ∀ l, (intC (intC (princC (octC s).1).1).1).1 = some l → l.length ≤ 140737488355328 := intC_len l3
  ((conv in (_[_]?) => tactic => exact D7.c); (conv => whnf))
  refine callK_of (c80 d (intC (intC (princC (octC s).1).1).1).1 _ D7.cur l4) ?_
  rintro _ K4 ⟨rfl, u4, g4⟩
  have D8 := D7.call u4 g4
  (conv => whnf)
  ((conv in (_[_]?) => tactic => exact D8.p); (conv => whnf))
  have D9 := D8.store (Rpt.mk (keyOf (octC s).2) (princC (octC s).1).2.1 (princC (octC s).1).2.2 (intC (princC (octC s).1).1).2 (intC (intC (princC (octC s).1).1).1).2 (intC (intC (intC (princC (octC s).1).1).1).1).2).cells 5
  ((conv in (_[_]?) => tactic => exact D9.p); (conv => whnf))
  refine callK_pure (c85 (rptD s) b (by unfold rptD; exact Nat.le_trans (small _ _) (by decide)) (by unfold rptD; exact Nat.le_trans (small _ _) (by decide))) ?_
  cases hk : okRpt (rptD s) b
  · rw [agRV_no hk]
    (conv => whnf)
    ((conv in (_[_]?) => tactic => exact D9.z); (conv => whnf))
    ((conv in (_[_]?) => tactic => exact get_set D9.z); (conv => whnf))
    exact ⟨rfl, Upd.ext (D9.up.set (.inr (Nat.le_refl _)) _)⟩
  · rw [agRV_yes hk]
    (conv => whnf)
    ((conv in (_[_]?) => tactic => exact D9.z); (conv => whnf))
    ((conv in (_[_]?) => tactic => exact get_set D9.z); (conv => whnf))
    exact ⟨rfl, Upd.ext (D9.up.set (.inr (Nat.le_refl _)) _)⟩
theorem c26 (b : List UInt8) (hb : b.length ≤ 140737488355328) : Pure prog 26 [sl b] (agRV (rptC b) b) := Pure.of_gc (agRV_old _ b) (c26x b hb)
end Go.Proofs.Tryz

set_option maxRecDepth 100000
set_option maxHeartbeats 4000000
set_option linter.unusedVariables false
set_option linter.unusedSimpArgs false
namespace Go.Proofs.Tryz
open Go Ps
theorem c48 (p : Prt) (hr : p.r.length ≤ 1099511627775) (hn : p.n.length ≤ 1099511627775) (ht : p.tr.length ≤ 1099511627775) : Pure prog 48 [.agg p.cells] (.bool (isPartB p)) := by
  intro H
  (refine callOk_of_pFun2 (tt := ttQ) (imm := imm48) follows ttQ_ok depth6 func48 (by kernel_rfl) ?_; (conv => whnf))
  refine loopK_of RwS (fun x => [(1, .elem p.cells), (3, .int .i64 x.i)]) (fun _ => H) (fun x => x.i ≤ p.tr.length ∧ (p.tr.take x.i).all okT8 = true) (fun x => p.tr.length - x.i)
    ⟨⟨0⟩, ⟨Nat.zero_le _, rfl⟩, ⟨rfl, rfl, trivial⟩, rfl⟩ ?_
  rintro ⟨i⟩ ⟨hi, hall⟩
  have hi : i ≤ p.tr.length := hi
  have hall : (p.tr.take i).all okT8 = true := hall
  (conv => whnf)
  refine ⟨fun h => ?_, fun h => ?_⟩
  · (conv => whnf)
    have h : (i : Int) < (p.tr.length : Int) := h
    have hlt : i < p.tr.length := by omega
    have hix : (0 : Int) ≤ (i : Int) ∧ (i : Int) < (p.tr.length : Int) := ⟨by omega, h⟩
    have bad : okT8 p.tr[i] = false → isPartB p = false := fun hb => by
      have : p.tr.all okT8 = false := by
        rw [Bool.eq_false_iff]
        intro ha
        rw [List.all_eq_true] at ha
        rw [ha _ (List.getElem_mem hlt)] at hb
        cases hb
      unfold isPartB isTextB
      rw [this, Bool.and_false, Bool.and_false, Bool.false_and]
    refine ⟨hix, p.tr[i], List.getElem?_eq_getElem hlt, ?_⟩
    (conv => whnf)
    refine ⟨fun b1 => ?_, fun b1 => ?_⟩
    · have b1 : (p.tr[i].toNat : Int) < 32 := b1
      (conv => whnf)
      exact ⟨congrArg PV.bool (bad (by unfold okT8; rw [decide_eq_false (show ¬ 32 ≤ p.tr[i].toNat by omega), Bool.false_and])).symm, rfl⟩
    have b1 : ¬ (p.tr[i].toNat : Int) < 32 := b1
    (conv => whnf)
    refine ⟨hix, p.tr[i], List.getElem?_eq_getElem hlt, ?_⟩
    (conv => whnf)
    refine ⟨fun b2 => ?_, fun b2 => ?_⟩
    · have b2 : (p.tr[i].toNat : Int) > 126 := b2
      (conv => whnf)
      exact ⟨congrArg PV.bool (bad (by unfold okT8; rw [decide_eq_false (show ¬ p.tr[i].toNat ≤ 126 by omega), Bool.and_false])).symm, rfl⟩
    have b2 : ¬ (p.tr[i].toNat : Int) > 126 := b2
    (conv => whnf)
    refine ⟨⟨i + 1⟩, ⟨hlt, ?_⟩, ⟨rfl, ?_, trivial⟩, rfl, by show p.tr.length - (i + 1) < p.tr.length - i; omega⟩
    · show (p.tr.take (i + 1)).all okT8 = true
      rw [List.take_succ_eq_append_getElem hlt, List.all_append, hall]
      show (true && (okT8 p.tr[i] && true)) = true
      unfold okT8
      rw [decide_eq_true (show 32 ≤ p.tr[i].toNat by omega), decide_eq_true (show p.tr[i].toNat ≤ 126 by omega)]; rfl
    · show PV.int _ (IntKind.i64.wrap ((i : Int) + 1)) = PV.int _ ((i + 1 : Nat) : Int)
      rw [wrap64 (by omega) (by omega)]; rfl
  · (conv => whnf)
    have h : ¬ (i : Int) < (p.tr.length : Int) := h
    rw [List.take_of_length_le (by omega)] at hall
    refine callK_pure (c88 p.r p.n (by omega) (by omega)) ?_
    cases f1 : isPrincB p.r p.n
    · (conv => whnf)
      exact ⟨congrArg PV.bool (by unfold isPartB isTextB; simp only [hall, f1, Bool.and_true, Bool.true_and, Bool.and_false, Bool.false_and]), rfl⟩
    (conv => whnf)
    refine ⟨fun h => ?_, fun h => ?_⟩
    rotate_left
    · have f2 : decide (p.tr.length ≤ 300) = false := decide_eq_false (fun hh => h (show (p.tr.length : Int) ≤ 300 by omega))
      (conv => whnf)
      exact ⟨congrArg PV.bool (by unfold isPartB isTextB; simp only [hall, f1, f2, Bool.and_true, Bool.true_and, Bool.and_false, Bool.false_and]), rfl⟩
    have f2 : decide (p.tr.length ≤ 300) = true := decide_eq_true (by have h : (p.tr.length : Int) ≤ 300 := h; omega)
    (conv => whnf)
    refine callK_pure (c111 p.st 0 1073741824) ?_
    cases f3 : inZ p.st 0 1073741824
    · (conv => whnf)
      exact ⟨congrArg PV.bool (by unfold isPartB isTextB; simp only [hall, f1, f2, f3, Bool.and_true, Bool.true_and, Bool.and_false, Bool.false_and]), rfl⟩
    (conv => whnf)
    refine callK_pure (c111 p.en 0 1073741824) ?_
    cases f4 : inZ p.en 0 1073741824
    · (conv => whnf)
      exact ⟨congrArg PV.bool (by unfold isPartB isTextB; simp only [hall, f1, f2, f3, f4, Bool.and_true, Bool.true_and, Bool.and_false, Bool.false_and]), rfl⟩
    (conv => whnf)
    exact ⟨congrArg PV.bool (by unfold isPartB isTextB; simp only [hall, f1, f2, f3, f4, Bool.and_true, Bool.true_and, Bool.and_false, Bool.false_and]), rfl⟩
theorem c49 (p : Aut) (hr : p.r.length ≤ 1099511627775) (hn : p.n.length ≤ 1099511627775) : Pure prog 49 [.agg p.cells] (.bool (isAutB p)) := by
  intro H
  (refine callOk_of_pFun2 (tt := ttQ) (imm := imm49) follows ttQ_ok depth6 func49 (by kernel_rfl) ?_; (conv => whnf))
  refine callK_pure (c88 p.r p.n (by omega) (by omega)) ?_
  cases f0 : isPrincB p.r p.n
  · (conv => whnf)
    exact ⟨congrArg PV.bool (by unfold isAutB; simp only [f0, Bool.and_true, Bool.true_and, Bool.and_false, Bool.false_and]), rfl⟩
  (conv => whnf)
  refine callK_pure (c111 p.tm 0 1073741824) ?_
  cases f1 : inZ p.tm 0 1073741824
  · (conv => whnf)
    exact ⟨congrArg PV.bool (by unfold isAutB; simp only [f0, f1, Bool.and_true, Bool.true_and, Bool.and_false, Bool.false_and]), rfl⟩
  (conv => whnf)
  refine callK_pure (c111 p.sq 0 1073741824) ?_
  cases f2 : inZ p.sq 0 1073741824
  · (conv => whnf)
    exact ⟨congrArg PV.bool (by unfold isAutB; simp only [f0, f1, f2, Bool.and_true, Bool.true_and, Bool.and_false, Bool.false_and]), rfl⟩
  (conv => whnf)
  exact ⟨congrArg PV.bool (by unfold isAutB; simp only [f0, f1, f2, Bool.and_true, Bool.true_and, Bool.and_false, Bool.false_and]), rfl⟩
theorem c50 (p : Rpt) (hr : p.r.length ≤ 1099511627775) (hn : p.n.length ≤ 1099511627775) : Pure prog 50 [.agg p.cells] (.bool (isRptB p)) := by
  intro H
  (refine callOk_of_pFun2 (tt := ttQ) (imm := imm50) follows ttQ_ok depth6 func50 (by kernel_rfl) ?_; (conv => whnf))
  refine callK_pure (c88 p.r p.n (by omega) (by omega)) ?_
  cases f0 : isPrincB p.r p.n
  · (conv => whnf)
    exact ⟨congrArg PV.bool (by unfold isRptB; simp only [f0, Bool.and_true, Bool.true_and, Bool.and_false, Bool.false_and]), rfl⟩
  (conv => whnf)
  refine callK_pure (c111 p.st 0 1073741824) ?_
  cases f1 : inZ p.st 0 1073741824
  · (conv => whnf)
    exact ⟨congrArg PV.bool (by unfold isRptB; simp only [f0, f1, Bool.and_true, Bool.true_and, Bool.and_false, Bool.false_and]), rfl⟩
  (conv => whnf)
  refine callK_pure (c111 p.en 0 1073741824) ?_
  cases f2 : inZ p.en 0 1073741824
  · (conv => whnf)
    exact ⟨congrArg PV.bool (by unfold isRptB; simp only [f0, f1, f2, Bool.and_true, Bool.true_and, Bool.and_false, Bool.false_and]), rfl⟩
  (conv => whnf)
  refine callK_pure (c111 p.nc 0 1073741824) ?_
  cases f3 : inZ p.nc 0 1073741824
  · (conv => whnf)
    exact ⟨congrArg PV.bool (by unfold isRptB; simp only [f0, f1, f2, f3, Bool.and_true, Bool.true_and, Bool.and_false, Bool.false_and]), rfl⟩
  (conv => whnf)
  exact ⟨congrArg PV.bool (by unfold isRptB; simp only [f0, f1, f2, f3, Bool.and_true, Bool.true_and, Bool.and_false, Bool.false_and]), rfl⟩
end Go.Proofs.Tryz

set_option maxRecDepth 100000
set_option maxHeartbeats 4000000
set_option linter.unusedVariables false
set_option linter.unusedSimpArgs false
namespace Go.Proofs.Tryz
open Go Ps
def refEPrt (p : Prt) : PV := if isPartB p = true then .tup [sl (partL p), .int .i64 0] else .tup [.slice 0 [] (some 5), .int .i64 1]
theorem partL_le {p : Prt} (h : isPartB p = true) : (partL p).length ≤ 2000 := by
  have h0 := part_len p
  unfold isPartB at h
  simp only [Bool.and_eq_true] at h
  have gp := princ_len h.1.1
  have gt := isText_len h.1.2
  have g_st := inZ_le h.2.1
  have g_en := inZ_le h.2.2
  omega
theorem c17 (p : Prt) (hr : p.r.length ≤ 1000000) (hn : p.n.length ≤ 1000000) (ht : p.tr.length ≤ 1000000) : Pure prog 17 [.agg p.cells] (refEPrt p) := by
  intro H
  have e0 := princE_len p.r p.n
  have e1 := wrapB_len 4 (keyB p.k)
  have e2 := wrapB_len 27 p.tr
  have e3 := intE_len p.st
  have e4 := intE_len p.en
  have ek := keyB_len p.k
  (refine callOk_of_pFun2 (tt := ttQ) (imm := imm17) follows ttQ_ok depth6 func17 (by kernel_rfl) ?_; (conv => whnf))
  refine callK_pure (c48 p (by omega) (by omega) (by omega)) ?_
  cases hb : isPartB p
  · (conv => whnf)
    exact ⟨(if_neg (by rw [hb]; decide) : refEPrt p = _).symm, rfl⟩
  have hlen := partL_le hb
  (conv => whnf)
  refine drawK_pure2 (by kernel_rfl) ?_
  (conv => whnf)
  (apply Exists.intro; apply And.intro; (focus ((conv => whnf); first | exact ⟨rfl, rfl, trivial⟩ | (refine ⟨by omega, ?_⟩; (conv => whnf); exact ⟨rfl, rfl, trivial⟩))); (conv => whnf))
  (apply Exists.intro; apply And.intro; (focus ((conv => whnf); first | exact ⟨rfl, rfl, trivial⟩ | (refine ⟨by omega, ?_⟩; (conv => whnf); exact ⟨rfl, rfl, trivial⟩))); (conv => whnf))
  refine ⟨_, callK_pure (c71 p.r p.n hr hn) ⟨rfl, rfl, trivial⟩, ?_⟩
  (conv => whnf)
  (apply Exists.intro; apply And.intro; (focus ((conv => whnf); first | exact ⟨rfl, rfl, trivial⟩ | (refine ⟨by omega, ?_⟩; (conv => whnf); exact ⟨rfl, rfl, trivial⟩))); (conv => whnf))
  (apply Exists.intro; apply And.intro; (focus ((conv => whnf); first | exact ⟨rfl, rfl, trivial⟩ | (refine ⟨by omega, ?_⟩; (conv => whnf); exact ⟨rfl, rfl, trivial⟩))); (conv => whnf))
  refine ⟨_, callK_pure (c72 (keyB p.k) none (by omega)) ⟨rfl, rfl, trivial⟩, ?_⟩
  (conv => whnf)
  (apply Exists.intro; apply And.intro; (focus ((conv => whnf); first | exact ⟨rfl, rfl, trivial⟩ | (refine ⟨by omega, ?_⟩; (conv => whnf); exact ⟨rfl, rfl, trivial⟩))); (conv => whnf))
  (apply Exists.intro; apply And.intro; (focus ((conv => whnf); first | exact ⟨rfl, rfl, trivial⟩ | (refine ⟨by omega, ?_⟩; (conv => whnf); exact ⟨rfl, rfl, trivial⟩))); (conv => whnf))
  refine ⟨_, callK_pure (c73 p.tr (by omega)) ⟨rfl, rfl, trivial⟩, ?_⟩
  (conv => whnf)
  (apply Exists.intro; apply And.intro; (focus ((conv => whnf); first | exact ⟨rfl, rfl, trivial⟩ | (refine ⟨by omega, ?_⟩; (conv => whnf); exact ⟨rfl, rfl, trivial⟩))); (conv => whnf))
  (apply Exists.intro; apply And.intro; (focus ((conv => whnf); first | exact ⟨rfl, rfl, trivial⟩ | (refine ⟨by omega, ?_⟩; (conv => whnf); exact ⟨rfl, rfl, trivial⟩))); (conv => whnf))
  refine ⟨_, callK_pure (c74 p.st) ⟨rfl, rfl, trivial⟩, ?_⟩
  (conv => whnf)
  (apply Exists.intro; apply And.intro; (focus ((conv => whnf); first | exact ⟨rfl, rfl, trivial⟩ | (refine ⟨by omega, ?_⟩; (conv => whnf); exact ⟨rfl, rfl, trivial⟩))); (conv => whnf))
  (apply Exists.intro; apply And.intro; (focus ((conv => whnf); first | exact ⟨rfl, rfl, trivial⟩ | (refine ⟨by omega, ?_⟩; (conv => whnf); exact ⟨rfl, rfl, trivial⟩))); (conv => whnf))
  refine ⟨_, callK_pure (c74 p.en) ⟨rfl, rfl, trivial⟩, ?_⟩
  (conv => whnf)
  (apply Exists.intro; apply And.intro; (focus ((conv => whnf); first | exact ⟨rfl, rfl, trivial⟩ | (refine ⟨by omega, ?_⟩; (conv => whnf); exact ⟨rfl, rfl, trivial⟩))); (conv => whnf))
  refine ⟨_, callK_pure (c70 99 [princE p.r p.n, wrapB 4 (keyB p.k), wrapB 27 p.tr, intE p.st, intE p.en] (by simp) (by simp only [List.flatten_cons, List.flatten_nil, List.length_append, List.length_nil]; omega)) ⟨rfl, rfl, trivial⟩, ?_⟩
  (conv => whnf)
  refine ⟨_, callK_pure (c69 _ hlen) ⟨rfl, rfl, trivial⟩, ?_⟩
  (conv => whnf)
  (apply Exists.intro; apply And.intro; (focus ((conv => whnf); first | exact ⟨rfl, rfl, trivial⟩ | (refine ⟨by omega, ?_⟩; (conv => whnf); exact ⟨rfl, rfl, trivial⟩))); (conv => whnf))
  (apply Exists.intro; apply And.intro; (focus ((conv => whnf); first | exact ⟨rfl, rfl, trivial⟩ | (refine ⟨by omega, ?_⟩; (conv => whnf); exact ⟨rfl, rfl, trivial⟩))); (conv => whnf))
  (apply Exists.intro; apply And.intro; (focus ((conv => whnf); first | exact ⟨rfl, rfl, trivial⟩ | (refine ⟨by omega, ?_⟩; (conv => whnf); exact ⟨rfl, rfl, trivial⟩))); (conv => whnf))
  (apply Exists.intro; apply And.intro; (focus ((conv => whnf); first | exact ⟨rfl, rfl, trivial⟩ | (refine ⟨by omega, ?_⟩; (conv => whnf); exact ⟨rfl, rfl, trivial⟩))); (conv => whnf))
  exact ⟨(if_pos hb : refEPrt p = _).symm, rfl⟩
def refEAut (p : Aut) : PV := if isAutB p = true then .tup [sl (autL p), .int .i64 0] else .tup [.slice 0 [] (some 5), .int .i64 1]
theorem autL_le {p : Aut} (h : isAutB p = true) : (autL p).length ≤ 2000 := by
  have h0 := aut_len p
  unfold isAutB at h
  simp only [Bool.and_eq_true] at h
  have gp := princ_len h.1.1
  have g_tm := inZ_le h.1.2
  have g_sq := inZ_le h.2
  omega
theorem c19 (p : Aut) (hr : p.r.length ≤ 1000000) (hn : p.n.length ≤ 1000000) : Pure prog 19 [.agg p.cells] (refEAut p) := by
  intro H
  have e0 := princE_len p.r p.n
  have e1 := intE_len p.tm
  have e2 := intE_len p.sq
  (refine callOk_of_pFun2 (tt := ttQ) (imm := imm19) follows ttQ_ok depth6 func19 (by kernel_rfl) ?_; (conv => whnf))
  refine callK_pure (c49 p (by omega) (by omega)) ?_
  cases hb : isAutB p
  · (conv => whnf)
    exact ⟨(if_neg (by rw [hb]; decide) : refEAut p = _).symm, rfl⟩
  have hlen := autL_le hb
  (conv => whnf)
  refine drawK_pure2 (by kernel_rfl) ?_
  (conv => whnf)
  (apply Exists.intro; apply And.intro; (focus ((conv => whnf); first | exact ⟨rfl, rfl, trivial⟩ | (refine ⟨by omega, ?_⟩; (conv => whnf); exact ⟨rfl, rfl, trivial⟩))); (conv => whnf))
  (apply Exists.intro; apply And.intro; (focus ((conv => whnf); first | exact ⟨rfl, rfl, trivial⟩ | (refine ⟨by omega, ?_⟩; (conv => whnf); exact ⟨rfl, rfl, trivial⟩))); (conv => whnf))
  refine ⟨_, callK_pure (c71 p.r p.n hr hn) ⟨rfl, rfl, trivial⟩, ?_⟩
  (conv => whnf)
  (apply Exists.intro; apply And.intro; (focus ((conv => whnf); first | exact ⟨rfl, rfl, trivial⟩ | (refine ⟨by omega, ?_⟩; (conv => whnf); exact ⟨rfl, rfl, trivial⟩))); (conv => whnf))
  (apply Exists.intro; apply And.intro; (focus ((conv => whnf); first | exact ⟨rfl, rfl, trivial⟩ | (refine ⟨by omega, ?_⟩; (conv => whnf); exact ⟨rfl, rfl, trivial⟩))); (conv => whnf))
  refine ⟨_, callK_pure (c74 p.tm) ⟨rfl, rfl, trivial⟩, ?_⟩
  (conv => whnf)
  (apply Exists.intro; apply And.intro; (focus ((conv => whnf); first | exact ⟨rfl, rfl, trivial⟩ | (refine ⟨by omega, ?_⟩; (conv => whnf); exact ⟨rfl, rfl, trivial⟩))); (conv => whnf))
  (apply Exists.intro; apply And.intro; (focus ((conv => whnf); first | exact ⟨rfl, rfl, trivial⟩ | (refine ⟨by omega, ?_⟩; (conv => whnf); exact ⟨rfl, rfl, trivial⟩))); (conv => whnf))
  refine ⟨_, callK_pure (c74 p.sq) ⟨rfl, rfl, trivial⟩, ?_⟩
  (conv => whnf)
  (apply Exists.intro; apply And.intro; (focus ((conv => whnf); first | exact ⟨rfl, rfl, trivial⟩ | (refine ⟨by omega, ?_⟩; (conv => whnf); exact ⟨rfl, rfl, trivial⟩))); (conv => whnf))
  refine ⟨_, callK_pure (c70 98 [princE p.r p.n, intE p.tm, intE p.sq] (by simp) (by simp only [List.flatten_cons, List.flatten_nil, List.length_append, List.length_nil]; omega)) ⟨rfl, rfl, trivial⟩, ?_⟩
  (conv => whnf)
  refine ⟨_, callK_pure (c69 _ hlen) ⟨rfl, rfl, trivial⟩, ?_⟩
  (conv => whnf)
  (apply Exists.intro; apply And.intro; (focus ((conv => whnf); first | exact ⟨rfl, rfl, trivial⟩ | (refine ⟨by omega, ?_⟩; (conv => whnf); exact ⟨rfl, rfl, trivial⟩))); (conv => whnf))
  (apply Exists.intro; apply And.intro; (focus ((conv => whnf); first | exact ⟨rfl, rfl, trivial⟩ | (refine ⟨by omega, ?_⟩; (conv => whnf); exact ⟨rfl, rfl, trivial⟩))); (conv => whnf))
  (apply Exists.intro; apply And.intro; (focus ((conv => whnf); first | exact ⟨rfl, rfl, trivial⟩ | (refine ⟨by omega, ?_⟩; (conv => whnf); exact ⟨rfl, rfl, trivial⟩))); (conv => whnf))
  (apply Exists.intro; apply And.intro; (focus ((conv => whnf); first | exact ⟨rfl, rfl, trivial⟩ | (refine ⟨by omega, ?_⟩; (conv => whnf); exact ⟨rfl, rfl, trivial⟩))); (conv => whnf))
  exact ⟨(if_pos hb : refEAut p = _).symm, rfl⟩
def refERpt (p : Rpt) : PV := if isRptB p = true then .tup [sl (rptL p), .int .i64 0] else .tup [.slice 0 [] (some 5), .int .i64 1]
theorem rptL_le {p : Rpt} (h : isRptB p = true) : (rptL p).length ≤ 2000 := by
  have h0 := rpt_len p
  unfold isRptB at h
  simp only [Bool.and_eq_true] at h
  have gp := princ_len h.1.1
  have g_st := inZ_le h.1.2.1
  have g_en := inZ_le h.1.2.2
  have g_nc := inZ_le h.2
  omega
theorem c21 (p : Rpt) (hr : p.r.length ≤ 1000000) (hn : p.n.length ≤ 1000000) : Pure prog 21 [.agg p.cells] (refERpt p) := by
  intro H
  have e0 := wrapB_len 4 (keyB p.k)
  have e1 := princE_len p.r p.n
  have e2 := intE_len p.st
  have e3 := intE_len p.en
  have e4 := intE_len p.nc
  have ek := keyB_len p.k
  (refine callOk_of_pFun2 (tt := ttQ) (imm := imm21) follows ttQ_ok depth6 func21 (by kernel_rfl) ?_; (conv => whnf))
  refine callK_pure (c50 p (by omega) (by omega)) ?_
  cases hb : isRptB p
  · (conv => whnf)
    exact ⟨(if_neg (by rw [hb]; decide) : refERpt p = _).symm, rfl⟩
  have hlen := rptL_le hb
  (conv => whnf)
  refine drawK_pure2 (by kernel_rfl) ?_
  (conv => whnf)
  (apply Exists.intro; apply And.intro; (focus ((conv => whnf); first | exact ⟨rfl, rfl, trivial⟩ | (refine ⟨by omega, ?_⟩; (conv => whnf); exact ⟨rfl, rfl, trivial⟩))); (conv => whnf))
  (apply Exists.intro; apply And.intro; (focus ((conv => whnf); first | exact ⟨rfl, rfl, trivial⟩ | (refine ⟨by omega, ?_⟩; (conv => whnf); exact ⟨rfl, rfl, trivial⟩))); (conv => whnf))
  refine ⟨_, callK_pure (c72 (keyB p.k) none (by omega)) ⟨rfl, rfl, trivial⟩, ?_⟩
  (conv => whnf)
  (apply Exists.intro; apply And.intro; (focus ((conv => whnf); first | exact ⟨rfl, rfl, trivial⟩ | (refine ⟨by omega, ?_⟩; (conv => whnf); exact ⟨rfl, rfl, trivial⟩))); (conv => whnf))
  (apply Exists.intro; apply And.intro; (focus ((conv => whnf); first | exact ⟨rfl, rfl, trivial⟩ | (refine ⟨by omega, ?_⟩; (conv => whnf); exact ⟨rfl, rfl, trivial⟩))); (conv => whnf))
  refine ⟨_, callK_pure (c71 p.r p.n hr hn) ⟨rfl, rfl, trivial⟩, ?_⟩
  (conv => whnf)
  (apply Exists.intro; apply And.intro; (focus ((conv => whnf); first | exact ⟨rfl, rfl, trivial⟩ | (refine ⟨by omega, ?_⟩; (conv => whnf); exact ⟨rfl, rfl, trivial⟩))); (conv => whnf))
  (apply Exists.intro; apply And.intro; (focus ((conv => whnf); first | exact ⟨rfl, rfl, trivial⟩ | (refine ⟨by omega, ?_⟩; (conv => whnf); exact ⟨rfl, rfl, trivial⟩))); (conv => whnf))
  refine ⟨_, callK_pure (c74 p.st) ⟨rfl, rfl, trivial⟩, ?_⟩
  (conv => whnf)
  (apply Exists.intro; apply And.intro; (focus ((conv => whnf); first | exact ⟨rfl, rfl, trivial⟩ | (refine ⟨by omega, ?_⟩; (conv => whnf); exact ⟨rfl, rfl, trivial⟩))); (conv => whnf))
  (apply Exists.intro; apply And.intro; (focus ((conv => whnf); first | exact ⟨rfl, rfl, trivial⟩ | (refine ⟨by omega, ?_⟩; (conv => whnf); exact ⟨rfl, rfl, trivial⟩))); (conv => whnf))
  refine ⟨_, callK_pure (c74 p.en) ⟨rfl, rfl, trivial⟩, ?_⟩
  (conv => whnf)
  (apply Exists.intro; apply And.intro; (focus ((conv => whnf); first | exact ⟨rfl, rfl, trivial⟩ | (refine ⟨by omega, ?_⟩; (conv => whnf); exact ⟨rfl, rfl, trivial⟩))); (conv => whnf))
  (apply Exists.intro; apply And.intro; (focus ((conv => whnf); first | exact ⟨rfl, rfl, trivial⟩ | (refine ⟨by omega, ?_⟩; (conv => whnf); exact ⟨rfl, rfl, trivial⟩))); (conv => whnf))
  refine ⟨_, callK_pure (c74 p.nc) ⟨rfl, rfl, trivial⟩, ?_⟩
  (conv => whnf)
  (apply Exists.intro; apply And.intro; (focus ((conv => whnf); first | exact ⟨rfl, rfl, trivial⟩ | (refine ⟨by omega, ?_⟩; (conv => whnf); exact ⟨rfl, rfl, trivial⟩))); (conv => whnf))
  refine ⟨_, callK_pure (c70 122 [wrapB 4 (keyB p.k), princE p.r p.n, intE p.st, intE p.en, intE p.nc] (by simp) (by simp only [List.flatten_cons, List.flatten_nil, List.length_append, List.length_nil]; omega)) ⟨rfl, rfl, trivial⟩, ?_⟩
  (conv => whnf)
  refine ⟨_, callK_pure (c69 _ hlen) ⟨rfl, rfl, trivial⟩, ?_⟩
  (conv => whnf)
  (apply Exists.intro; apply And.intro; (focus ((conv => whnf); first | exact ⟨rfl, rfl, trivial⟩ | (refine ⟨by omega, ?_⟩; (conv => whnf); exact ⟨rfl, rfl, trivial⟩))); (conv => whnf))
  (apply Exists.intro; apply And.intro; (focus ((conv => whnf); first | exact ⟨rfl, rfl, trivial⟩ | (refine ⟨by omega, ?_⟩; (conv => whnf); exact ⟨rfl, rfl, trivial⟩))); (conv => whnf))
  (apply Exists.intro; apply And.intro; (focus ((conv => whnf); first | exact ⟨rfl, rfl, trivial⟩ | (refine ⟨by omega, ?_⟩; (conv => whnf); exact ⟨rfl, rfl, trivial⟩))); (conv => whnf))
  (apply Exists.intro; apply And.intro; (focus ((conv => whnf); first | exact ⟨rfl, rfl, trivial⟩ | (refine ⟨by omega, ?_⟩; (conv => whnf); exact ⟨rfl, rfl, trivial⟩))); (conv => whnf))
  exact ⟨(if_pos hb : refERpt p = _).symm, rfl⟩
theorem keyR_len {s : Option (List UInt8)} {B : Nat} (h : ∀ l, s = some l → l.length ≤ B) : ∀ l, (keyR s).1 = some l → l.length ≤ B := by
  unfold keyR
  intro l
  split
  · exact (elemC_len (tag := 4) h).1 l
  · intro e; cases e
theorem c23x (b : List UInt8) (hb : b.length ≤ 140737488355328) (H : PH) : CallOk prog 23 [sl b] H fun r H' => r = refPV b ∧ ∃ ext, H' = H ++ ext := by
  (refine callOk_of_pFun2 (tt := ttQ) (imm := imm23) follows ttQ_ok depth6 func23 (by kernel_rfl) ?_; (conv => whnf))
  have hcur : rcur ((H ++ [PObj.mk 51 zPrt.cells 0]) ++ [PObj.mk 126 [sl b, .bool false] 0]) (H ++ [PObj.mk 51 zPrt.cells 0]).length (some b) := ⟨b, 0, get_last _ _, fun l h => Option.some.inj h⟩
  have hl1 : ((H ++ [PObj.mk 51 zPrt.cells 0]) ++ [PObj.mk 126 [sl b, .bool false] 0]).length = H.length + 2 := by simp
  have hDr : ((H ++ [PObj.mk 51 zPrt.cells 0]) ++ [PObj.mk 126 [sl b, .bool false] 0])[H.length]? = some ⟨51, zPrt.cells, 0⟩ := get_mid _ _ _
  have u1 : Upd (fun _ => False) H ((H ++ [PObj.mk 51 zPrt.cells 0]) ++ [PObj.mk 126 [sl b, .bool false] 0]) := ((Upd.refl H).push _).push _
  have k0 : (H ++ [PObj.mk 51 zPrt.cells 0]).length = H.length + 1 := by simp
  refine callK_of (c53 _ 99 _ _ hcur (fun l h => by cases h; exact hb)) ?_
  rintro _ H2 ⟨e, rfl, k1, k2, k3, k4⟩
  have k1 : H.length + 2 ≤ e := Nat.le_trans (Nat.le_of_eq hl1.symm) k1
  have hle := k4.lt
  have hs0 : ∀ l, (elemC 99 (some b)).2 = some l → l.length ≤ 140737488355328 := fun l h => ((elemC_len (tag := 99) (fun l h => by cases h; exact hb)).2 l h).1
  have hz : H2[H.length]? = some ⟨51, zPrt.cells, 0⟩ := (k2.2 _ (Nat.lt_of_lt_of_le (show H.length < H.length + 2 by omega) (Nat.le_of_eq hl1.symm)) (fun h => by have h : H.length = H.length + 1 := h.trans k0; omega)).trans hDr
  have uB : Upd (fun _ => False) H H2 := u1.over k2 (fun i hi h => by have h : i = H.length + 1 := h.trans k0; omega)
  unfold refPV
  have eR : partR b = (elemC 99 (some b)).2 := rfl
  rw [eR]
  generalize (elemC 99 (some b)).2 = s at hs0 k4
  (conv => whnf)
  have l0 : ∀ l, s = some l → l.length ≤ 140737488355328 := hs0
  refine callK_of (c54 e s _ k4 l0) ?_
  rintro _ K0 ⟨rfl, u5, g0⟩
  have D1 := RakS.new hz (by omega) u5 g0 (Prt.mk (princR s).2.1 (princR s).2.2 (fun _ => 0) [] 0 0).cells 1
  (conv => whnf)
  ((conv in (_[_]?) => tactic => exact get_last _ _); (conv => whnf))
  have l1 : ∀ l, (princR s).1 = some l → l.length ≤ 140737488355328 := outR_len (elemC_len (tag := 48) l0).1
  refine callK_of (c82 e (princR s).1 _ D1.cur l1) ?_
  rintro _ K1 ⟨rfl, u6, g1⟩
  have D2 := D1.call u6 g1
  (conv => whnf)
  ((conv in (_[_]?) => tactic => exact D2.p); (conv => whnf))
  have D3 := D2.store (Prt.mk (princR s).2.1 (princR s).2.2 (keyR (princR s).1).2 [] 0 0).cells 2
  have l2 : ∀ l, (keyR (princR s).1).1 = some l → l.length ≤ 140737488355328 := keyR_len l1
  refine callK_of (c83 e (keyR (princR s).1).1 _ D3.cur l2) ?_
  rintro _ K2 ⟨rfl, u7, g2⟩
  have D4 := D3.call u7 g2
  (conv => whnf)
  ((conv in (_[_]?) => tactic => exact D4.p); (conv => whnf))
  have D5 := D4.store (Prt.mk (princR s).2.1 (princR s).2.2 (keyR (princR s).1).2 (txtC (keyR (princR s).1).1).2 0 0).cells 3
  have l3 : ∀ l, (txtC (keyR (princR s).1).1).1 = some l → l.length ≤ 140737488355328 := (elemC_len (tag := 27) l2).1
  refine callK_of (c55 e (txtC (keyR (princR s).1).1).1 _ D5.cur l3) ?_
  rintro _ K3 ⟨rfl, u8, g3⟩
  have D6 := D5.call u8 g3
  (conv => whnf)
  ((conv in (_[_]?) => tactic => exact D6.p); (conv => whnf))
  have D7 := D6.store (Prt.mk (princR s).2.1 (princR s).2.2 (keyR (princR s).1).2 (txtC (keyR (princR s).1).1).2 (rintC (txtC (keyR (princR s).1).1).1).2 0).cells 4
  have l4 : ∀ l, (rintC (txtC (keyR (princR s).1).1).1).1 = some l → l.length ≤ 140737488355328 := rintC_len l3
  refine callK_of (c55 e (rintC (txtC (keyR (princR s).1).1).1).1 _ D7.cur l4) ?_
  rintro _ K4 ⟨rfl, u9, g4⟩
  have D8 := D7.call u9 g4
  (conv => whnf)
  ((conv in (_[_]?) => tactic => exact D8.p); (conv => whnf))
  have D9 := D8.store (Prt.mk (princR s).2.1 (princR s).2.2 (keyR (princR s).1).2 (txtC (keyR (princR s).1).1).2 (rintC (txtC (keyR (princR s).1).1).1).2 (rintC (rintC (txtC (keyR (princR s).1).1).1).1).2).cells 5
  have fin : ∀ o : PObj, ∃ ext, (_ : PH).set H.length o = H ++ ext := fun o => Upd.ext ((uB.over D9.up (fun i hi h => by omega)).set (.inr (Nat.le_refl _)) o)
  have hcE := D9.cur
  ((conv in (_[_]?) => tactic => exact D9.p); (conv => whnf))
  have hen := c17 (partRD s) (by unfold partRD; exact Nat.le_trans (small _ _) (by decide)) (by unfold partRD; exact Nat.le_trans (small _ _) (by decide)) (by unfold partRD; exact Nat.le_trans (small _ _) (by decide))
  cases hq : isPartB (partRD s)
  · refine callK_pure (hen.of_eq (if_neg (by rw [hq]; decide) : refEPrt (partRD s) = _)) ?_
    (conv => whnf)
    obtain ⟨bc, vc, hcc, _⟩ := hcE
    have eE : partRE s = (rintC (rintC (txtC (keyR (princR s).1).1).1).1).1 := rfl
    rw [eE]
    ((conv in (_[_]?) => tactic => exact hcc); (conv => whnf))
    cases (rintC (rintC (txtC (keyR (princR s).1).1).1).1).1 with
    | none =>
      (conv => whnf)
      ((conv in (_[_]?) => tactic => exact D9.z); (conv => whnf))
      ((conv in (_[_]?) => tactic => exact get_set D9.z); (conv => whnf))
      exact ⟨rfl, fin _⟩
    | some l =>
      (conv => whnf)
      have hk : okPrt (partRD s) b = false := by
        rw [Bool.eq_false_iff]
        exact fun hh => by rw [(okPrt_iff.1 hh).1] at hq; cases hq
      rw [hk]
      refine ⟨fun h => absurd h (by decide), fun _ => ?_⟩
      (conv => whnf)
      ((conv in (_[_]?) => tactic => exact D9.z); (conv => whnf))
      ((conv in (_[_]?) => tactic => exact get_set D9.z); (conv => whnf))
      exact ⟨rfl, fin _⟩
  · refine callK_pure (hen.of_eq (if_pos hq : refEPrt (partRD s) = _)) ?_
    (conv => whnf)
    obtain ⟨bc, vc, hcc, _⟩ := hcE
    have eE : partRE s = (rintC (rintC (txtC (keyR (princR s).1).1).1).1).1 := rfl
    rw [eE]
    ((conv in (_[_]?) => tactic => exact hcc); (conv => whnf))
    cases (rintC (rintC (txtC (keyR (princR s).1).1).1).1).1 with
    | none =>
      (conv => whnf)
      ((conv in (_[_]?) => tactic => exact D9.z); (conv => whnf))
      ((conv in (_[_]?) => tactic => exact get_set D9.z); (conv => whnf))
      exact ⟨rfl, fin _⟩
    | some l =>
      (conv => whnf)
      refine ⟨fun _ => ?_, fun h => absurd rfl h⟩
      (conv => whnf)
      refine ⟨partL (partRD s), ⟨rfl, rfl⟩, ?_⟩
      (conv => whnf)
      refine ⟨b, ⟨rfl, rfl⟩, ?_⟩
      (conv => whnf)
      refine ⟨fun h => ?_, fun h => ?_⟩
      · have hk : okPrt (partRD s) b = true := okPrt_iff.2 ⟨hq, partL_le hq, h⟩
        rw [hk]
        (conv => whnf)
        ((conv in (_[_]?) => tactic => exact D9.p); (conv => whnf))
        ((conv in (_[_]?) => tactic => exact D9.z); (conv => whnf))
        ((conv in (_[_]?) => tactic => exact get_set D9.z); (conv => whnf))
        exact ⟨rfl, fin _⟩
      · have hk : okPrt (partRD s) b = false := by
          rw [Bool.eq_false_iff]
          exact fun hh => h (okPrt_iff.1 hh).2.2
        rw [hk]
        (conv => whnf)
        ((conv in (_[_]?) => tactic => exact D9.z); (conv => whnf))
        ((conv in (_[_]?) => tactic => exact get_set D9.z); (conv => whnf))
        exact ⟨rfl, fin _⟩
theorem refPV_old (b : List UInt8) : oldR (refPV b) = true := by rw [refPV_eq]; unfold agPV; cases okPrt (partC b) b <;> rfl
theorem c23 (b : List UInt8) (hb : b.length ≤ 140737488355328) : Pure prog 23 [sl b] (agPV (partC b) b) := (Pure.of_gc (refPV_old b) (c23x b hb)).of_eq (refPV_eq b)
theorem c25x (b : List UInt8) (hb : b.length ≤ 140737488355328) (H : PH) : CallOk prog 25 [sl b] H fun r H' => r = refAV b ∧ ∃ ext, H' = H ++ ext := by
  (refine callOk_of_pFun2 (tt := ttQ) (imm := imm25) follows ttQ_ok depth6 func25 (by kernel_rfl) ?_; (conv => whnf))
  have hcur : rcur ((H ++ [PObj.mk 53 zAut.cells 0]) ++ [PObj.mk 126 [sl b, .bool false] 0]) (H ++ [PObj.mk 53 zAut.cells 0]).length (some b) := ⟨b, 0, get_last _ _, fun l h => Option.some.inj h⟩
  have hl1 : ((H ++ [PObj.mk 53 zAut.cells 0]) ++ [PObj.mk 126 [sl b, .bool false] 0]).length = H.length + 2 := by simp
  have hDr : ((H ++ [PObj.mk 53 zAut.cells 0]) ++ [PObj.mk 126 [sl b, .bool false] 0])[H.length]? = some ⟨53, zAut.cells, 0⟩ := get_mid _ _ _
  have u1 : Upd (fun _ => False) H ((H ++ [PObj.mk 53 zAut.cells 0]) ++ [PObj.mk 126 [sl b, .bool false] 0]) := ((Upd.refl H).push _).push _
  have k0 : (H ++ [PObj.mk 53 zAut.cells 0]).length = H.length + 1 := by simp
  refine callK_of (c53 _ 98 _ _ hcur (fun l h => by cases h; exact hb)) ?_
  rintro _ H2 ⟨e, rfl, k1, k2, k3, k4⟩
  have k1 : H.length + 2 ≤ e := Nat.le_trans (Nat.le_of_eq hl1.symm) k1
  have hle := k4.lt
  have hs0 : ∀ l, (elemC 98 (some b)).2 = some l → l.length ≤ 140737488355328 := fun l h => ((elemC_len (tag := 98) (fun l h => by cases h; exact hb)).2 l h).1
  have hz : H2[H.length]? = some ⟨53, zAut.cells, 0⟩ := (k2.2 _ (Nat.lt_of_lt_of_le (show H.length < H.length + 2 by omega) (Nat.le_of_eq hl1.symm)) (fun h => by have h : H.length = H.length + 1 := h.trans k0; omega)).trans hDr
  have uB : Upd (fun _ => False) H H2 := u1.over k2 (fun i hi h => by have h : i = H.length + 1 := h.trans k0; omega)
  unfold refAV
  have eR : autR b = (elemC 98 (some b)).2 := rfl
  rw [eR]
  generalize (elemC 98 (some b)).2 = s at hs0 k4
  (conv => whnf)
  have l0 : ∀ l, s = some l → l.length ≤ 140737488355328 := hs0
  refine callK_of (c54 e s _ k4 l0) ?_
  rintro _ K0 ⟨rfl, u5, g0⟩
  have D1 := RakS.new hz (by omega) u5 g0 (Aut.mk (princR s).2.1 (princR s).2.2 0 0).cells 1
  (conv => whnf)
  ((conv in (_[_]?) => tactic => exact get_last _ _); (conv => whnf))
  have l1 : ∀ l, (princR s).1 = some l → l.length ≤ 140737488355328 := outR_len (elemC_len (tag := 48) l0).1
  refine callK_of (c55 e (princR s).1 _ D1.cur l1) ?_
  rintro _ K1 ⟨rfl, u6, g1⟩
  have D2 := D1.call u6 g1
  (conv => whnf)
  ((conv in (_[_]?) => tactic => exact D2.p); (conv => whnf))
  have D3 := D2.store (Aut.mk (princR s).2.1 (princR s).2.2 (rintC (princR s).1).2 0).cells 2
  have l2 : ∀ l, (rintC (princR s).1).1 = some l → l.length ≤ 140737488355328 := rintC_len l1
  refine callK_of (c55 e (rintC (princR s).1).1 _ D3.cur l2) ?_
  rintro _ K2 ⟨rfl, u7, g2⟩
  have D4 := D3.call u7 g2
  (conv => whnf)
  ((conv in (_[_]?) => tactic => exact D4.p); (conv => whnf))
  have D5 := D4.store (Aut.mk (princR s).2.1 (princR s).2.2 (rintC (princR s).1).2 (rintC (rintC (princR s).1).1).2).cells 3
  have fin : ∀ o : PObj, ∃ ext, (_ : PH).set H.length o = H ++ ext := fun o => Upd.ext ((uB.over D5.up (fun i hi h => by omega)).set (.inr (Nat.le_refl _)) o)
  have hcE := D5.cur
  ((conv in (_[_]?) => tactic => exact D5.p); (conv => whnf))
  have hen := c19 (autRD s) (by unfold autRD; exact Nat.le_trans (small _ _) (by decide)) (by unfold autRD; exact Nat.le_trans (small _ _) (by decide))
  cases hq : isAutB (autRD s)
  · refine callK_pure (hen.of_eq (if_neg (by rw [hq]; decide) : refEAut (autRD s) = _)) ?_
    (conv => whnf)
    have hk : okAut (autRD s) b = false := by
      rw [Bool.eq_false_iff]
      exact fun hh => by rw [(okAut_iff.1 hh).1] at hq; cases hq
    rw [hk]
    refine ⟨fun h => absurd h (by decide), fun _ => ?_⟩
    (conv => whnf)
    ((conv in (_[_]?) => tactic => exact D5.z); (conv => whnf))
    ((conv in (_[_]?) => tactic => exact get_set D5.z); (conv => whnf))
    exact ⟨rfl, fin _⟩
  · refine callK_pure (hen.of_eq (if_pos hq : refEAut (autRD s) = _)) ?_
    (conv => whnf)
    refine ⟨fun _ => ?_, fun h => absurd rfl h⟩
    (conv => whnf)
    refine ⟨autL (autRD s), ⟨rfl, rfl⟩, ?_⟩
    (conv => whnf)
    refine ⟨b, ⟨rfl, rfl⟩, ?_⟩
    (conv => whnf)
    refine ⟨fun h => ?_, fun h => ?_⟩
    · have hk : okAut (autRD s) b = true := okAut_iff.2 ⟨hq, autL_le hq, h⟩
      rw [hk]
      (conv => whnf)
      ((conv in (_[_]?) => tactic => exact D5.p); (conv => whnf))
      ((conv in (_[_]?) => tactic => exact D5.z); (conv => whnf))
      ((conv in (_[_]?) => tactic => exact get_set D5.z); (conv => whnf))
      exact ⟨rfl, fin _⟩
    · have hk : okAut (autRD s) b = false := by
        rw [Bool.eq_false_iff]
        exact fun hh => h (okAut_iff.1 hh).2.2
      rw [hk]
      (conv => whnf)
      ((conv in (_[_]?) => tactic => exact D5.z); (conv => whnf))
      ((conv in (_[_]?) => tactic => exact get_set D5.z); (conv => whnf))
      exact ⟨rfl, fin _⟩
theorem refAV_old (b : List UInt8) : oldR (refAV b) = true := by rw [refAV_eq]; unfold agAV; cases okAut (autC b) b <;> rfl
theorem c25 (b : List UInt8) (hb : b.length ≤ 140737488355328) : Pure prog 25 [sl b] (agAV (autC b) b) := (Pure.of_gc (refAV_old b) (c25x b hb)).of_eq (refAV_eq b)
theorem c27x (b : List UInt8) (hb : b.length ≤ 140737488355328) (H : PH) : CallOk prog 27 [sl b] H fun r H' => r = refRV b ∧ ∃ ext, H' = H ++ ext := by
  (refine callOk_of_pFun2 (tt := ttQ) (imm := imm27) follows ttQ_ok depth6 func27 (by kernel_rfl) ?_; (conv => whnf))
  have hcur : rcur ((H ++ [PObj.mk 55 zRpt.cells 0]) ++ [PObj.mk 126 [sl b, .bool false] 0]) (H ++ [PObj.mk 55 zRpt.cells 0]).length (some b) := ⟨b, 0, get_last _ _, fun l h => Option.some.inj h⟩
  have hl1 : ((H ++ [PObj.mk 55 zRpt.cells 0]) ++ [PObj.mk 126 [sl b, .bool false] 0]).length = H.length + 2 := by simp
  have hDr : ((H ++ [PObj.mk 55 zRpt.cells 0]) ++ [PObj.mk 126 [sl b, .bool false] 0])[H.length]? = some ⟨55, zRpt.cells, 0⟩ := get_mid _ _ _
  have u1 : Upd (fun _ => False) H ((H ++ [PObj.mk 55 zRpt.cells 0]) ++ [PObj.mk 126 [sl b, .bool false] 0]) := ((Upd.refl H).push _).push _
  have k0 : (H ++ [PObj.mk 55 zRpt.cells 0]).length = H.length + 1 := by simp
  refine callK_of (c53 _ 122 _ _ hcur (fun l h => by cases h; exact hb)) ?_
  rintro _ H2 ⟨e, rfl, k1, k2, k3, k4⟩
  have k1 : H.length + 2 ≤ e := Nat.le_trans (Nat.le_of_eq hl1.symm) k1
  have hle := k4.lt
  have hs0 : ∀ l, (elemC 122 (some b)).2 = some l → l.length ≤ 140737488355328 := fun l h => ((elemC_len (tag := 122) (fun l h => by cases h; exact hb)).2 l h).1
  have hz : H2[H.length]? = some ⟨55, zRpt.cells, 0⟩ := (k2.2 _ (Nat.lt_of_lt_of_le (show H.length < H.length + 2 by omega) (Nat.le_of_eq hl1.symm)) (fun h => by have h : H.length = H.length + 1 := h.trans k0; omega)).trans hDr
  have uB : Upd (fun _ => False) H H2 := u1.over k2 (fun i hi h => by have h : i = H.length + 1 := h.trans k0; omega)
  unfold refRV
  have eR : rptR b = (elemC 122 (some b)).2 := rfl
  rw [eR]
  generalize (elemC 122 (some b)).2 = s at hs0 k4
  (conv => whnf)
  have l0 : ∀ l, s = some l → l.length ≤ 140737488355328 := hs0
  refine callK_of (c82 e s _ k4 l0) ?_
  rintro _ K0 ⟨rfl, u5, g0⟩
  have D1 := RakS.new hz (by omega) u5 g0 (Rpt.mk (keyR s).2 [] [] 0 0 0).cells 1
  (conv => whnf)
  ((conv in (_[_]?) => tactic => exact get_last _ _); (conv => whnf))
  have l1 : ∀ l, (keyR s).1 = some l → l.length ≤ 140737488355328 := keyR_len l0
  refine callK_of (c54 e (keyR s).1 _ D1.cur l1) ?_
  rintro _ K1 ⟨rfl, u6, g1⟩
  have D2 := D1.call u6 g1
  (conv => whnf)
  ((conv in (_[_]?) => tactic => exact D2.p); (conv => whnf))
  have D3 := D2.store (Rpt.mk (keyR s).2 (princR (keyR s).1).2.1 (princR (keyR s).1).2.2 0 0 0).cells 2
  have l2 : ∀ l, (princR (keyR s).1).1 = some l → l.length ≤ 140737488355328 := outR_len (elemC_len (tag := 48) l1).1
  refine callK_of (c55 e (princR (keyR s).1).1 _ D3.cur l2) ?_
  rintro _ K2 ⟨rfl, u7, g2⟩
  have D4 := D3.call u7 g2
  (conv => whnf)
  ((conv in (_[_]?) => tactic => exact D4.p); (conv => whnf))
  have D5 := D4.store (Rpt.mk (keyR s).2 (princR (keyR s).1).2.1 (princR (keyR s).1).2.2 (rintC (princR (keyR s).1).1).2 0 0).cells 3
  have l3 : ∀ l, (rintC (princR (keyR s).1).1).1 = some l → l.length ≤ 140737488355328 := rintC_len l2
  refine callK_of (c55 e (rintC (princR (keyR s).1).1).1 _ D5.cur l3) ?_
  rintro _ K3 ⟨rfl, u8, g3⟩
  have D6 := D5.call u8 g3
  (conv => whnf)
  ((conv in (_[_]?) => tactic => exact D6.p); (conv => whnf))
  have D7 := D6.store (Rpt.mk (keyR s).2 (princR (keyR s).1).2.1 (princR (keyR s).1).2.2 (rintC (princR (keyR s).1).1).2 (rintC (rintC (princR (keyR s).1).1).1).2 0).cells 4
  have l4 : ∀ l, (rintC (rintC (princR (keyR s).1).1).1).1 = some l → l.length ≤ 140737488355328 := rintC_len l3
  refine callK_of (c55 e (rintC (rintC (princR (keyR s).1).1).1).1 _ D7.cur l4) ?_
  rintro _ K4 ⟨rfl, u9, g4⟩
  have D8 := D7.call u9 g4
  (conv => whnf)
  ((conv in (_[_]?) => tactic => exact D8.p); (conv => whnf))
  have D9 := D8.store (Rpt.mk (keyR s).2 (princR (keyR s).1).2.1 (princR (keyR s).1).2.2 (rintC (princR (keyR s).1).1).2 (rintC (rintC (princR (keyR s).1).1).1).2 (rintC (rintC (rintC (princR (keyR s).1).1).1).1).2).cells 5
  have fin : ∀ o : PObj, ∃ ext, (_ : PH).set H.length o = H ++ ext := fun o => Upd.ext ((uB.over D9.up (fun i hi h => by omega)).set (.inr (Nat.le_refl _)) o)
  have hcE := D9.cur
  ((conv in (_[_]?) => tactic => exact D9.p); (conv => whnf))
  have hen := c21 (rptRD s) (by unfold rptRD; exact Nat.le_trans (small _ _) (by decide)) (by unfold rptRD; exact Nat.le_trans (small _ _) (by decide))
  cases hq : isRptB (rptRD s)
  · refine callK_pure (hen.of_eq (if_neg (by rw [hq]; decide) : refERpt (rptRD s) = _)) ?_
    (conv => whnf)
    obtain ⟨bc, vc, hcc, _⟩ := hcE
    have eE : rptRE s = (rintC (rintC (rintC (princR (keyR s).1).1).1).1).1 := rfl
    rw [eE]
    ((conv in (_[_]?) => tactic => exact hcc); (conv => whnf))
    cases (rintC (rintC (rintC (princR (keyR s).1).1).1).1).1 with
    | none =>
      (conv => whnf)
      ((conv in (_[_]?) => tactic => exact D9.z); (conv => whnf))
      ((conv in (_[_]?) => tactic => exact get_set D9.z); (conv => whnf))
      exact ⟨rfl, fin _⟩
    | some l =>
      (conv => whnf)
      have hk : okRpt (rptRD s) b = false := by
        rw [Bool.eq_false_iff]
        exact fun hh => by rw [(okRpt_iff.1 hh).1] at hq; cases hq
      rw [hk]
      refine ⟨fun h => absurd h (by decide), fun _ => ?_⟩
      (conv => whnf)
      ((conv in (_[_]?) => tactic => exact D9.z); (conv => whnf))
      ((conv in (_[_]?) => tactic => exact get_set D9.z); (conv => whnf))
      exact ⟨rfl, fin _⟩
  · refine callK_pure (hen.of_eq (if_pos hq : refERpt (rptRD s) = _)) ?_
    (conv => whnf)
    obtain ⟨bc, vc, hcc, _⟩ := hcE
    have eE : rptRE s = (rintC (rintC (rintC (princR (keyR s).1).1).1).1).1 := rfl
    rw [eE]
    ((conv in (_[_]?) => tactic => exact hcc); (conv => whnf))
    cases (rintC (rintC (rintC (princR (keyR s).1).1).1).1).1 with
    | none =>
      (conv => whnf)
      ((conv in (_[_]?) => tactic => exact D9.z); (conv => whnf))
      ((conv in (_[_]?) => tactic => exact get_set D9.z); (conv => whnf))
      exact ⟨rfl, fin _⟩
    | some l =>
      (conv => whnf)
      refine ⟨fun _ => ?_, fun h => absurd rfl h⟩
      (conv => whnf)
      refine ⟨rptL (rptRD s), ⟨rfl, rfl⟩, ?_⟩
      (conv => whnf)
      refine ⟨b, ⟨rfl, rfl⟩, ?_⟩
      (conv => whnf)
      refine ⟨fun h => ?_, fun h => ?_⟩
      · have hk : okRpt (rptRD s) b = true := okRpt_iff.2 ⟨hq, rptL_le hq, h⟩
        rw [hk]
        (conv => whnf)
        ((conv in (_[_]?) => tactic => exact D9.p); (conv => whnf))
        ((conv in (_[_]?) => tactic => exact D9.z); (conv => whnf))
        ((conv in (_[_]?) => tactic => exact get_set D9.z); (conv => whnf))
        exact ⟨rfl, fin _⟩
      · have hk : okRpt (rptRD s) b = false := by
          rw [Bool.eq_false_iff]
          exact fun hh => h (okRpt_iff.1 hh).2.2
        rw [hk]
        (conv => whnf)
        ((conv in (_[_]?) => tactic => exact D9.z); (conv => whnf))
        ((conv in (_[_]?) => tactic => exact get_set D9.z); (conv => whnf))
        exact ⟨rfl, fin _⟩
theorem refRV_old (b : List UInt8) : oldR (refRV b) = true := by rw [refRV_eq]; unfold agRV; cases okRpt (rptC b) b <;> rfl
theorem c27 (b : List UInt8) (hb : b.length ≤ 140737488355328) : Pure prog 27 [sl b] (agRV (rptC b) b) := (Pure.of_gc (refRV_old b) (c27x b hb)).of_eq (refRV_eq b)
end Go.Proofs.Tryz

set_option maxRecDepth 100000
set_option maxHeartbeats 4000000
set_option linter.unusedVariables false
set_option linter.unusedSimpArgs false
namespace Go.Proofs.Tryz
open Go Ps
def ttS : TT := [(3, ⟨.int .i64, 1, 8, [.int .i64 0]⟩), (4, ⟨.bool, 1, 1, [.bool false]⟩), (5, ⟨.int .u8, 1, 1, [.int .u8 0]⟩), (9, ⟨.str, 1, 16, [.str []]⟩), (22, ⟨.slice 5, 1, 24, [.slice 0 [] (some 5)]⟩), (24, ⟨.strct [(9, 0), (9, 1)], 2, 32, [.str [], .str []]⟩), (26, ⟨.strct [(24, 0), (24, 2), (3, 4), (3, 5)], 6, 80, [.str [], .str [], .str [], .str [], .int .i64 0, .int .i64 0]⟩), (28, ⟨.strct [(24, 0), (3, 2), (22, 3)], 4, 64, [.str [], .str [], .int .i64 0, .slice 0 [] (some 5)]⟩), (30, ⟨.strct [(28, 0), (22, 4), (24, 5), (3, 7), (3, 8)], 9, 136, [.str [], .str [], .int .i64 0, .slice 0 [] (some 5), .slice 0 [] (some 5), .str [], .str [], .int .i64 0, .int .i64 0]⟩), (32, ⟨.strct [(24, 0), (28, 2), (22, 6)], 7, 120, [.str [], .str [], .str [], .str [], .int .i64 0, .slice 0 [] (some 5), .slice 0 [] (some 5)]⟩), (34, ⟨.strct [(28, 0), (22, 4)], 5, 88, [.str [], .str [], .int .i64 0, .slice 0 [] (some 5), .slice 0 [] (some 5)]⟩), (35, ⟨.int .i64, 1, 8, [.int .i64 0]⟩), (37, ⟨.strct [(35, 0), (3, 1)], 2, 16, [.int .i64 0, .int .i64 0]⟩), (39, ⟨.strct [(3, 0), (26, 1), (30, 7), (32, 16), (34, 23), (37, 28)], 30, 448, [.int .i64 0, .str [], .str [], .str [], .str [], .int .i64 0, .int .i64 0, .str [], .str [], .int .i64 0, .slice 0 [] (some 5), .slice 0 [] (some 5), .str [], .str [], .int .i64 0, .int .i64 0, .str [], .str [], .str [], .str [], .int .i64 0, .slice 0 [] (some 5), .slice 0 [] (some 5), .str [], .str [], .int .i64 0, .slice 0 [] (some 5), .slice 0 [] (some 5), .int .i64 0, .int .i64 0]⟩), (49, ⟨.arr 32 5, 32, 32, List.replicate 32 (.int .u8 0)⟩), (51, ⟨.strct [(24, 0), (49, 2), (9, 34), (3, 35), (3, 36)], 37, 96, [.str [], .str []] ++ List.replicate 32 (.int .u8 0) ++ [.str [], .int .i64 0, .int .i64 0]⟩), (53, ⟨.strct [(24, 0), (3, 2), (3, 3)], 4, 48, [.str [], .str [], .int .i64 0, .int .i64 0]⟩), (55, ⟨.strct [(49, 0), (24, 32), (3, 34), (3, 35), (3, 36)], 37, 88, List.replicate 32 (.int .u8 0) ++ [.str [], .str [], .int .i64 0, .int .i64 0, .int .i64 0]⟩)]
theorem ttS_ok : ttOk prog ttS = true := by kernel_rfl
theorem fitBytesS (d : Nat) : ∀ (l : List UInt8), FitAs (FitP ttS (d + 1) 5) 1 l.length (l.map byteC)
  | [] => rfl
  | x :: l => ⟨⟨by simp, (x.toNat : Int), rfl⟩, fitBytesS d l⟩
theorem fitPrS (a b : List UInt8) : FitP ttS 5 24 [.str a, .str b] := ⟨rfl, ⟨by show 1 ≤ 2; omega, a, rfl⟩, rfl, ⟨by show 1 ≤ 1; omega, b, rfl⟩, rfl⟩
theorem fitPrt (p : Prt) : FitP ttS 6 51 p.cells := ⟨rfl, ⟨by show 2 ≤ 37; omega, fitPrS p.r p.n⟩, rfl, ⟨by show 32 ≤ 35; omega, ⟨by show 0 < 32; omega, fitBytesS 3 (keyB p.k)⟩⟩, rfl, ⟨by show 1 ≤ 3; omega, p.tr, rfl⟩, rfl, ⟨by show 1 ≤ 2; omega, p.st, rfl⟩, rfl, ⟨by show 1 ≤ 1; omega, p.en, rfl⟩, rfl⟩
def eBPrt (p : Prt) : List UInt8 := if isPartB p = true then partL p else []
def eEPrt (p : Prt) : Int := if isPartB p = true then 0 else 1
def gPPrt (p : Prt) (b : List UInt8) : Prt := if okPrt p b = true then p else zPrt
def gEPrt (p : Prt) (b : List UInt8) : Int := if okPrt p b = true then 0 else 2
theorem eBPrt_le (p : Prt) : (eBPrt p).length ≤ 2000 := by
  unfold eBPrt
  split
  · rename_i h; exact partL_le h
  · exact Nat.zero_le _
theorem agPrt_eq (p : Prt) (b : List UInt8) : agPV p b = .tup [.agg (gPPrt p b).cells, .int .i64 (gEPrt p b)] := by
  unfold gPPrt gEPrt
  cases h : okPrt p b
  · rw [agPV_no h]; rfl
  · rw [agPV_yes h]; rfl
theorem c16s (p : Prt) (hr : p.r.length ≤ 1000000) (hn : p.n.length ≤ 1000000) (ht : p.tr.length ≤ 1000000) : Pure prog 16 [.agg p.cells] (.tup [sl (eBPrt p), .int .i64 (eEPrt p)]) := (c16 p hr hn ht).of_eq (by
  unfold eBPrt eEPrt
  cases h : isPartB p
  · rw [encPV_no (fun hh => by rw [h] at hh; cases hh.1)]; rfl
  · rw [encPV_yes ⟨h, partL_le h⟩]; rfl)
theorem renPrt_eq (p : Prt) : ∃ cs, refEPrt p = .tup cs ∧ PV.tup (cs.map dem) = .tup [sl (eBPrt p), .int .i64 (eEPrt p)] := by
  unfold refEPrt eBPrt eEPrt
  cases h : isPartB p
  · exact ⟨_, rfl, rfl⟩
  · exact ⟨_, rfl, rfl⟩
theorem c17s (p : Prt) (hr : p.r.length ≤ 1000000) (hn : p.n.length ≤ 1000000) (ht : p.tr.length ≤ 1000000) : Pure prog 17 [.agg p.cells] (.tup [sl (eBPrt p), .int .i64 (eEPrt p)]) := by
  obtain ⟨cs, h1, h2⟩ := renPrt_eq p
  exact ((c17 p hr hn ht).of_eq h1).demT.of_eq h2
theorem c22s (b : List UInt8) (hb : b.length ≤ 140737488355328) : Pure prog 22 [sl b] (.tup [.agg (gPPrt (partC b) b).cells, .int .i64 (gEPrt (partC b) b)]) := (c22 b hb).of_eq (agPrt_eq _ _)
theorem c23s (b : List UInt8) (hb : b.length ≤ 140737488355328) : Pure prog 23 [sl b] (.tup [.agg (gPPrt (partC b) b).cells, .int .i64 (gEPrt (partC b) b)]) := (c23 b hb).of_eq (agPrt_eq _ _)
theorem fitAut (p : Aut) : FitP ttS 6 53 p.cells := ⟨rfl, ⟨by show 2 ≤ 4; omega, fitPrS p.r p.n⟩, rfl, ⟨by show 1 ≤ 2; omega, p.tm, rfl⟩, rfl, ⟨by show 1 ≤ 1; omega, p.sq, rfl⟩, rfl⟩
def eBAut (p : Aut) : List UInt8 := if isAutB p = true then autL p else []
def eEAut (p : Aut) : Int := if isAutB p = true then 0 else 1
def gPAut (p : Aut) (b : List UInt8) : Aut := if okAut p b = true then p else zAut
def gEAut (p : Aut) (b : List UInt8) : Int := if okAut p b = true then 0 else 2
theorem eBAut_le (p : Aut) : (eBAut p).length ≤ 2000 := by
  unfold eBAut
  split
  · rename_i h; exact autL_le h
  · exact Nat.zero_le _
theorem agAut_eq (p : Aut) (b : List UInt8) : agAV p b = .tup [.agg (gPAut p b).cells, .int .i64 (gEAut p b)] := by
  unfold gPAut gEAut
  cases h : okAut p b
  · rw [agAV_no h]; rfl
  · rw [agAV_yes h]; rfl
theorem c18s (p : Aut) (hr : p.r.length ≤ 1000000) (hn : p.n.length ≤ 1000000) : Pure prog 18 [.agg p.cells] (.tup [sl (eBAut p), .int .i64 (eEAut p)]) := (c18 p hr hn).of_eq (by
  unfold eBAut eEAut
  cases h : isAutB p
  · rw [encAV_no (fun hh => by rw [h] at hh; cases hh.1)]; rfl
  · rw [encAV_yes ⟨h, autL_le h⟩]; rfl)
theorem renAut_eq (p : Aut) : ∃ cs, refEAut p = .tup cs ∧ PV.tup (cs.map dem) = .tup [sl (eBAut p), .int .i64 (eEAut p)] := by
  unfold refEAut eBAut eEAut
  cases h : isAutB p
  · exact ⟨_, rfl, rfl⟩
  · exact ⟨_, rfl, rfl⟩
theorem c19s (p : Aut) (hr : p.r.length ≤ 1000000) (hn : p.n.length ≤ 1000000) : Pure prog 19 [.agg p.cells] (.tup [sl (eBAut p), .int .i64 (eEAut p)]) := by
  obtain ⟨cs, h1, h2⟩ := renAut_eq p
  exact ((c19 p hr hn).of_eq h1).demT.of_eq h2
theorem c24s (b : List UInt8) (hb : b.length ≤ 140737488355328) : Pure prog 24 [sl b] (.tup [.agg (gPAut (autC b) b).cells, .int .i64 (gEAut (autC b) b)]) := (c24 b hb).of_eq (agAut_eq _ _)
theorem c25s (b : List UInt8) (hb : b.length ≤ 140737488355328) : Pure prog 25 [sl b] (.tup [.agg (gPAut (autC b) b).cells, .int .i64 (gEAut (autC b) b)]) := (c25 b hb).of_eq (agAut_eq _ _)
theorem fitRpt (p : Rpt) : FitP ttS 6 55 p.cells := ⟨rfl, ⟨by show 32 ≤ 37; omega, ⟨by show 0 < 32; omega, fitBytesS 3 (keyB p.k)⟩⟩, rfl, ⟨by show 2 ≤ 5; omega, fitPrS p.r p.n⟩, rfl, ⟨by show 1 ≤ 3; omega, p.st, rfl⟩, rfl, ⟨by show 1 ≤ 2; omega, p.en, rfl⟩, rfl, ⟨by show 1 ≤ 1; omega, p.nc, rfl⟩, rfl⟩
def eBRpt (p : Rpt) : List UInt8 := if isRptB p = true then rptL p else []
def eERpt (p : Rpt) : Int := if isRptB p = true then 0 else 1
def gPRpt (p : Rpt) (b : List UInt8) : Rpt := if okRpt p b = true then p else zRpt
def gERpt (p : Rpt) (b : List UInt8) : Int := if okRpt p b = true then 0 else 2
theorem eBRpt_le (p : Rpt) : (eBRpt p).length ≤ 2000 := by
  unfold eBRpt
  split
  · rename_i h; exact rptL_le h
  · exact Nat.zero_le _
theorem agRpt_eq (p : Rpt) (b : List UInt8) : agRV p b = .tup [.agg (gPRpt p b).cells, .int .i64 (gERpt p b)] := by
  unfold gPRpt gERpt
  cases h : okRpt p b
  · rw [agRV_no h]; rfl
  · rw [agRV_yes h]; rfl
theorem c20s (p : Rpt) (hr : p.r.length ≤ 1000000) (hn : p.n.length ≤ 1000000) : Pure prog 20 [.agg p.cells] (.tup [sl (eBRpt p), .int .i64 (eERpt p)]) := (c20 p hr hn).of_eq (by
  unfold eBRpt eERpt
  cases h : isRptB p
  · rw [encRV_no (fun hh => by rw [h] at hh; cases hh.1)]; rfl
  · rw [encRV_yes ⟨h, rptL_le h⟩]; rfl)
theorem renRpt_eq (p : Rpt) : ∃ cs, refERpt p = .tup cs ∧ PV.tup (cs.map dem) = .tup [sl (eBRpt p), .int .i64 (eERpt p)] := by
  unfold refERpt eBRpt eERpt
  cases h : isRptB p
  · exact ⟨_, rfl, rfl⟩
  · exact ⟨_, rfl, rfl⟩
theorem c21s (p : Rpt) (hr : p.r.length ≤ 1000000) (hn : p.n.length ≤ 1000000) : Pure prog 21 [.agg p.cells] (.tup [sl (eBRpt p), .int .i64 (eERpt p)]) := by
  obtain ⟨cs, h1, h2⟩ := renRpt_eq p
  exact ((c21 p hr hn).of_eq h1).demT.of_eq h2
theorem c26s (b : List UInt8) (hb : b.length ≤ 140737488355328) : Pure prog 26 [sl b] (.tup [.agg (gPRpt (rptC b) b).cells, .int .i64 (gERpt (rptC b) b)]) := (c26 b hb).of_eq (agRpt_eq _ _)
theorem c27s (b : List UInt8) (hb : b.length ≤ 140737488355328) : Pure prog 27 [sl b] (.tup [.agg (gPRpt (rptC b) b).cells, .int .i64 (gERpt (rptC b) b)]) := (c27 b hb).of_eq (agRpt_eq _ _)
end Go.Proofs.Tryz

set_option maxRecDepth 100000
set_option linter.unusedVariables false
namespace Go.Proofs.Tryz
open Go Ps
open Go.Proofs.YtbejjlmdmakdfaaGreatDoor (rows_ints bytes_of)
theorem rdKey {B n : Nat} {ps : List PV} (h : RdP prog B (n + 2) 49 ps) : ∃ k : Nat → UInt8, ps = keyC k := by
  obtain ⟨rs, hl, rfl, hr⟩ : ∃ rs : List (List PV), rs.length = 32 ∧ ps = rs.flatten ∧ ∀ r ∈ rs, RdP prog B (n + 1) 5 r := h
  obtain ⟨xs, e1, e2, e3⟩ := rows_ints (k := .u8) fun r hr' => hr r hr'
  obtain ⟨bs, e4, e5⟩ := bytes_of e3
  refine ⟨keyOf bs, ?_⟩
  have hb : bs.length = 32 := by omega
  rw [e2, e5, ← kcB_all bs hb]
  unfold kcB
  rw [List.take_of_length_le (by omega), show 32 - 32 = 0 from rfl, List.replicate_zero, List.append_nil]
theorem rdPart {B n : Nat} {ps : List PV} (h : RdP prog B (n + 3) 51 ps) : ∃ p : Prt, ps = p.cells ∧ p.r.length ≤ B ∧ p.n.length ≤ B ∧ p.tr.length ≤ B := by
  obtain ⟨a, _, rfl, ha, b, _, rfl, hb, c, _, rfl, hc, d, _, rfl, hd, e, _, rfl, he, rfl⟩ : ∃ a x, ps = a ++ x ∧ RdP prog B (n + 2) 24 a ∧ ∃ b y, x = b ++ y ∧ RdP prog B (n + 2) 49 b ∧ ∃ c z, y = c ++ z ∧ RdP prog B (n + 2) 9 c ∧ ∃ d u, z = d ++ u ∧ RdP prog B (n + 2) 3 d ∧
    ∃ e v, u = e ++ v ∧ RdP prog B (n + 2) 3 e ∧ v = [] := h
  obtain ⟨r, k, rfl, h1, h2⟩ := rdPrinc ha
  obtain ⟨key, rfl⟩ := rdKey hb
  obtain ⟨t, rfl, h3⟩ := rdStr hc
  obtain ⟨x, rfl, _⟩ := rdInt hd
  obtain ⟨y, rfl, _⟩ := rdInt he
  exact ⟨⟨r, k, key, t, x, y⟩, rfl, h1, h2, h3⟩
theorem rdAuthn {B n : Nat} {ps : List PV} (h : RdP prog B (n + 3) 53 ps) : ∃ p : Aut, ps = p.cells ∧ p.r.length ≤ B ∧ p.n.length ≤ B := by
  obtain ⟨a, _, rfl, ha, d, _, rfl, hd, e, _, rfl, he, rfl⟩ : ∃ a x, ps = a ++ x ∧ RdP prog B (n + 2) 24 a ∧ ∃ d u, x = d ++ u ∧ RdP prog B (n + 2) 3 d ∧ ∃ e v, u = e ++ v ∧ RdP prog B (n + 2) 3 e ∧ v = [] := h
  obtain ⟨r, k, rfl, h1, h2⟩ := rdPrinc ha
  obtain ⟨x, rfl, _⟩ := rdInt hd
  obtain ⟨y, rfl, _⟩ := rdInt he
  exact ⟨⟨r, k, x, y⟩, rfl, h1, h2⟩
theorem rdRepP {B n : Nat} {ps : List PV} (h : RdP prog B (n + 3) 55 ps) : ∃ p : Rpt, ps = p.cells ∧ p.r.length ≤ B ∧ p.n.length ≤ B := by
  obtain ⟨b, _, rfl, hb, a, _, rfl, ha, c, _, rfl, hc, d, _, rfl, hd, e, _, rfl, he, rfl⟩ : ∃ b x, ps = b ++ x ∧ RdP prog B (n + 2) 49 b ∧ ∃ a y, x = a ++ y ∧ RdP prog B (n + 2) 24 a ∧ ∃ c z, y = c ++ z ∧ RdP prog B (n + 2) 3 c ∧ ∃ d u, z = d ++ u ∧ RdP prog B (n + 2) 3 d ∧
    ∃ e v, u = e ++ v ∧ RdP prog B (n + 2) 3 e ∧ v = [] := h
  obtain ⟨r, k, rfl, h1, h2⟩ := rdPrinc ha
  obtain ⟨key, rfl⟩ := rdKey hb
  obtain ⟨t, rfl, _⟩ := rdInt hc
  obtain ⟨x, rfl, _⟩ := rdInt hd
  obtain ⟨y, rfl, _⟩ := rdInt he
  exact ⟨⟨key, r, k, t, x, y⟩, rfl, h1, h2⟩
end Go.Proofs.Tryz

set_option maxRecDepth 100000
namespace Go.Proofs.YtbejjlmdmakdfaaGreatDoor
open Go Go.RowKit Ps
section
variable {H : Type} {P : Program} {M : Nat}
/-- Nothing of this type holds a row of places larger than so. -/
def okB (P : Program) (M : Nat) : Nat → TypeId → Bool
  | 0, _ => false
  | n + 1, t => match P.underlying t with
    | some (.pointer e) => okB P M n e
    | some (.slice e) => Nat.ble (P.bytesOf e) M && okB P M n e
    | some (.struct fs) => fs.toList.all fun f => okB P M n f.type
    | some (.array _ e) => okB P M n e
    | some (.map _ _) => false
    | _ => true
theorem bulk_len (l : List (DataW H)) : l.length ≤ Rows.uptoBulkAll l := by
  induction l with
  | nil => simp
  | cons x r ih =>
    have : 1 ≤ Rows.uptoBulk x := by
      cases x with
      | lit l => cases l <;> simp [Rows.uptoBulk]
      | _ => simp [Rows.uptoBulk]
    simp only [Rows.uptoBulkAll, List.length_cons]; omega
mutual
theorem w_le (h1 : 1 ≤ M) : ∀ (d : DataW H) (n : Nat) (t : TypeId), okB P M n t = true → ∀ (y : Nat), y ∈ d.weights P t → y ≤ Rows.uptoBulk d * M
  | .lit (.string bytes), n, t, ht, y, h => by
    simp only [DataW.weights, List.mem_singleton] at h
    subst h
    simp only [Rows.uptoBulk]
    exact Nat.le_trans (Nat.le_succ _) (Nat.le_mul_of_pos_right _ h1)
  | .lit (.bool _), n, t, ht, y, h => by simp [DataW.weights] at h
  | .lit (.int _ _), n, t, ht, y, h => by simp [DataW.weights] at h
  | .lit (.float _ _), n, t, ht, y, h => by simp [DataW.weights] at h
  | .lit .nil, n, t, ht, y, h => by simp [DataW.weights] at h
  | .nil, n, t, ht, y, h => by simp [DataW.weights] at h
  | _, 0, t, ht, y, h => by cases ht
  | .ptr d, n + 1, t, ht, y, h => by
    unfold DataW.weights at h
    unfold okB at ht
    split at h
    · rename_i e hu
      rw [hu] at ht
      have := w_le h1 d n _ ht y h
      simp only [Rows.uptoBulk]
      exact Nat.le_trans this (Nat.mul_le_mul_right _ (Nat.le_succ _))
    · cases h
  | .slice elems spare, n + 1, t, ht, y, h => by
    unfold DataW.weights at h
    unfold okB at ht
    simp only [Rows.uptoBulk]
    split at h
    · rename_i e hu
      rw [hu] at ht
      simp only [Bool.and_eq_true] at ht
      rw [List.mem_cons, List.mem_append] at h
      have k1 := bulk_len elems
      have k2 := bulk_len spare
      rcases h with rfl | h | h
      · exact Nat.mul_le_mul (by omega) (Nat.le_of_ble_eq_true ht.1)
      · exact Nat.le_trans (all_le h1 elems n e ht.2 y h) (Nat.mul_le_mul_right _ (by omega))
      · exact Nat.le_trans (all_le h1 spare n e ht.2 y h) (Nat.mul_le_mul_right _ (by omega))
    · cases h
  | .agg parts, n + 1, t, ht, y, h => by
    unfold DataW.weights at h
    unfold okB at ht
    simp only [Rows.uptoBulk]
    split at h
    · rename_i fs hu
      rw [hu] at ht
      refine Nat.le_trans (each_le h1 parts n _ (fun u hu => ?_) y h) (Nat.mul_le_mul_right _ (by omega))
      obtain ⟨f, hf, rfl⟩ := List.mem_map.1 hu
      exact List.all_eq_true.1 ht f hf
    · rename_i hu
      rw [hu] at ht
      exact Nat.le_trans (all_le h1 parts n _ ht y h) (Nat.mul_le_mul_right _ (by omega))
    · cases h
  | .iface _ _, n, t, ht, y, h => by simp [DataW.weights] at h
  | .map es, n + 1, t, ht, y, h => by
    unfold DataW.weights at h
    unfold okB at ht
    split at h
    · rename_i hu
      rw [hu] at ht
      cases ht
    · cases h
  | .held _, n, t, ht, y, h => by simp [DataW.weights] at h
theorem all_le (h1 : 1 ≤ M) : ∀ (l : List (DataW H)) (n : Nat) (e : TypeId), okB P M n e = true → ∀ (y : Nat), y ∈ DataW.weightsAll P e l → y ≤ Rows.uptoBulkAll l * M
  | [], n, e, ht, y, h => by simp [DataW.weightsAll] at h
  | d :: r, n, e, ht, y, h => by
    simp only [DataW.weightsAll, List.mem_append] at h
    simp only [Rows.uptoBulkAll]
    rcases h with h | h
    · exact Nat.le_trans (w_le h1 d n e ht y h) (Nat.mul_le_mul_right _ (by omega))
    · exact Nat.le_trans (all_le h1 r n e ht y h) (Nat.mul_le_mul_right _ (by omega))
theorem each_le (h1 : 1 ≤ M) : ∀ (l : List (DataW H)) (n : Nat) (ts : List TypeId), (∀ t ∈ ts, okB P M n t = true) → ∀ (y : Nat), y ∈ DataW.weightsEach P ts l → y ≤ Rows.uptoBulkAll l * M
  | [], n, ts, ht, y, h => by cases ts <;> simp [DataW.weightsEach] at h
  | d :: r, n, [], ht, y, h => by simp [DataW.weightsEach] at h
  | d :: r, n, t :: ts, ht, y, h => by
    simp only [DataW.weightsEach, List.mem_append] at h
    simp only [Rows.uptoBulkAll]
    rcases h with h | h
    · exact Nat.le_trans (w_le h1 d n t (ht t List.mem_cons_self) y h) (Nat.mul_le_mul_right _ (by omega))
    · exact Nat.le_trans (each_le h1 r n ts (fun u hu => ht u (List.mem_cons_of_mem _ hu)) y h) (Nat.mul_le_mul_right _ (by omega))
end
end
theorem bulk_each {H : Type} {ts : List TypeId} {l : List (DataW H)} (ht : (ts.all fun t => okB Tryz.prog 1024 8 t) = true) (h : Rows.uptoSmall H l = true) : ∀ y ∈ DataW.weightsEach Tryz.prog ts l, y ≤ 1073741824 := fun y hy => by
  have hb : Rows.uptoBulkAll l ≤ 1048576 := of_decide_eq_true h
  have := each_le (M := 1024) (by decide) l 8 ts (fun t h => List.all_eq_true.1 ht t h) y hy
  exact Nat.le_trans this (Nat.le_trans (Nat.mul_le_mul_right _ hb) (by decide))
end Go.Proofs.YtbejjlmdmakdfaaGreatDoor

set_option maxRecDepth 100000
set_option maxHeartbeats 4000000
set_option linter.unusedVariables false
set_option linter.unusedSimpArgs false
namespace Go.Proofs.Tryz
open Go Ps
theorem laid_tag (m : Msg) : ∃ t x, laidB m = wrapB t x ∧ (t = 106 ∨ t = 108 ∨ t = 107 ∨ t = 110 ∨ t = 126) := by
  unfold laidB
  split
  · exact ⟨_, _, rfl, by decide⟩
  · split
    · exact ⟨_, _, rfl, by decide⟩
    · split
      · exact ⟨_, _, rfl, by decide⟩
      · split
        · exact ⟨_, _, rfl, by decide⟩
        · exact ⟨_, _, rfl, by decide⟩
theorem wrap_head {t t' : UInt8} {x x' : List UInt8} (h : wrapB t x = wrapB t' x') : t = t' := by
  have : (wrapB t x).head? = (wrapB t' x').head? := by rw [h]
  exact Option.some.inj this
theorem no_msg {t : UInt8} {x : List UInt8} (h : ¬ (t = 106 ∨ t = 108 ∨ t = 107 ∨ t = 110 ∨ t = 126)) : okM (takenB (wrapB t x)) (wrapB t x) = false := by
  cases hc : okM (takenB (wrapB t x)) (wrapB t x)
  · rfl
  · obtain ⟨j1, j2, j3⟩ := okM_iff.1 hc
    obtain ⟨t', x', e, ht⟩ := laid_tag (takenB (wrapB t x))
    rw [e] at j3
    rw [wrap_head j3] at ht
    exact absurd ht h
theorem no_Prt {t : UInt8} {y : List UInt8} (h : t ≠ 99) : gEPrt (partC (wrapB t y)) (wrapB t y) = 2 := by
  unfold gEPrt
  refine if_neg fun hc => h ?_
  exact (wrap_head (okPrt_iff.1 hc).2.2).symm
theorem ebPrt {p : Prt} (h : isPartB p = true) : eBPrt p = partL p ∧ eEPrt p = 0 := ⟨if_pos h, if_pos h⟩
theorem prPrt {p : Prt} (h : isPartB p = true) : p.r.length ≤ 1000000 ∧ p.n.length ≤ 1000000 ∧ p.tr.length ≤ 1000000 := by
  unfold isPartB at h
  simp only [Bool.and_eq_true] at h
  have gp := princ_len h.1.1
  have gt := isText_len h.1.2
  have g_st := inZ_le h.2.1
  have g_en := inZ_le h.2.2
  exact ⟨by omega, by omega, by omega⟩
theorem lePrt (p : Prt) : 0 < (partL p).length := by unfold partL wrapB; simp
theorem no_Aut {t : UInt8} {y : List UInt8} (h : t ≠ 98) : gEAut (autC (wrapB t y)) (wrapB t y) = 2 := by
  unfold gEAut
  refine if_neg fun hc => h ?_
  exact (wrap_head (okAut_iff.1 hc).2.2).symm
theorem ebAut {p : Aut} (h : isAutB p = true) : eBAut p = autL p ∧ eEAut p = 0 := ⟨if_pos h, if_pos h⟩
theorem prAut {p : Aut} (h : isAutB p = true) : p.r.length ≤ 1000000 ∧ p.n.length ≤ 1000000 := by
  unfold isAutB at h
  simp only [Bool.and_eq_true] at h
  have gp := princ_len h.1.1
  have g_tm := inZ_le h.1.2
  have g_sq := inZ_le h.2
  exact ⟨by omega, by omega⟩
theorem leAut (p : Aut) : 0 < (autL p).length := by unfold autL wrapB; simp
theorem no_Rpt {t : UInt8} {y : List UInt8} (h : t ≠ 122) : gERpt (rptC (wrapB t y)) (wrapB t y) = 2 := by
  unfold gERpt
  refine if_neg fun hc => h ?_
  exact (wrap_head (okRpt_iff.1 hc).2.2).symm
theorem ebRpt {p : Rpt} (h : isRptB p = true) : eBRpt p = rptL p ∧ eERpt p = 0 := ⟨if_pos h, if_pos h⟩
theorem prRpt {p : Rpt} (h : isRptB p = true) : p.r.length ≤ 1000000 ∧ p.n.length ≤ 1000000 := by
  unfold isRptB at h
  simp only [Bool.and_eq_true] at h
  have gp := princ_len h.1.1
  have g_st := inZ_le h.1.2.1
  have g_en := inZ_le h.1.2.2
  have g_nc := inZ_le h.2
  exact ⟨by omega, by omega⟩
theorem leRpt (p : Rpt) : 0 < (rptL p).length := by unfold rptL wrapB; simp
def imm10 : List Nat := [3, 4, 5]
theorem c10 (p : Prt) (a : Aut) (r : Rpt) (hp1 : p.r.length ≤ 1099511627775) (hp2 : p.n.length ≤ 1099511627775) (hp3 : p.tr.length ≤ 1099511627775) (ha1 : a.r.length ≤ 1099511627775) (ha2 : a.n.length ≤ 1099511627775) (hr1 : r.r.length ≤ 1099511627775) (hr2 : r.n.length ≤ 1099511627775) :
    CallOk prog 10 [.agg p.cells, .agg a.cells, .agg r.cells] [] fun x _ => x = .bool true := by
  (refine callOk_of_pFun2 (tt := ttS) (imm := imm10) follows ttS_ok depth6 func10 (by kernel_rfl) ?_; (conv => whnf))
  refine ⟨fun h => ?_, fun h => ?_⟩
  · (conv => whnf)
    rfl
  (conv => whnf)
  refine callK_pure (c48 p hp1 hp2 hp3) ?_
  cases hPrt : isPartB p
  · (conv => whnf)
    rfl
  (conv => whnf)
  refine callK_pure (c49 a ha1 ha2) ?_
  cases hAut : isAutB a
  · (conv => whnf)
    rfl
  (conv => whnf)
  refine callK_pure (c50 r hr1 hr2) ?_
  cases hRpt : isRptB r
  · (conv => whnf)
    rfl
  (conv => whnf)
  refine callK_pure ((c16s p (prPrt hPrt).1 (prPrt hPrt).2.1 (prPrt hPrt).2.2).of_eq (by rw [(ebPrt hPrt).1, (ebPrt hPrt).2])) ?_
  (conv => whnf)
  refine callK_pure ((c18s a (prAut hAut).1 (prAut hAut).2).of_eq (by rw [(ebAut hAut).1, (ebAut hAut).2])) ?_
  (conv => whnf)
  refine callK_pure ((c20s r (prRpt hRpt).1 (prRpt hRpt).2).of_eq (by rw [(ebRpt hRpt).1, (ebRpt hRpt).2])) ?_
  (conv => whnf)
  refine callK_pure ((c22s (autL a) (by have := autL_le hAut; omega)).of_eq (congrArg (fun n => PV.tup [.agg (gPPrt (partC (autL a)) (autL a)).cells, .int .i64 n]) (no_Prt (by decide)))) ?_
  (conv => whnf)
  refine callK_pure ((c24s (rptL r) (by have := rptL_le hRpt; omega)).of_eq (congrArg (fun n => PV.tup [.agg (gPAut (autC (rptL r)) (rptL r)).cells, .int .i64 n]) (no_Aut (by decide)))) ?_
  (conv => whnf)
  refine callK_pure ((c26s (partL p) (by have := partL_le hPrt; omega)).of_eq (congrArg (fun n => PV.tup [.agg (gPRpt (rptC (partL p)) (partL p)).cells, .int .i64 n]) (no_Rpt (by decide)))) ?_
  (conv => whnf)
  refine callK_pure ((c11 (partL p) (by have := partL_le hPrt; omega)).of_eq (agM_no (no_msg (by decide)))) ?_
  (conv => whnf)
  refine callK_pure ((c11 (autL a) (by have := autL_le hAut; omega)).of_eq (agM_no (no_msg (by decide)))) ?_
  (conv => whnf)
  refine callK_pure ((c11 (rptL r) (by have := rptL_le hRpt; omega)).of_eq (agM_no (no_msg (by decide)))) ?_
  (conv => whnf)
  refine ⟨fun _ => ?_, fun h => absurd (show (((partL p).length : Nat) : Int) > 0 by have := lePrt p; omega) h⟩
  (conv => whnf)
  refine ⟨fun _ => ?_, fun h => absurd (show (((autL a).length : Nat) : Int) > 0 by have := leAut a; omega) h⟩
  (conv => whnf)
  refine ⟨fun _ => ?_, fun h => absurd (show (((rptL r).length : Nat) : Int) > 0 by have := leRpt r; omega) h⟩
  (conv => whnf)
  refine ⟨fun _ => ?_, fun h => absurd rfl h⟩
  (conv => whnf)
  refine ⟨fun _ => ?_, fun h => absurd rfl h⟩
  (conv => whnf)
  refine ⟨fun _ => ?_, fun h => absurd rfl h⟩
  (conv => whnf)
  refine ⟨fun _ => ?_, fun h => absurd rfl h⟩
  (conv => whnf)
  refine ⟨fun _ => ?_, fun h => absurd rfl h⟩
  (conv => whnf)
  refine ⟨fun _ => ?_, fun h => absurd rfl h⟩
  (conv => whnf)
  refine callK_pure c13 ?_
  (conv => whnf)
  rfl
end Go.Proofs.Tryz

set_option maxRecDepth 100000
set_option maxHeartbeats 4000000
set_option linter.unusedVariables false
set_option linter.unusedSimpArgs false
namespace Go.Proofs.Tryz
open Go Ps
def imm9q : List Nat := [4, 5, 6, 7]
theorem sameB_r (m : Msg) : sameB m m = true := by
  unfold sameB sameAs sameTgs sameRep sameAp sameFail sameTk
  simp
theorem backPrt {p : Prt} (h : isPartB p = true) : (gPPrt (partC (partL p)) (partL p)).cells = p.cells ∧ gEPrt (partC (partL p)) (partL p) = 0 := by
  have e := partC_laid p h
  have hok : okPrt (partC (partL p)) (partL p) = true := by rw [okPrt_same e]; exact okPrt_iff.2 ⟨h, partL_le h, rfl⟩
  unfold gPPrt gEPrt
  rw [if_pos hok, if_pos hok]
  exact ⟨part_same_cells e, rfl⟩
theorem backAut {p : Aut} (h : isAutB p = true) : (gPAut (autC (autL p)) (autL p)).cells = p.cells ∧ gEAut (autC (autL p)) (autL p) = 0 := by
  have e := autC_laid p h
  have hok : okAut (autC (autL p)) (autL p) = true := by rw [okAut_same e]; exact okAut_iff.2 ⟨h, autL_le h, rfl⟩
  unfold gPAut gEAut
  rw [if_pos hok, if_pos hok]
  exact ⟨aut_same_cells e, rfl⟩
theorem backRpt {p : Rpt} (h : isRptB p = true) : (gPRpt (rptC (rptL p)) (rptL p)).cells = p.cells ∧ gERpt (rptC (rptL p)) (rptL p) = 0 := by
  have e := rptC_laid p h
  have hok : okRpt (rptC (rptL p)) (rptL p) = true := by rw [okRpt_same e]; exact okRpt_iff.2 ⟨h, rptL_le h, rfl⟩
  unfold gPRpt gERpt
  rw [if_pos hok, if_pos hok]
  exact ⟨rpt_same_cells e, rfl⟩
theorem c9 (m : Msg) (p : Prt) (a : Aut) (r : Rpt) (hm : m.reach) (hp1 : p.r.length ≤ 1099511627775) (hp2 : p.n.length ≤ 1099511627775) (hp3 : p.tr.length ≤ 1099511627775) (ha1 : a.r.length ≤ 1099511627775) (ha2 : a.n.length ≤ 1099511627775) (hr1 : r.r.length ≤ 1099511627775) (hr2 : r.n.length ≤ 1099511627775) :
    CallOk prog 9 [.agg m.cells, .agg p.cells, .agg a.cells, .agg r.cells] [] fun x _ => x = .bool true := by
  (refine callOk_of_pFun2 (tt := ttS) (imm := imm9q) follows ttS_ok depth6 func9 (by kernel_rfl) ?_; (conv => whnf))
  refine callK_pure (c41 m.d hm) ?_
  (conv => whnf)
  refine ⟨fun h => ?_, fun h => ?_⟩
  · (conv => whnf)
    rfl
  have h1 : ¬ ((szN m : Int) > 5000) := h
  (conv => whnf)
  refine ⟨fun h => ?_, fun h => ?_⟩
  · (conv => whnf)
    rfl
  (conv => whnf)
  have hf : m.d.fits := fits_of (m := m) (by omega)
  by_cases hen : isB m.d = true ∧ (laidB m.d).length ≤ 2000
  · refine callK_pure ((c42 m.d hf).of_eq (encV_yes hen)) ?_
    (conv => whnf)
    refine ⟨fun _ => ?_, fun h => absurd rfl h⟩
    (conv => whnf)
    have hok : okM m.d (laidB m.d) = true := okM_iff.2 ⟨hen.1, hen.2, rfl⟩
    refine callK_pure ((c11 (laidB m.d) (by have := hen.2; omega)).of_eq (dec_yes hok)) ?_
    (conv => whnf)
    refine ⟨fun _ => ?_, fun h => absurd rfl h⟩
    (conv => whnf)
    refine callK_pure ((c43 m.d m.d).of_eq (congrArg PV.bool (sameB_r _))) ?_
    (conv => whnf)
    refine callK_pure (c48 p hp1 hp2 hp3) ?_
    cases hPrt : isPartB p
    · (conv => whnf)
      refine callK_pure (c49 a ha1 ha2) ?_
      cases hAut : isAutB a
      · (conv => whnf)
        refine callK_pure (c50 r hr1 hr2) ?_
        cases hRpt : isRptB r
        · (conv => whnf)
          refine callK_pure c13 ?_
          (conv => whnf)
          rfl
        · (conv => whnf)
          refine callK_pure ((c20s r (prRpt hRpt).1 (prRpt hRpt).2).of_eq (by rw [(ebRpt hRpt).1, (ebRpt hRpt).2])) ?_
          (conv => whnf)
          refine callK_pure ((c26s (rptL r) (by have := rptL_le hRpt; omega)).of_eq (by rw [(backRpt hRpt).1, (backRpt hRpt).2])) ?_
          (conv => whnf)
          refine ⟨fun _ => ?_, fun h => absurd rfl h⟩
          (conv => whnf)
          refine ⟨fun _ => ?_, fun h => absurd rfl h⟩
          (conv => whnf)
          refine ⟨⟨fitRpt r, fitRpt r⟩, ?_⟩
          (conv => whnf)
          refine ⟨fun _ => ?_, fun h => absurd rfl h⟩
          (conv => whnf)
          refine callK_pure c13 ?_
          (conv => whnf)
          rfl
      · (conv => whnf)
        refine callK_pure ((c18s a (prAut hAut).1 (prAut hAut).2).of_eq (by rw [(ebAut hAut).1, (ebAut hAut).2])) ?_
        (conv => whnf)
        refine callK_pure ((c24s (autL a) (by have := autL_le hAut; omega)).of_eq (by rw [(backAut hAut).1, (backAut hAut).2])) ?_
        (conv => whnf)
        refine ⟨fun _ => ?_, fun h => absurd rfl h⟩
        (conv => whnf)
        refine ⟨fun _ => ?_, fun h => absurd rfl h⟩
        (conv => whnf)
        refine ⟨⟨fitAut a, fitAut a⟩, ?_⟩
        (conv => whnf)
        refine ⟨fun _ => ?_, fun h => absurd rfl h⟩
        (conv => whnf)
        refine callK_pure (c50 r hr1 hr2) ?_
        cases hRpt : isRptB r
        · (conv => whnf)
          refine callK_pure c13 ?_
          (conv => whnf)
          rfl
        · (conv => whnf)
          refine callK_pure ((c20s r (prRpt hRpt).1 (prRpt hRpt).2).of_eq (by rw [(ebRpt hRpt).1, (ebRpt hRpt).2])) ?_
          (conv => whnf)
          refine callK_pure ((c26s (rptL r) (by have := rptL_le hRpt; omega)).of_eq (by rw [(backRpt hRpt).1, (backRpt hRpt).2])) ?_
          (conv => whnf)
          refine ⟨fun _ => ?_, fun h => absurd rfl h⟩
          (conv => whnf)
          refine ⟨fun _ => ?_, fun h => absurd rfl h⟩
          (conv => whnf)
          refine ⟨⟨fitRpt r, fitRpt r⟩, ?_⟩
          (conv => whnf)
          refine ⟨fun _ => ?_, fun h => absurd rfl h⟩
          (conv => whnf)
          refine callK_pure c13 ?_
          (conv => whnf)
          rfl
    · (conv => whnf)
      refine callK_pure ((c16s p (prPrt hPrt).1 (prPrt hPrt).2.1 (prPrt hPrt).2.2).of_eq (by rw [(ebPrt hPrt).1, (ebPrt hPrt).2])) ?_
      (conv => whnf)
      refine callK_pure ((c22s (partL p) (by have := partL_le hPrt; omega)).of_eq (by rw [(backPrt hPrt).1, (backPrt hPrt).2])) ?_
      (conv => whnf)
      refine ⟨fun _ => ?_, fun h => absurd rfl h⟩
      (conv => whnf)
      refine ⟨fun _ => ?_, fun h => absurd rfl h⟩
      (conv => whnf)
      refine ⟨⟨fitPrt p, fitPrt p⟩, ?_⟩
      (conv => whnf)
      refine ⟨fun _ => ?_, fun h => absurd rfl h⟩
      (conv => whnf)
      refine callK_pure (c49 a ha1 ha2) ?_
      cases hAut : isAutB a
      · (conv => whnf)
        refine callK_pure (c50 r hr1 hr2) ?_
        cases hRpt : isRptB r
        · (conv => whnf)
          refine callK_pure c13 ?_
          (conv => whnf)
          rfl
        · (conv => whnf)
          refine callK_pure ((c20s r (prRpt hRpt).1 (prRpt hRpt).2).of_eq (by rw [(ebRpt hRpt).1, (ebRpt hRpt).2])) ?_
          (conv => whnf)
          refine callK_pure ((c26s (rptL r) (by have := rptL_le hRpt; omega)).of_eq (by rw [(backRpt hRpt).1, (backRpt hRpt).2])) ?_
          (conv => whnf)
          refine ⟨fun _ => ?_, fun h => absurd rfl h⟩
          (conv => whnf)
          refine ⟨fun _ => ?_, fun h => absurd rfl h⟩
          (conv => whnf)
          refine ⟨⟨fitRpt r, fitRpt r⟩, ?_⟩
          (conv => whnf)
          refine ⟨fun _ => ?_, fun h => absurd rfl h⟩
          (conv => whnf)
          refine callK_pure c13 ?_
          (conv => whnf)
          rfl
      · (conv => whnf)
        refine callK_pure ((c18s a (prAut hAut).1 (prAut hAut).2).of_eq (by rw [(ebAut hAut).1, (ebAut hAut).2])) ?_
        (conv => whnf)
        refine callK_pure ((c24s (autL a) (by have := autL_le hAut; omega)).of_eq (by rw [(backAut hAut).1, (backAut hAut).2])) ?_
        (conv => whnf)
        refine ⟨fun _ => ?_, fun h => absurd rfl h⟩
        (conv => whnf)
        refine ⟨fun _ => ?_, fun h => absurd rfl h⟩
        (conv => whnf)
        refine ⟨⟨fitAut a, fitAut a⟩, ?_⟩
        (conv => whnf)
        refine ⟨fun _ => ?_, fun h => absurd rfl h⟩
        (conv => whnf)
        refine callK_pure (c50 r hr1 hr2) ?_
        cases hRpt : isRptB r
        · (conv => whnf)
          refine callK_pure c13 ?_
          (conv => whnf)
          rfl
        · (conv => whnf)
          refine callK_pure ((c20s r (prRpt hRpt).1 (prRpt hRpt).2).of_eq (by rw [(ebRpt hRpt).1, (ebRpt hRpt).2])) ?_
          (conv => whnf)
          refine callK_pure ((c26s (rptL r) (by have := rptL_le hRpt; omega)).of_eq (by rw [(backRpt hRpt).1, (backRpt hRpt).2])) ?_
          (conv => whnf)
          refine ⟨fun _ => ?_, fun h => absurd rfl h⟩
          (conv => whnf)
          refine ⟨fun _ => ?_, fun h => absurd rfl h⟩
          (conv => whnf)
          refine ⟨⟨fitRpt r, fitRpt r⟩, ?_⟩
          (conv => whnf)
          refine ⟨fun _ => ?_, fun h => absurd rfl h⟩
          (conv => whnf)
          refine callK_pure c13 ?_
          (conv => whnf)
          rfl
  · refine callK_pure ((c42 m.d hf).of_eq (encV_no hen)) ?_
    (conv => whnf)
    refine ⟨fun h => absurd h (by decide), fun _ => ?_⟩
    (conv => whnf)
    refine callK_pure (c48 p hp1 hp2 hp3) ?_
    cases hPrt : isPartB p
    · (conv => whnf)
      refine callK_pure (c49 a ha1 ha2) ?_
      cases hAut : isAutB a
      · (conv => whnf)
        refine callK_pure (c50 r hr1 hr2) ?_
        cases hRpt : isRptB r
        · (conv => whnf)
          refine callK_pure c13 ?_
          (conv => whnf)
          rfl
        · (conv => whnf)
          refine callK_pure ((c20s r (prRpt hRpt).1 (prRpt hRpt).2).of_eq (by rw [(ebRpt hRpt).1, (ebRpt hRpt).2])) ?_
          (conv => whnf)
          refine callK_pure ((c26s (rptL r) (by have := rptL_le hRpt; omega)).of_eq (by rw [(backRpt hRpt).1, (backRpt hRpt).2])) ?_
          (conv => whnf)
          refine ⟨fun _ => ?_, fun h => absurd rfl h⟩
          (conv => whnf)
          refine ⟨fun _ => ?_, fun h => absurd rfl h⟩
          (conv => whnf)
          refine ⟨⟨fitRpt r, fitRpt r⟩, ?_⟩
          (conv => whnf)
          refine ⟨fun _ => ?_, fun h => absurd rfl h⟩
          (conv => whnf)
          refine callK_pure c13 ?_
          (conv => whnf)
          rfl
      · (conv => whnf)
        refine callK_pure ((c18s a (prAut hAut).1 (prAut hAut).2).of_eq (by rw [(ebAut hAut).1, (ebAut hAut).2])) ?_
        (conv => whnf)
        refine callK_pure ((c24s (autL a) (by have := autL_le hAut; omega)).of_eq (by rw [(backAut hAut).1, (backAut hAut).2])) ?_
        (conv => whnf)
        refine ⟨fun _ => ?_, fun h => absurd rfl h⟩
        (conv => whnf)
        refine ⟨fun _ => ?_, fun h => absurd rfl h⟩
        (conv => whnf)
        refine ⟨⟨fitAut a, fitAut a⟩, ?_⟩
        (conv => whnf)
        refine ⟨fun _ => ?_, fun h => absurd rfl h⟩
        (conv => whnf)
        refine callK_pure (c50 r hr1 hr2) ?_
        cases hRpt : isRptB r
        · (conv => whnf)
          refine callK_pure c13 ?_
          (conv => whnf)
          rfl
        · (conv => whnf)
          refine callK_pure ((c20s r (prRpt hRpt).1 (prRpt hRpt).2).of_eq (by rw [(ebRpt hRpt).1, (ebRpt hRpt).2])) ?_
          (conv => whnf)
          refine callK_pure ((c26s (rptL r) (by have := rptL_le hRpt; omega)).of_eq (by rw [(backRpt hRpt).1, (backRpt hRpt).2])) ?_
          (conv => whnf)
          refine ⟨fun _ => ?_, fun h => absurd rfl h⟩
          (conv => whnf)
          refine ⟨fun _ => ?_, fun h => absurd rfl h⟩
          (conv => whnf)
          refine ⟨⟨fitRpt r, fitRpt r⟩, ?_⟩
          (conv => whnf)
          refine ⟨fun _ => ?_, fun h => absurd rfl h⟩
          (conv => whnf)
          refine callK_pure c13 ?_
          (conv => whnf)
          rfl
    · (conv => whnf)
      refine callK_pure ((c16s p (prPrt hPrt).1 (prPrt hPrt).2.1 (prPrt hPrt).2.2).of_eq (by rw [(ebPrt hPrt).1, (ebPrt hPrt).2])) ?_
      (conv => whnf)
      refine callK_pure ((c22s (partL p) (by have := partL_le hPrt; omega)).of_eq (by rw [(backPrt hPrt).1, (backPrt hPrt).2])) ?_
      (conv => whnf)
      refine ⟨fun _ => ?_, fun h => absurd rfl h⟩
      (conv => whnf)
      refine ⟨fun _ => ?_, fun h => absurd rfl h⟩
      (conv => whnf)
      refine ⟨⟨fitPrt p, fitPrt p⟩, ?_⟩
      (conv => whnf)
      refine ⟨fun _ => ?_, fun h => absurd rfl h⟩
      (conv => whnf)
      refine callK_pure (c49 a ha1 ha2) ?_
      cases hAut : isAutB a
      · (conv => whnf)
        refine callK_pure (c50 r hr1 hr2) ?_
        cases hRpt : isRptB r
        · (conv => whnf)
          refine callK_pure c13 ?_
          (conv => whnf)
          rfl
        · (conv => whnf)
          refine callK_pure ((c20s r (prRpt hRpt).1 (prRpt hRpt).2).of_eq (by rw [(ebRpt hRpt).1, (ebRpt hRpt).2])) ?_
          (conv => whnf)
          refine callK_pure ((c26s (rptL r) (by have := rptL_le hRpt; omega)).of_eq (by rw [(backRpt hRpt).1, (backRpt hRpt).2])) ?_
          (conv => whnf)
          refine ⟨fun _ => ?_, fun h => absurd rfl h⟩
          (conv => whnf)
          refine ⟨fun _ => ?_, fun h => absurd rfl h⟩
          (conv => whnf)
          refine ⟨⟨fitRpt r, fitRpt r⟩, ?_⟩
          (conv => whnf)
          refine ⟨fun _ => ?_, fun h => absurd rfl h⟩
          (conv => whnf)
          refine callK_pure c13 ?_
          (conv => whnf)
          rfl
      · (conv => whnf)
        refine callK_pure ((c18s a (prAut hAut).1 (prAut hAut).2).of_eq (by rw [(ebAut hAut).1, (ebAut hAut).2])) ?_
        (conv => whnf)
        refine callK_pure ((c24s (autL a) (by have := autL_le hAut; omega)).of_eq (by rw [(backAut hAut).1, (backAut hAut).2])) ?_
        (conv => whnf)
        refine ⟨fun _ => ?_, fun h => absurd rfl h⟩
        (conv => whnf)
        refine ⟨fun _ => ?_, fun h => absurd rfl h⟩
        (conv => whnf)
        refine ⟨⟨fitAut a, fitAut a⟩, ?_⟩
        (conv => whnf)
        refine ⟨fun _ => ?_, fun h => absurd rfl h⟩
        (conv => whnf)
        refine callK_pure (c50 r hr1 hr2) ?_
        cases hRpt : isRptB r
        · (conv => whnf)
          refine callK_pure c13 ?_
          (conv => whnf)
          rfl
        · (conv => whnf)
          refine callK_pure ((c20s r (prRpt hRpt).1 (prRpt hRpt).2).of_eq (by rw [(ebRpt hRpt).1, (ebRpt hRpt).2])) ?_
          (conv => whnf)
          refine callK_pure ((c26s (rptL r) (by have := rptL_le hRpt; omega)).of_eq (by rw [(backRpt hRpt).1, (backRpt hRpt).2])) ?_
          (conv => whnf)
          refine ⟨fun _ => ?_, fun h => absurd rfl h⟩
          (conv => whnf)
          refine ⟨fun _ => ?_, fun h => absurd rfl h⟩
          (conv => whnf)
          refine ⟨⟨fitRpt r, fitRpt r⟩, ?_⟩
          (conv => whnf)
          refine ⟨fun _ => ?_, fun h => absurd rfl h⟩
          (conv => whnf)
          refine callK_pure c13 ?_
          (conv => whnf)
          rfl
end Go.Proofs.Tryz
