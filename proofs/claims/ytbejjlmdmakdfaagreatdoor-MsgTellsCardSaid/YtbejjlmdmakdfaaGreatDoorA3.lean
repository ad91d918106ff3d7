import Derived.Test.YtbejjlmdmakdfaaGreatDoorA2
set_option linter.all false
set_option maxRecDepth 100000
set_option maxHeartbeats 4000000
set_option linter.unusedVariables false
set_option linter.unusedSimpArgs false
namespace Go.Proofs.Tryz
open Go Ps
theorem princR_wrap (r n rest : List UInt8) (hr : r.length ≤ 1000) (hn : n.length ≤ 1000) : princR (some (princE r n ++ rest)) = (some rest, (r, n)) := by
  have h1 := wrapB_len 27 r
  have h2 := wrapB_len 27 n
  unfold princR princE
  rw [elemC_wrap 48 _ rest (by simp only [List.flatten_cons, List.flatten_nil, List.length_append, List.length_nil]; omega)]
  simp only [List.flatten_cons, List.flatten_nil]
  rw [txtC_wrap r _ (by omega)]
  simp only
  rw [txtC_wrap n [] (by omega)]
  rfl
theorem tickR_wrap (r n : List UInt8) (kv : Int) (b rest : List UInt8) (hr : r.length ≤ 1000) (hn : n.length ≤ 1000) (h0 : 0 ≤ kv) (h1 : kv ≤ 4611686018427387904) (hb : b.length ≤ 10000) :
    tickR (some (ticketE r n kv b ++ rest)) = (some rest, ⟨r, n, kv, b⟩) := by
  have k1 := princE_len r n
  have k2 := intE_len kv
  have k3 := wrapB_len 4 b
  unfold tickR ticketE
  rw [elemC_wrap 97 _ rest (by simp only [List.flatten_cons, List.flatten_nil, List.length_append, List.length_nil]; omega)]
  simp only [List.flatten_cons, List.flatten_nil]
  unfold tickRD
  rw [princR_wrap r n _ hr hn]
  simp only
  rw [rintC_wrap kv h0 h1]
  simp only
  rw [octC_wrap b [] (by omega)]
  rfl
theorem takenR_wrap (t : UInt8) (x : List UInt8) (hx : x.length ≤ 65535) : takenR (wrapB t x) = takenRT t (some x) := by
  have e := elemC_wrap t x [] hx
  rw [List.append_nil] at e
  show takenRT t (elemC t (some (wrapB t x))).2 = _
  rw [e]
/-- What is laid is read as it was. -/
theorem takenR_laid (m : Msg) (h : isB m = true) : (takenR (laidB m)).d = m.d := by
  obtain ⟨o1, o2, o3, o4, o5⟩ := others_z (isB_kind h)
  have hm := (Bool.and_eq_true _ _ ▸ h : _ ∧ _).1
  by_cases h1 : m.kind = 1
  · skip
    rw [if_pos h1] at hm
    simp only [Bool.and_eq_true] at hm
    have g1 := princ_len hm.1.1.1
    have g2 := princ_len hm.1.1.2
    have g3 := inZ_le hm.1.2
    have g4 := inZ_le hm.2
    have e0 := princE_len m.a1 m.a2
    have e1 := princE_len m.a3 m.a4
    have e2 := intE_len m.aTill
    have e3 := intE_len m.aNonce
    have hl : laidB m = wrapB 106 [princE m.a1 m.a2, princE m.a3 m.a4, intE m.aTill, intE m.aNonce].flatten := by unfold laidB; rw [if_pos h1]
    rw [hl, takenR_wrap _ _ (by simp only [List.flatten_cons, List.flatten_nil, List.length_append, List.length_nil]; omega)]
    show (rkAs (some [princE m.a1 m.a2, princE m.a3 m.a4, intE m.aTill, intE m.aNonce].flatten)).d = _
    simp only [List.flatten_cons, List.flatten_nil]
    unfold rkAs
    have w0 := princR_wrap m.a1 m.a2 (princE m.a3 m.a4 ++ (intE m.aTill ++ (intE m.aNonce ++ []))) (by omega) (by omega)
    have w1 := princR_wrap m.a3 m.a4 (intE m.aTill ++ (intE m.aNonce ++ [])) (by omega) (by omega)
    have w2 := rintC_wrap m.aTill (by omega) (by omega) (intE m.aNonce ++ [])
    have w3 := rintC_wrap m.aNonce (by omega) (by omega) []
    simp only [w0, w1, w2, w3]
    have z2 := noTgs_z (o2 (by omega))
    have z3 := noRep_z (o3 (by omega))
    have z4 := noAp_z (o4 (by omega))
    have z5 := noFail_z (o5 (by omega))
    clear o1 o2 o3 o4 o5 hl hm h w0
    obtain ⟨kind, a1, a2, a3, a4, aTill, aNonce, t1, t2, tKv, tB, tBo, tAu, tAuo, t3, t4, tTill, tNonce, r1, r2, r3, r4, rKv, rB, rBo, rBl, rBlo, p1, p2, pKv, pB, pBo, pAu, pAuo, fErr, fNonce⟩ := m
    obtain ⟨y2_0, y2_1, y2_2, y2_3, y2_4, y2_5, y2_6, y2_7, y2_8⟩ := z2
    obtain ⟨y3_0, y3_1, y3_2, y3_3, y3_4, y3_5, y3_6⟩ := z3
    obtain ⟨y4_0, y4_1, y4_2, y4_3, y4_4⟩ := z4
    obtain ⟨y5_0, y5_1⟩ := z5
    simp only at *
    subst h1 y2_0 y2_1 y2_2 y2_3 y2_4 y2_5 y2_6 y2_7 y2_8 y3_0 y3_1 y3_2 y3_3 y3_4 y3_5 y3_6 y4_0 y4_1 y4_2 y4_3 y4_4 y5_0 y5_1
    rfl
  by_cases h2 : m.kind = 2
  · skip
    rw [if_neg h1] at hm
    rw [if_pos h2] at hm
    simp only [Bool.and_eq_true] at hm
    have g1 := tick_len hm.1.1.1.1
    have gk := tick_kv hm.1.1.1.1
    have g2 := inZ_le hm.1.1.1.2
    have g3 := princ_len hm.1.1.2
    have g4 := inZ_le hm.1.2
    have g5 := inZ_le hm.2
    have e0 := ticketE_len m.t1 m.t2 m.tKv m.tB
    have e1 := wrapB_len 4 m.tAu
    have e2 := princE_len m.t3 m.t4
    have e3 := intE_len m.tTill
    have e4 := intE_len m.tNonce
    have hl : laidB m = wrapB 108 [ticketE m.t1 m.t2 m.tKv m.tB, wrapB 4 m.tAu, princE m.t3 m.t4, intE m.tTill, intE m.tNonce].flatten := by unfold laidB; rw [if_neg h1]; rw [if_pos h2]
    rw [hl, takenR_wrap _ _ (by simp only [List.flatten_cons, List.flatten_nil, List.length_append, List.length_nil]; omega)]
    show (rkTgs (some [ticketE m.t1 m.t2 m.tKv m.tB, wrapB 4 m.tAu, princE m.t3 m.t4, intE m.tTill, intE m.tNonce].flatten)).d = _
    simp only [List.flatten_cons, List.flatten_nil]
    unfold rkTgs
    have w0 := tickR_wrap m.t1 m.t2 m.tKv m.tB (wrapB 4 m.tAu ++ (princE m.t3 m.t4 ++ (intE m.tTill ++ (intE m.tNonce ++ [])))) (by omega) (by omega) (by omega) (by omega) (by omega)
    have w1 := octC_wrap m.tAu (princE m.t3 m.t4 ++ (intE m.tTill ++ (intE m.tNonce ++ []))) (by omega)
    have w2 := princR_wrap m.t3 m.t4 (intE m.tTill ++ (intE m.tNonce ++ [])) (by omega) (by omega)
    have w3 := rintC_wrap m.tTill (by omega) (by omega) (intE m.tNonce ++ [])
    have w4 := rintC_wrap m.tNonce (by omega) (by omega) []
    simp only [w0, w1, w2, w3, w4]
    have z1 := noAs_z (o1 (by omega))
    have z3 := noRep_z (o3 (by omega))
    have z4 := noAp_z (o4 (by omega))
    have z5 := noFail_z (o5 (by omega))
    clear o1 o2 o3 o4 o5 hl hm h w0
    obtain ⟨kind, a1, a2, a3, a4, aTill, aNonce, t1, t2, tKv, tB, tBo, tAu, tAuo, t3, t4, tTill, tNonce, r1, r2, r3, r4, rKv, rB, rBo, rBl, rBlo, p1, p2, pKv, pB, pBo, pAu, pAuo, fErr, fNonce⟩ := m
    obtain ⟨y1_0, y1_1, y1_2, y1_3, y1_4, y1_5⟩ := z1
    obtain ⟨y3_0, y3_1, y3_2, y3_3, y3_4, y3_5, y3_6⟩ := z3
    obtain ⟨y4_0, y4_1, y4_2, y4_3, y4_4⟩ := z4
    obtain ⟨y5_0, y5_1⟩ := z5
    simp only at *
    subst h2 y1_0 y1_1 y1_2 y1_3 y1_4 y1_5 y3_0 y3_1 y3_2 y3_3 y3_4 y3_5 y3_6 y4_0 y4_1 y4_2 y4_3 y4_4 y5_0 y5_1
    rfl
  by_cases h3 : m.kind = 3
  · skip
    rw [if_neg h1] at hm
    rw [if_neg h2] at hm
    rw [if_pos h3] at hm
    simp only [Bool.and_eq_true] at hm
    have g1 := princ_len hm.1.1
    have g2 := tick_len hm.1.2
    have gk := tick_kv hm.1.2
    have g3 := inZ_le hm.2
    have e0 := princE_len m.r1 m.r2
    have e1 := ticketE_len m.r3 m.r4 m.rKv m.rB
    have e2 := wrapB_len 4 m.rBl
    have hl : laidB m = wrapB 107 [princE m.r1 m.r2, ticketE m.r3 m.r4 m.rKv m.rB, wrapB 4 m.rBl].flatten := by unfold laidB; rw [if_neg h1]; rw [if_neg h2]; rw [if_pos h3]
    rw [hl, takenR_wrap _ _ (by simp only [List.flatten_cons, List.flatten_nil, List.length_append, List.length_nil]; omega)]
    show (rkRep (some [princE m.r1 m.r2, ticketE m.r3 m.r4 m.rKv m.rB, wrapB 4 m.rBl].flatten)).d = _
    simp only [List.flatten_cons, List.flatten_nil]
    unfold rkRep
    have w0 := princR_wrap m.r1 m.r2 (ticketE m.r3 m.r4 m.rKv m.rB ++ (wrapB 4 m.rBl ++ [])) (by omega) (by omega)
    have w1 := tickR_wrap m.r3 m.r4 m.rKv m.rB (wrapB 4 m.rBl ++ []) (by omega) (by omega) (by omega) (by omega) (by omega)
    have w2 := octC_wrap m.rBl [] (by omega)
    simp only [w0, w1, w2]
    have z1 := noAs_z (o1 (by omega))
    have z2 := noTgs_z (o2 (by omega))
    have z4 := noAp_z (o4 (by omega))
    have z5 := noFail_z (o5 (by omega))
    clear o1 o2 o3 o4 o5 hl hm h w0
    obtain ⟨kind, a1, a2, a3, a4, aTill, aNonce, t1, t2, tKv, tB, tBo, tAu, tAuo, t3, t4, tTill, tNonce, r1, r2, r3, r4, rKv, rB, rBo, rBl, rBlo, p1, p2, pKv, pB, pBo, pAu, pAuo, fErr, fNonce⟩ := m
    obtain ⟨y1_0, y1_1, y1_2, y1_3, y1_4, y1_5⟩ := z1
    obtain ⟨y2_0, y2_1, y2_2, y2_3, y2_4, y2_5, y2_6, y2_7, y2_8⟩ := z2
    obtain ⟨y4_0, y4_1, y4_2, y4_3, y4_4⟩ := z4
    obtain ⟨y5_0, y5_1⟩ := z5
    simp only at *
    subst h3 y1_0 y1_1 y1_2 y1_3 y1_4 y1_5 y2_0 y2_1 y2_2 y2_3 y2_4 y2_5 y2_6 y2_7 y2_8 y4_0 y4_1 y4_2 y4_3 y4_4 y5_0 y5_1
    rfl
  by_cases h4 : m.kind = 4
  · skip
    rw [if_neg h1] at hm
    rw [if_neg h2] at hm
    rw [if_neg h3] at hm
    rw [if_pos h4] at hm
    simp only [Bool.and_eq_true] at hm
    have g1 := tick_len hm.1
    have gk := tick_kv hm.1
    have g2 := inZ_le hm.2
    have e0 := ticketE_len m.p1 m.p2 m.pKv m.pB
    have e1 := wrapB_len 4 m.pAu
    have hl : laidB m = wrapB 110 [ticketE m.p1 m.p2 m.pKv m.pB, wrapB 4 m.pAu].flatten := by unfold laidB; rw [if_neg h1]; rw [if_neg h2]; rw [if_neg h3]; rw [if_pos h4]
    rw [hl, takenR_wrap _ _ (by simp only [List.flatten_cons, List.flatten_nil, List.length_append, List.length_nil]; omega)]
    show (rkAp (some [ticketE m.p1 m.p2 m.pKv m.pB, wrapB 4 m.pAu].flatten)).d = _
    simp only [List.flatten_cons, List.flatten_nil]
    unfold rkAp
    have w0 := tickR_wrap m.p1 m.p2 m.pKv m.pB (wrapB 4 m.pAu ++ []) (by omega) (by omega) (by omega) (by omega) (by omega)
    have w1 := octC_wrap m.pAu [] (by omega)
    simp only [w0, w1]
    have z1 := noAs_z (o1 (by omega))
    have z2 := noTgs_z (o2 (by omega))
    have z3 := noRep_z (o3 (by omega))
    have z5 := noFail_z (o5 (by omega))
    clear o1 o2 o3 o4 o5 hl hm h w0
    obtain ⟨kind, a1, a2, a3, a4, aTill, aNonce, t1, t2, tKv, tB, tBo, tAu, tAuo, t3, t4, tTill, tNonce, r1, r2, r3, r4, rKv, rB, rBo, rBl, rBlo, p1, p2, pKv, pB, pBo, pAu, pAuo, fErr, fNonce⟩ := m
    obtain ⟨y1_0, y1_1, y1_2, y1_3, y1_4, y1_5⟩ := z1
    obtain ⟨y2_0, y2_1, y2_2, y2_3, y2_4, y2_5, y2_6, y2_7, y2_8⟩ := z2
    obtain ⟨y3_0, y3_1, y3_2, y3_3, y3_4, y3_5, y3_6⟩ := z3
    obtain ⟨y5_0, y5_1⟩ := z5
    simp only at *
    subst h4 y1_0 y1_1 y1_2 y1_3 y1_4 y1_5 y2_0 y2_1 y2_2 y2_3 y2_4 y2_5 y2_6 y2_7 y2_8 y3_0 y3_1 y3_2 y3_3 y3_4 y3_5 y3_6 y5_0 y5_1
    rfl
  by_cases h5 : m.kind = 5
  · skip
    rw [if_neg h1] at hm
    rw [if_neg h2] at hm
    rw [if_neg h3] at hm
    rw [if_neg h4] at hm
    rw [if_pos h5] at hm
    simp only [Bool.and_eq_true] at hm
    have g1 := inZ_le hm.1
    have g2 := inZ_le hm.2
    have e0 := intE_len m.fErr
    have e1 := intE_len m.fNonce
    have hl : laidB m = wrapB 126 [intE m.fErr, intE m.fNonce].flatten := by unfold laidB; rw [if_neg h1, if_neg h2, if_neg h3, if_neg h4]
    rw [hl, takenR_wrap _ _ (by simp only [List.flatten_cons, List.flatten_nil, List.length_append, List.length_nil]; omega)]
    show (rkFail (some [intE m.fErr, intE m.fNonce].flatten)).d = _
    simp only [List.flatten_cons, List.flatten_nil]
    unfold rkFail
    have w0 := rintC_wrap m.fErr (by omega) (by omega) (intE m.fNonce ++ [])
    have w1 := rintC_wrap m.fNonce (by omega) (by omega) []
    simp only [w0, w1]
    have z1 := noAs_z (o1 (by omega))
    have z2 := noTgs_z (o2 (by omega))
    have z3 := noRep_z (o3 (by omega))
    have z4 := noAp_z (o4 (by omega))
    clear o1 o2 o3 o4 o5 hl hm h w0
    obtain ⟨kind, a1, a2, a3, a4, aTill, aNonce, t1, t2, tKv, tB, tBo, tAu, tAuo, t3, t4, tTill, tNonce, r1, r2, r3, r4, rKv, rB, rBo, rBl, rBlo, p1, p2, pKv, pB, pBo, pAu, pAuo, fErr, fNonce⟩ := m
    obtain ⟨y1_0, y1_1, y1_2, y1_3, y1_4, y1_5⟩ := z1
    obtain ⟨y2_0, y2_1, y2_2, y2_3, y2_4, y2_5, y2_6, y2_7, y2_8⟩ := z2
    obtain ⟨y3_0, y3_1, y3_2, y3_3, y3_4, y3_5, y3_6⟩ := z3
    obtain ⟨y4_0, y4_1, y4_2, y4_3, y4_4⟩ := z4
    simp only at *
    subst h5 y1_0 y1_1 y1_2 y1_3 y1_4 y1_5 y2_0 y2_1 y2_2 y2_3 y2_4 y2_5 y2_6 y2_7 y2_8 y3_0 y3_1 y3_2 y3_3 y3_4 y3_5 y3_6 y4_0 y4_1 y4_2 y4_3 y4_4
    rfl
  rw [if_neg h1, if_neg h2, if_neg h3, if_neg h4, if_neg h5] at hm
  cases hm
theorem okM_iff {m : Msg} {b : List UInt8} : okM m b = true ↔ isB m = true ∧ (laidB m).length ≤ 2000 ∧ laidB m = b := by
  unfold okM
  rw [Bool.and_eq_true, Bool.and_eq_true, decide_eq_true_eq, decide_eq_true_eq]
theorem okM_d {m m' : Msg} {b : List UInt8} (h : m.d = m'.d) : okM m b = okM m' b := by
  unfold okM
  rw [d_is h, d_laid h]
/-- Both answer the same. -/
theorem refDec_eq (b : List UInt8) : refDecV b = decV b := by
  unfold refDecV decV
  cases h1 : okM (takenR b) b
  · cases h2 : okM (takenB b) b
    · rw [agM_no h1, agM_no h2]
    · exfalso
      obtain ⟨k1, k2, k3⟩ := okM_iff.1 h2
      have e := takenR_laid _ k1
      rw [k3] at e
      rw [okM_d e, h2] at h1
      cases h1
  · obtain ⟨k1, k2, k3⟩ := okM_iff.1 h1
    have e := taken_laid _ k1
    rw [k3] at e
    have h2 : okM (takenB b) b = true := by rw [okM_d e, h1]
    rw [agM_yes h1, agM_yes h2, e]
/-- What may be is read as it was. -/
theorem dec_yes {m : Msg} {b : List UInt8} (h : okM m b = true) : decV b = .tup [.agg m.d.cells, .int .i64 0] := by
  obtain ⟨k1, k2, k3⟩ := okM_iff.1 h
  have e := taken_laid _ k1
  rw [k3] at e
  unfold decV
  rw [agM_yes (by rw [okM_d e, h]), e]
end Go.Proofs.Tryz

set_option maxRecDepth 100000
set_option maxHeartbeats 4000000
set_option linter.unusedVariables false
set_option linter.unusedSimpArgs false
namespace Go.Proofs.Tryz
open Go Ps
def imm103 : List Nat := [2, 3]
def imm105 : List Nat := [2, 3]
def imm104 : List Nat := [2, 3]
def imm44 : List Nat := [2, 3]
def imm43 : List Nat := [2, 3]
theorem pr_eq2 {r n r' n' : List UInt8} : ([PV.str r, PV.str n] = [PV.str r', PV.str n']) ↔ (r = r' ∧ n = n') := by simp
theorem as_eq2 {a b c d a' b' c' d' : List UInt8} {x y x' y' : Int} : ([PV.str a, PV.str b, PV.str c, PV.str d, PV.int .i64 x, PV.int .i64 y] = [PV.str a', PV.str b', PV.str c', PV.str d', PV.int .i64 x', PV.int .i64 y']) ↔ (a = a' ∧ b = b' ∧ c = c' ∧ d = d' ∧ x = x' ∧ y = y') := by simp
theorem fl_eq2 {x y x' y' : Int} : ([PV.int .i64 x, PV.int .i64 y] = [PV.int .i64 x', PV.int .i64 y']) ↔ (x = x' ∧ y = y') := by simp
def sameTk (r n : List UInt8) (kv : Int) (b r' n' : List UInt8) (kv' : Int) (b' : List UInt8) : Bool := decide (r = r' ∧ n = n') && decide (kv = kv') && decide (b = b')
def sameRep (a c : Msg) : Bool := decide (a.r1 = c.r1 ∧ a.r2 = c.r2) && sameTk a.r3 a.r4 a.rKv a.rB c.r3 c.r4 c.rKv c.rB && decide (a.rBl = c.rBl)
def sameTgs (a c : Msg) : Bool := sameTk a.t1 a.t2 a.tKv a.tB c.t1 c.t2 c.tKv c.tB && decide (a.tAu = c.tAu) && decide (a.t3 = c.t3 ∧ a.t4 = c.t4) && decide (a.tTill = c.tTill) && decide (a.tNonce = c.tNonce)
def sameAs (a c : Msg) : Bool := decide (a.a1 = c.a1 ∧ a.a2 = c.a2 ∧ a.a3 = c.a3 ∧ a.a4 = c.a4 ∧ a.aTill = c.aTill ∧ a.aNonce = c.aNonce)
def sameAp (a c : Msg) : Bool := sameTk a.p1 a.p2 a.pKv a.pB c.p1 c.p2 c.pKv c.pB && decide (a.pAu = c.pAu)
def sameFail (a c : Msg) : Bool := decide (a.fErr = c.fErr ∧ a.fNonce = c.fNonce)
def sameB (a c : Msg) : Bool := if a.kind = c.kind then (if a.kind = 1 then sameAs a c else if a.kind = 2 then sameTgs a c else if a.kind = 3 then sameRep a c else if a.kind = 4 then sameAp a c else if a.kind = 5 then sameFail a c else true) else false
theorem c103 (r n : List UInt8) (kv : Int) (b r' n' : List UInt8) (kv' : Int) (b' : List UInt8) : Pure prog 103 [.agg [.str r, .str n, .int .i64 kv, sl b], .agg [.str r', .str n', .int .i64 kv', sl b']] (.bool (sameTk r n kv b r' n' kv' b')) := by
  intro H
  (refine callOk_of_pFun2 (tt := ttG) (imm := imm103) follows ttG_ok depth6 func103 (by kernel_rfl) ?_; (conv => whnf))
  refine ⟨⟨fitG _ _, fitG _ _⟩, ?_⟩
  (conv => whnf)
  refine ⟨fun h => ?_, fun h => ?_⟩
  rotate_left
  · have f1 : decide (r = r' ∧ n = n') = false := decide_eq_false fun hh => h (Iff.mpr pr_eq2 hh)
    (conv => whnf)
    exact ⟨congrArg PV.bool (by unfold sameTk; simp only [f1, Bool.and_true, Bool.true_and, Bool.and_false, Bool.false_and]), rfl⟩
  have f1 : decide (r = r' ∧ n = n') = true := decide_eq_true (Iff.mp pr_eq2 h)
  (conv => whnf)
  refine ⟨fun h => ?_, fun h => ?_⟩
  rotate_left
  · have f2 : decide (kv = kv') = false := decide_eq_false fun hh => h (Iff.mpr Iff.rfl hh)
    (conv => whnf)
    exact ⟨congrArg PV.bool (by unfold sameTk; simp only [f1, f2, Bool.and_true, Bool.true_and, Bool.and_false, Bool.false_and]), rfl⟩
  have f2 : decide (kv = kv') = true := decide_eq_true (Iff.mp Iff.rfl h)
  (conv => whnf)
  refine ⟨b, ⟨rfl, rfl⟩, ?_⟩
  (conv => whnf)
  refine ⟨b', ⟨rfl, rfl⟩, ?_⟩
  (conv => whnf)
  refine ⟨fun h => ?_, fun h => ?_⟩
  rotate_left
  · have f3 : decide (b = b') = false := decide_eq_false fun hh => h (Iff.mpr Iff.rfl hh)
    (conv => whnf)
    exact ⟨congrArg PV.bool (by unfold sameTk; simp only [f1, f2, f3, Bool.and_true, Bool.true_and, Bool.and_false, Bool.false_and]), rfl⟩
  have f3 : decide (b = b') = true := decide_eq_true (Iff.mp Iff.rfl h)
  (conv => whnf)
  exact ⟨congrArg PV.bool (by unfold sameTk; simp only [f1, f2, f3, Bool.and_true, Bool.true_and, Bool.and_false, Bool.false_and]), rfl⟩
theorem c105 (r n : List UInt8) (kv : Int) (b r' n' : List UInt8) (kv' : Int) (b' : List UInt8) : Pure prog 105 [.agg [.str r, .str n, .int .i64 kv, sl b], .agg [.str r', .str n', .int .i64 kv', sl b']] (.bool (sameTk r n kv b r' n' kv' b')) := by
  intro H
  (refine callOk_of_pFun2 (tt := ttG) (imm := imm105) follows ttG_ok depth6 func105 (by kernel_rfl) ?_; (conv => whnf))
  refine ⟨⟨fitG _ _, fitG _ _⟩, ?_⟩
  (conv => whnf)
  refine ⟨fun h => ?_, fun h => ?_⟩
  rotate_left
  · have f4 : decide (r = r' ∧ n = n') = false := decide_eq_false fun hh => h (Iff.mpr pr_eq2 hh)
    (conv => whnf)
    exact ⟨congrArg PV.bool (by unfold sameTk; simp only [f4, Bool.and_true, Bool.true_and, Bool.and_false, Bool.false_and]), rfl⟩
  have f4 : decide (r = r' ∧ n = n') = true := decide_eq_true (Iff.mp pr_eq2 h)
  (conv => whnf)
  refine ⟨fun h => ?_, fun h => ?_⟩
  rotate_left
  · have f5 : decide (kv = kv') = false := decide_eq_false fun hh => h (Iff.mpr Iff.rfl hh)
    (conv => whnf)
    exact ⟨congrArg PV.bool (by unfold sameTk; simp only [f4, f5, Bool.and_true, Bool.true_and, Bool.and_false, Bool.false_and]), rfl⟩
  have f5 : decide (kv = kv') = true := decide_eq_true (Iff.mp Iff.rfl h)
  (conv => whnf)
  refine callK_pure (c106 b b') ?_
  cases f6 : decide (b = b')
  · (conv => whnf)
    exact ⟨congrArg PV.bool (by unfold sameTk; simp only [f4, f5, f6, Bool.and_true, Bool.true_and, Bool.and_false, Bool.false_and]), rfl⟩
  (conv => whnf)
  exact ⟨congrArg PV.bool (by unfold sameTk; simp only [f4, f5, f6, Bool.and_true, Bool.true_and, Bool.and_false, Bool.false_and]), rfl⟩
theorem c104 (a c : Msg) : Pure prog 104 [.agg (a.rep.map dem), .agg (c.rep.map dem)] (.bool (sameRep a c)) := by
  intro H
  (refine callOk_of_pFun2 (tt := ttG) (imm := imm104) follows ttG_ok depth6 func104 (by kernel_rfl) ?_; (conv => whnf))
  refine ⟨⟨fitG _ _, fitG _ _⟩, ?_⟩
  (conv => whnf)
  refine ⟨fun h => ?_, fun h => ?_⟩
  rotate_left
  · have f7 : decide (a.r1 = c.r1 ∧ a.r2 = c.r2) = false := decide_eq_false fun hh => h (Iff.mpr pr_eq2 hh)
    (conv => whnf)
    exact ⟨congrArg PV.bool (by unfold sameRep; simp only [f7, Bool.and_true, Bool.true_and, Bool.and_false, Bool.false_and]), rfl⟩
  have f7 : decide (a.r1 = c.r1 ∧ a.r2 = c.r2) = true := decide_eq_true (Iff.mp pr_eq2 h)
  (conv => whnf)
  refine callK_pure (c103 a.r3 a.r4 a.rKv a.rB c.r3 c.r4 c.rKv c.rB) ?_
  cases f8 : sameTk a.r3 a.r4 a.rKv a.rB c.r3 c.r4 c.rKv c.rB
  · (conv => whnf)
    exact ⟨congrArg PV.bool (by unfold sameRep; simp only [f7, f8, Bool.and_true, Bool.true_and, Bool.and_false, Bool.false_and]), rfl⟩
  (conv => whnf)
  refine ⟨a.rBl, ⟨rfl, rfl⟩, ?_⟩
  (conv => whnf)
  refine ⟨c.rBl, ⟨rfl, rfl⟩, ?_⟩
  (conv => whnf)
  refine ⟨fun h => ?_, fun h => ?_⟩
  rotate_left
  · have f9 : decide (a.rBl = c.rBl) = false := decide_eq_false fun hh => h (Iff.mpr Iff.rfl hh)
    (conv => whnf)
    exact ⟨congrArg PV.bool (by unfold sameRep; simp only [f7, f8, f9, Bool.and_true, Bool.true_and, Bool.and_false, Bool.false_and]), rfl⟩
  have f9 : decide (a.rBl = c.rBl) = true := decide_eq_true (Iff.mp Iff.rfl h)
  (conv => whnf)
  exact ⟨congrArg PV.bool (by unfold sameRep; simp only [f7, f8, f9, Bool.and_true, Bool.true_and, Bool.and_false, Bool.false_and]), rfl⟩
def D44 (n : Nat) : Draw := { imp := [6, 7], robs := [z55, z55], res := [(4, 0), (5, 1)], base := n, win := [(2, 0, 1), (3, 0, 1), (7, 1, 1)] }
theorem c44x (a c : Msg) (H : PH) : CallOk prog 44 [.agg a.cells, .agg c.cells] H fun r H' => r = .bool (sameB a c) ∧ ∃ ext, H' = H ++ ext := by
  (refine callOk_of_pFun2 (tt := ttG) (imm := imm44) follows ttG_ok depth6 func44 (by kernel_rfl) ?_; (conv => whnf))
  refine ⟨fun h => ?_, fun h => ?_⟩
  rotate_left
  · have h : ¬ a.kind = c.kind := h
    (conv => whnf)
    exact ⟨congrArg PV.bool (show false = sameB a c from (if_neg h).symm), Ext.refl _⟩
  have h0 : a.kind = c.kind := h
  (conv => whnf)
  have e0 : sameB a c = (if a.kind = 1 then sameAs a c else if a.kind = 2 then sameTgs a c else if a.kind = 3 then sameRep a c else if a.kind = 4 then sameAp a c else if a.kind = 5 then sameFail a c else true) := if_pos h0
  rw [e0]
  refine ⟨fun h1 => ?_, fun h1 => ?_⟩
  · have h1 : a.kind = 1 := h1
    rw [if_pos h1]
    (conv => whnf)
    refine ⟨⟨fitA _ _ _ _ _ _, fitA _ _ _ _ _ _⟩, ?_⟩
    (conv => whnf)
    refine ⟨fun h => ?_, fun h => ?_⟩
    · (conv => whnf)
      exact ⟨congrArg PV.bool (decide_eq_true (Iff.mp as_eq2 h)).symm, Ext.refl _⟩
    · (conv => whnf)
      exact ⟨congrArg PV.bool (decide_eq_false (fun hh => h (Iff.mpr as_eq2 hh))).symm, Ext.refl _⟩
  have h1 : ¬ a.kind = 1 := h1
  (conv => whnf)
  refine ⟨fun h2 => ?_, fun h2 => ?_⟩
  · have h2 : a.kind = 2 := h2
    rw [if_neg h1]
    rw [if_pos h2]
    (conv => whnf)
    refine drawK_of2 (D44 H.length) [H ++ [z55, z55], H ++ [PObj.mk 30 (a.tgs.map dem) 1, z55], H ++ [PObj.mk 30 (a.tgs.map dem) 1, PObj.mk 30 (c.tgs.map dem) 1]] (by kernel_rfl) ⟨rfl, rfl⟩ trivial ?_
    (conv => whnf)
    (apply Exists.intro; apply And.intro; (focus ((conv => whnf); first | exact ⟨rfl, rfl, trivial⟩ | (refine ⟨by omega, ?_⟩; (conv => whnf); exact ⟨rfl, rfl, trivial⟩))); (conv => whnf))
    (apply Exists.intro; apply And.intro; (focus ((conv => whnf); first | exact ⟨rfl, rfl, trivial⟩ | (refine ⟨by omega, ?_⟩; (conv => whnf); exact ⟨rfl, rfl, trivial⟩))); (conv => whnf))
    (apply Exists.intro; apply And.intro; (focus ((conv => whnf); apply And.intro; (focus ((conv => whnf); first | exact ⟨rfl, rfl, trivial⟩ | (refine ⟨by omega, ?_⟩; (conv => whnf); exact ⟨rfl, rfl, trivial⟩))); ((conv => whnf); first | exact ⟨rfl, rfl, trivial⟩ | (refine ⟨by omega, ?_⟩; (conv => whnf); exact ⟨rfl, rfl, trivial⟩)))); (conv => whnf))
    (apply Exists.intro; apply And.intro; (focus ((conv => whnf); apply And.intro; (focus ((conv => whnf); first | exact ⟨rfl, rfl, trivial⟩ | (refine ⟨by omega, ?_⟩; (conv => whnf); exact ⟨rfl, rfl, trivial⟩))); ((conv => whnf); first | exact ⟨rfl, rfl, trivial⟩ | (refine ⟨by omega, ?_⟩; (conv => whnf); exact ⟨rfl, rfl, trivial⟩)))); (conv => whnf))
    refine ⟨_, ⟨⟨rfl, rfl, trivial⟩, app_get H [z55, z55] 0⟩, ?_⟩
    (conv => whnf)
    refine ⟨_, ⟨⟨rfl, rfl, trivial⟩, app_get H [z55, z55] 1⟩, ?_⟩
    (conv => whnf)
    apply Exists.intro
    apply And.intro
    focus
      (conv => whnf)
      ((conv in (_[_]?) => tactic => exact app_get H [z55, z55] 0); (conv => whnf))
      (conv => whnf)
      exact ⟨rfl, app_set H [z55, z55] 0 (PObj.mk 30 (a.tgs.map dem) 1), trivial⟩
    (conv => whnf)
    apply Exists.intro
    apply And.intro
    focus
      (conv => whnf)
      ((conv in (_[_]?) => tactic => exact app_get H [PObj.mk 30 (a.tgs.map dem) 1, z55] 1); (conv => whnf))
      (conv => whnf)
      exact ⟨rfl, app_set H [PObj.mk 30 (a.tgs.map dem) 1, z55] 1 (PObj.mk 30 (c.tgs.map dem) 1), trivial⟩
    (conv => whnf)
    ((conv in (_[_]?) => tactic => exact app_get H [PObj.mk 30 (a.tgs.map dem) 1, PObj.mk 30 (c.tgs.map dem) 1] 0); (conv => whnf))
    ((conv in (_[_]?) => tactic => exact app_get H [PObj.mk 30 (a.tgs.map dem) 1, PObj.mk 30 (c.tgs.map dem) 1] 1); (conv => whnf))
    refine callK_pure (c105 a.t1 a.t2 a.tKv a.tB c.t1 c.t2 c.tKv c.tB) ?_
    cases f10 : sameTk a.t1 a.t2 a.tKv a.tB c.t1 c.t2 c.tKv c.tB
    · (conv => whnf)
      exact ⟨congrArg PV.bool (by unfold sameTgs; simp only [f10, Bool.and_true, Bool.true_and, Bool.and_false, Bool.false_and]), ⟨_, rfl⟩⟩
    (conv => whnf)
    ((conv in (_[_]?) => tactic => exact app_get H [PObj.mk 30 (a.tgs.map dem) 1, PObj.mk 30 (c.tgs.map dem) 1] 0); (conv => whnf))
    ((conv in (_[_]?) => tactic => exact app_get H [PObj.mk 30 (a.tgs.map dem) 1, PObj.mk 30 (c.tgs.map dem) 1] 1); (conv => whnf))
    refine callK_pure (c106 a.tAu c.tAu) ?_
    cases f11 : decide (a.tAu = c.tAu)
    · (conv => whnf)
      exact ⟨congrArg PV.bool (by unfold sameTgs; simp only [f10, f11, Bool.and_true, Bool.true_and, Bool.and_false, Bool.false_and]), ⟨_, rfl⟩⟩
    (conv => whnf)
    ((conv in (_[_]?) => tactic => exact app_get H [PObj.mk 30 (a.tgs.map dem) 1, PObj.mk 30 (c.tgs.map dem) 1] 0); (conv => whnf))
    ((conv in (_[_]?) => tactic => exact app_get H [PObj.mk 30 (a.tgs.map dem) 1, PObj.mk 30 (c.tgs.map dem) 1] 1); (conv => whnf))
    refine ⟨⟨fitG _ _, fitG _ _⟩, ?_⟩
    (conv => whnf)
    refine ⟨fun h => ?_, fun h => ?_⟩
    rotate_left
    · have f12 : decide (a.t3 = c.t3 ∧ a.t4 = c.t4) = false := decide_eq_false fun hh => h (Iff.mpr pr_eq2 hh)
      (conv => whnf)
      exact ⟨congrArg PV.bool (by unfold sameTgs; simp only [f10, f11, f12, Bool.and_true, Bool.true_and, Bool.and_false, Bool.false_and]), ⟨_, rfl⟩⟩
    have f12 : decide (a.t3 = c.t3 ∧ a.t4 = c.t4) = true := decide_eq_true (Iff.mp pr_eq2 h)
    (conv => whnf)
    ((conv in (_[_]?) => tactic => exact app_get H [PObj.mk 30 (a.tgs.map dem) 1, PObj.mk 30 (c.tgs.map dem) 1] 0); (conv => whnf))
    ((conv in (_[_]?) => tactic => exact app_get H [PObj.mk 30 (a.tgs.map dem) 1, PObj.mk 30 (c.tgs.map dem) 1] 1); (conv => whnf))
    refine ⟨fun h => ?_, fun h => ?_⟩
    rotate_left
    · have f13 : decide (a.tTill = c.tTill) = false := decide_eq_false fun hh => h (Iff.mpr Iff.rfl hh)
      (conv => whnf)
      exact ⟨congrArg PV.bool (by unfold sameTgs; simp only [f10, f11, f12, f13, Bool.and_true, Bool.true_and, Bool.and_false, Bool.false_and]), ⟨_, rfl⟩⟩
    have f13 : decide (a.tTill = c.tTill) = true := decide_eq_true (Iff.mp Iff.rfl h)
    (conv => whnf)
    ((conv in (_[_]?) => tactic => exact app_get H [PObj.mk 30 (a.tgs.map dem) 1, PObj.mk 30 (c.tgs.map dem) 1] 0); (conv => whnf))
    ((conv in (_[_]?) => tactic => exact app_get H [PObj.mk 30 (a.tgs.map dem) 1, PObj.mk 30 (c.tgs.map dem) 1] 1); (conv => whnf))
    refine ⟨fun h => ?_, fun h => ?_⟩
    rotate_left
    · have f14 : decide (a.tNonce = c.tNonce) = false := decide_eq_false fun hh => h (Iff.mpr Iff.rfl hh)
      (conv => whnf)
      exact ⟨congrArg PV.bool (by unfold sameTgs; simp only [f10, f11, f12, f13, f14, Bool.and_true, Bool.true_and, Bool.and_false, Bool.false_and]), ⟨_, rfl⟩⟩
    have f14 : decide (a.tNonce = c.tNonce) = true := decide_eq_true (Iff.mp Iff.rfl h)
    (conv => whnf)
    exact ⟨congrArg PV.bool (by unfold sameTgs; simp only [f10, f11, f12, f13, f14, Bool.and_true, Bool.true_and, Bool.and_false, Bool.false_and]), ⟨_, rfl⟩⟩
  have h2 : ¬ a.kind = 2 := h2
  (conv => whnf)
  refine ⟨fun h3 => ?_, fun h3 => ?_⟩
  · have h3 : a.kind = 3 := h3
    rw [if_neg h1]
    rw [if_neg h2]
    rw [if_pos h3]
    (conv => whnf)
    refine ⟨⟨fitG _ _, fitG _ _⟩, ?_⟩
    (conv => whnf)
    refine ⟨fun h => ?_, fun h => ?_⟩
    rotate_left
    · have f15 : decide (a.r1 = c.r1 ∧ a.r2 = c.r2) = false := decide_eq_false fun hh => h (Iff.mpr pr_eq2 hh)
      (conv => whnf)
      exact ⟨congrArg PV.bool (by unfold sameRep; simp only [f15, Bool.and_true, Bool.true_and, Bool.and_false, Bool.false_and]), Ext.refl _⟩
    have f15 : decide (a.r1 = c.r1 ∧ a.r2 = c.r2) = true := decide_eq_true (Iff.mp pr_eq2 h)
    (conv => whnf)
    refine callK_pure (c105 a.r3 a.r4 a.rKv a.rB c.r3 c.r4 c.rKv c.rB) ?_
    cases f16 : sameTk a.r3 a.r4 a.rKv a.rB c.r3 c.r4 c.rKv c.rB
    · (conv => whnf)
      exact ⟨congrArg PV.bool (by unfold sameRep; simp only [f15, f16, Bool.and_true, Bool.true_and, Bool.and_false, Bool.false_and]), Ext.refl _⟩
    (conv => whnf)
    refine callK_pure (c106 a.rBl c.rBl) ?_
    cases f17 : decide (a.rBl = c.rBl)
    · (conv => whnf)
      exact ⟨congrArg PV.bool (by unfold sameRep; simp only [f15, f16, f17, Bool.and_true, Bool.true_and, Bool.and_false, Bool.false_and]), Ext.refl _⟩
    (conv => whnf)
    exact ⟨congrArg PV.bool (by unfold sameRep; simp only [f15, f16, f17, Bool.and_true, Bool.true_and, Bool.and_false, Bool.false_and]), Ext.refl _⟩
  have h3 : ¬ a.kind = 3 := h3
  (conv => whnf)
  refine ⟨fun h4 => ?_, fun h4 => ?_⟩
  · have h4 : a.kind = 4 := h4
    rw [if_neg h1]
    rw [if_neg h2]
    rw [if_neg h3]
    rw [if_pos h4]
    (conv => whnf)
    refine callK_pure (c105 a.p1 a.p2 a.pKv a.pB c.p1 c.p2 c.pKv c.pB) ?_
    cases f18 : sameTk a.p1 a.p2 a.pKv a.pB c.p1 c.p2 c.pKv c.pB
    · (conv => whnf)
      exact ⟨congrArg PV.bool (by unfold sameAp; simp only [f18, Bool.and_true, Bool.true_and, Bool.and_false, Bool.false_and]), Ext.refl _⟩
    (conv => whnf)
    refine callK_pure (c106 a.pAu c.pAu) ?_
    cases f19 : decide (a.pAu = c.pAu)
    · (conv => whnf)
      exact ⟨congrArg PV.bool (by unfold sameAp; simp only [f18, f19, Bool.and_true, Bool.true_and, Bool.and_false, Bool.false_and]), Ext.refl _⟩
    (conv => whnf)
    exact ⟨congrArg PV.bool (by unfold sameAp; simp only [f18, f19, Bool.and_true, Bool.true_and, Bool.and_false, Bool.false_and]), Ext.refl _⟩
  have h4 : ¬ a.kind = 4 := h4
  (conv => whnf)
  refine ⟨fun h5 => ?_, fun h5 => ?_⟩
  · have h5 : a.kind = 5 := h5
    rw [if_neg h1]
    rw [if_neg h2]
    rw [if_neg h3]
    rw [if_neg h4]
    rw [if_pos h5]
    (conv => whnf)
    refine ⟨⟨fitF _ _, fitF _ _⟩, ?_⟩
    (conv => whnf)
    refine ⟨fun h => ?_, fun h => ?_⟩
    · (conv => whnf)
      exact ⟨congrArg PV.bool (decide_eq_true (Iff.mp fl_eq2 h)).symm, Ext.refl _⟩
    · (conv => whnf)
      exact ⟨congrArg PV.bool (decide_eq_false (fun hh => h (Iff.mpr fl_eq2 hh))).symm, Ext.refl _⟩
  have h5 : ¬ a.kind = 5 := h5
  (conv => whnf)
  rw [if_neg h1, if_neg h2, if_neg h3, if_neg h4, if_neg h5]
  exact ⟨rfl, Ext.refl _⟩
theorem c44 (a c : Msg) : Pure prog 44 [.agg a.cells, .agg c.cells] (.bool (sameB a c)) := Pure.of_gc rfl (c44x a c)
def D43 (n : Nat) : Draw := { imp := [6, 7], robs := [z55, z55], res := [(4, 0), (5, 1)], base := n, win := [(2, 0, 1), (3, 0, 1), (7, 1, 1)] }
theorem c43x (a c : Msg) (H : PH) : CallOk prog 43 [.agg a.cells, .agg c.cells] H fun r H' => r = .bool (sameB a c) ∧ ∃ ext, H' = H ++ ext := by
  (refine callOk_of_pFun2 (tt := ttG) (imm := imm43) follows ttG_ok depth6 func43 (by kernel_rfl) ?_; (conv => whnf))
  refine ⟨fun h => ?_, fun h => ?_⟩
  rotate_left
  · have h : ¬ a.kind = c.kind := h
    (conv => whnf)
    exact ⟨congrArg PV.bool (show false = sameB a c from (if_neg h).symm), Ext.refl _⟩
  have h0 : a.kind = c.kind := h
  (conv => whnf)
  have e0 : sameB a c = (if a.kind = 1 then sameAs a c else if a.kind = 2 then sameTgs a c else if a.kind = 3 then sameRep a c else if a.kind = 4 then sameAp a c else if a.kind = 5 then sameFail a c else true) := if_pos h0
  rw [e0]
  refine ⟨fun h1 => ?_, fun h1 => ?_⟩
  · have h1 : a.kind = 1 := h1
    rw [if_pos h1]
    (conv => whnf)
    refine ⟨⟨fitA _ _ _ _ _ _, fitA _ _ _ _ _ _⟩, ?_⟩
    (conv => whnf)
    refine ⟨fun h => ?_, fun h => ?_⟩
    · (conv => whnf)
      exact ⟨congrArg PV.bool (decide_eq_true (Iff.mp as_eq2 h)).symm, Ext.refl _⟩
    · (conv => whnf)
      exact ⟨congrArg PV.bool (decide_eq_false (fun hh => h (Iff.mpr as_eq2 hh))).symm, Ext.refl _⟩
  have h1 : ¬ a.kind = 1 := h1
  (conv => whnf)
  refine ⟨fun h2 => ?_, fun h2 => ?_⟩
  · have h2 : a.kind = 2 := h2
    rw [if_neg h1]
    rw [if_pos h2]
    (conv => whnf)
    refine drawK_of2 (D43 H.length) [H ++ [z55, z55], H ++ [PObj.mk 30 (a.tgs.map dem) 1, z55], H ++ [PObj.mk 30 (a.tgs.map dem) 1, PObj.mk 30 (c.tgs.map dem) 1]] (by kernel_rfl) ⟨rfl, rfl⟩ trivial ?_
    (conv => whnf)
    (apply Exists.intro; apply And.intro; (focus ((conv => whnf); first | exact ⟨rfl, rfl, trivial⟩ | (refine ⟨by omega, ?_⟩; (conv => whnf); exact ⟨rfl, rfl, trivial⟩))); (conv => whnf))
    (apply Exists.intro; apply And.intro; (focus ((conv => whnf); first | exact ⟨rfl, rfl, trivial⟩ | (refine ⟨by omega, ?_⟩; (conv => whnf); exact ⟨rfl, rfl, trivial⟩))); (conv => whnf))
    (apply Exists.intro; apply And.intro; (focus ((conv => whnf); apply And.intro; (focus ((conv => whnf); first | exact ⟨rfl, rfl, trivial⟩ | (refine ⟨by omega, ?_⟩; (conv => whnf); exact ⟨rfl, rfl, trivial⟩))); ((conv => whnf); first | exact ⟨rfl, rfl, trivial⟩ | (refine ⟨by omega, ?_⟩; (conv => whnf); exact ⟨rfl, rfl, trivial⟩)))); (conv => whnf))
    (apply Exists.intro; apply And.intro; (focus ((conv => whnf); apply And.intro; (focus ((conv => whnf); first | exact ⟨rfl, rfl, trivial⟩ | (refine ⟨by omega, ?_⟩; (conv => whnf); exact ⟨rfl, rfl, trivial⟩))); ((conv => whnf); first | exact ⟨rfl, rfl, trivial⟩ | (refine ⟨by omega, ?_⟩; (conv => whnf); exact ⟨rfl, rfl, trivial⟩)))); (conv => whnf))
    refine ⟨_, ⟨⟨rfl, rfl, trivial⟩, app_get H [z55, z55] 0⟩, ?_⟩
    (conv => whnf)
    refine ⟨_, ⟨⟨rfl, rfl, trivial⟩, app_get H [z55, z55] 1⟩, ?_⟩
    (conv => whnf)
    apply Exists.intro
    apply And.intro
    focus
      (conv => whnf)
      ((conv in (_[_]?) => tactic => exact app_get H [z55, z55] 0); (conv => whnf))
      (conv => whnf)
      exact ⟨rfl, app_set H [z55, z55] 0 (PObj.mk 30 (a.tgs.map dem) 1), trivial⟩
    (conv => whnf)
    apply Exists.intro
    apply And.intro
    focus
      (conv => whnf)
      ((conv in (_[_]?) => tactic => exact app_get H [PObj.mk 30 (a.tgs.map dem) 1, z55] 1); (conv => whnf))
      (conv => whnf)
      exact ⟨rfl, app_set H [PObj.mk 30 (a.tgs.map dem) 1, z55] 1 (PObj.mk 30 (c.tgs.map dem) 1), trivial⟩
    (conv => whnf)
    ((conv in (_[_]?) => tactic => exact app_get H [PObj.mk 30 (a.tgs.map dem) 1, PObj.mk 30 (c.tgs.map dem) 1] 0); (conv => whnf))
    ((conv in (_[_]?) => tactic => exact app_get H [PObj.mk 30 (a.tgs.map dem) 1, PObj.mk 30 (c.tgs.map dem) 1] 1); (conv => whnf))
    refine callK_pure (c103 a.t1 a.t2 a.tKv a.tB c.t1 c.t2 c.tKv c.tB) ?_
    cases g1 : sameTk a.t1 a.t2 a.tKv a.tB c.t1 c.t2 c.tKv c.tB
    · (conv => whnf)
      exact ⟨congrArg PV.bool (by unfold sameTgs; simp only [g1, Bool.and_true, Bool.true_and, Bool.and_false, Bool.false_and]), ⟨_, rfl⟩⟩
    (conv => whnf)
    ((conv in (_[_]?) => tactic => exact app_get H [PObj.mk 30 (a.tgs.map dem) 1, PObj.mk 30 (c.tgs.map dem) 1] 0); (conv => whnf))
    refine ⟨a.tAu, ⟨rfl, rfl⟩, ?_⟩
    (conv => whnf)
    ((conv in (_[_]?) => tactic => exact app_get H [PObj.mk 30 (a.tgs.map dem) 1, PObj.mk 30 (c.tgs.map dem) 1] 1); (conv => whnf))
    refine ⟨c.tAu, ⟨rfl, rfl⟩, ?_⟩
    (conv => whnf)
    refine ⟨fun h => ?_, fun h => ?_⟩
    rotate_left
    · have g2 : decide (a.tAu = c.tAu) = false := decide_eq_false h
      (conv => whnf)
      exact ⟨congrArg PV.bool (by unfold sameTgs; simp only [g1, g2, Bool.and_true, Bool.true_and, Bool.and_false, Bool.false_and]), ⟨_, rfl⟩⟩
    have g2 : decide (a.tAu = c.tAu) = true := decide_eq_true h
    (conv => whnf)
    ((conv in (_[_]?) => tactic => exact app_get H [PObj.mk 30 (a.tgs.map dem) 1, PObj.mk 30 (c.tgs.map dem) 1] 0); (conv => whnf))
    ((conv in (_[_]?) => tactic => exact app_get H [PObj.mk 30 (a.tgs.map dem) 1, PObj.mk 30 (c.tgs.map dem) 1] 1); (conv => whnf))
    refine ⟨⟨fitG _ _, fitG _ _⟩, ?_⟩
    (conv => whnf)
    refine ⟨fun h => ?_, fun h => ?_⟩
    rotate_left
    · have f20 : decide (a.t3 = c.t3 ∧ a.t4 = c.t4) = false := decide_eq_false fun hh => h (Iff.mpr pr_eq2 hh)
      (conv => whnf)
      exact ⟨congrArg PV.bool (by unfold sameTgs; simp only [g1, g2, f20, Bool.and_true, Bool.true_and, Bool.and_false, Bool.false_and]), ⟨_, rfl⟩⟩
    have f20 : decide (a.t3 = c.t3 ∧ a.t4 = c.t4) = true := decide_eq_true (Iff.mp pr_eq2 h)
    (conv => whnf)
    ((conv in (_[_]?) => tactic => exact app_get H [PObj.mk 30 (a.tgs.map dem) 1, PObj.mk 30 (c.tgs.map dem) 1] 0); (conv => whnf))
    ((conv in (_[_]?) => tactic => exact app_get H [PObj.mk 30 (a.tgs.map dem) 1, PObj.mk 30 (c.tgs.map dem) 1] 1); (conv => whnf))
    refine ⟨fun h => ?_, fun h => ?_⟩
    rotate_left
    · have f21 : decide (a.tTill = c.tTill) = false := decide_eq_false fun hh => h (Iff.mpr Iff.rfl hh)
      (conv => whnf)
      exact ⟨congrArg PV.bool (by unfold sameTgs; simp only [g1, g2, f20, f21, Bool.and_true, Bool.true_and, Bool.and_false, Bool.false_and]), ⟨_, rfl⟩⟩
    have f21 : decide (a.tTill = c.tTill) = true := decide_eq_true (Iff.mp Iff.rfl h)
    (conv => whnf)
    ((conv in (_[_]?) => tactic => exact app_get H [PObj.mk 30 (a.tgs.map dem) 1, PObj.mk 30 (c.tgs.map dem) 1] 0); (conv => whnf))
    ((conv in (_[_]?) => tactic => exact app_get H [PObj.mk 30 (a.tgs.map dem) 1, PObj.mk 30 (c.tgs.map dem) 1] 1); (conv => whnf))
    refine ⟨fun h => ?_, fun h => ?_⟩
    rotate_left
    · have f22 : decide (a.tNonce = c.tNonce) = false := decide_eq_false fun hh => h (Iff.mpr Iff.rfl hh)
      (conv => whnf)
      exact ⟨congrArg PV.bool (by unfold sameTgs; simp only [g1, g2, f20, f21, f22, Bool.and_true, Bool.true_and, Bool.and_false, Bool.false_and]), ⟨_, rfl⟩⟩
    have f22 : decide (a.tNonce = c.tNonce) = true := decide_eq_true (Iff.mp Iff.rfl h)
    (conv => whnf)
    exact ⟨congrArg PV.bool (by unfold sameTgs; simp only [g1, g2, f20, f21, f22, Bool.and_true, Bool.true_and, Bool.and_false, Bool.false_and]), ⟨_, rfl⟩⟩
  have h2 : ¬ a.kind = 2 := h2
  (conv => whnf)
  refine ⟨fun h3 => ?_, fun h3 => ?_⟩
  · have h3 : a.kind = 3 := h3
    rw [if_neg h1]
    rw [if_neg h2]
    rw [if_pos h3]
    (conv => whnf)
    refine callK_pure (c104 a c) ?_
    cases f1 : sameRep a c
    · (conv => whnf)
      exact ⟨rfl, Ext.refl _⟩
    · (conv => whnf)
      exact ⟨rfl, Ext.refl _⟩
  have h3 : ¬ a.kind = 3 := h3
  (conv => whnf)
  refine ⟨fun h4 => ?_, fun h4 => ?_⟩
  · have h4 : a.kind = 4 := h4
    rw [if_neg h1]
    rw [if_neg h2]
    rw [if_neg h3]
    rw [if_pos h4]
    (conv => whnf)
    refine callK_pure (c103 a.p1 a.p2 a.pKv a.pB c.p1 c.p2 c.pKv c.pB) ?_
    cases f23 : sameTk a.p1 a.p2 a.pKv a.pB c.p1 c.p2 c.pKv c.pB
    · (conv => whnf)
      exact ⟨congrArg PV.bool (by unfold sameAp; simp only [f23, Bool.and_true, Bool.true_and, Bool.and_false, Bool.false_and]), Ext.refl _⟩
    (conv => whnf)
    refine ⟨a.pAu, ⟨rfl, rfl⟩, ?_⟩
    (conv => whnf)
    refine ⟨c.pAu, ⟨rfl, rfl⟩, ?_⟩
    (conv => whnf)
    refine ⟨fun h => ?_, fun h => ?_⟩
    rotate_left
    · have f24 : decide (a.pAu = c.pAu) = false := decide_eq_false fun hh => h (Iff.mpr Iff.rfl hh)
      (conv => whnf)
      exact ⟨congrArg PV.bool (by unfold sameAp; simp only [f23, f24, Bool.and_true, Bool.true_and, Bool.and_false, Bool.false_and]), Ext.refl _⟩
    have f24 : decide (a.pAu = c.pAu) = true := decide_eq_true (Iff.mp Iff.rfl h)
    (conv => whnf)
    exact ⟨congrArg PV.bool (by unfold sameAp; simp only [f23, f24, Bool.and_true, Bool.true_and, Bool.and_false, Bool.false_and]), Ext.refl _⟩
  have h4 : ¬ a.kind = 4 := h4
  (conv => whnf)
  refine ⟨fun h5 => ?_, fun h5 => ?_⟩
  · have h5 : a.kind = 5 := h5
    rw [if_neg h1]
    rw [if_neg h2]
    rw [if_neg h3]
    rw [if_neg h4]
    rw [if_pos h5]
    (conv => whnf)
    refine ⟨⟨fitF _ _, fitF _ _⟩, ?_⟩
    (conv => whnf)
    refine ⟨fun h => ?_, fun h => ?_⟩
    · (conv => whnf)
      exact ⟨congrArg PV.bool (decide_eq_true (Iff.mp fl_eq2 h)).symm, Ext.refl _⟩
    · (conv => whnf)
      exact ⟨congrArg PV.bool (decide_eq_false (fun hh => h (Iff.mpr fl_eq2 hh))).symm, Ext.refl _⟩
  have h5 : ¬ a.kind = 5 := h5
  (conv => whnf)
  rw [if_neg h1, if_neg h2, if_neg h3, if_neg h4, if_neg h5]
  exact ⟨rfl, Ext.refl _⟩
theorem c43 (a c : Msg) : Pure prog 43 [.agg a.cells, .agg c.cells] (.bool (sameB a c)) := Pure.of_gc rfl (c43x a c)
end Go.Proofs.Tryz

set_option maxRecDepth 100000
set_option maxHeartbeats 4000000
set_option linter.unusedVariables false
set_option linter.unusedSimpArgs false
namespace Go.Proofs.Tryz
open Go Ps
def ttP : TT := [(3, ⟨.int .i64, 1, 8, [.int .i64 0]⟩), (4, ⟨.bool, 1, 1, [.bool false]⟩), (5, ⟨.int .u8, 1, 1, [.int .u8 0]⟩), (9, ⟨.str, 1, 16, [.str []]⟩), (22, ⟨.slice 5, 1, 24, [.slice 0 [] (some 5)]⟩), (24, ⟨.strct [(9, 0), (9, 1)], 2, 32, [.str [], .str []]⟩), (26, ⟨.strct [(24, 0), (24, 2), (3, 4), (3, 5)], 6, 80, [.str [], .str [], .str [], .str [], .int .i64 0, .int .i64 0]⟩), (28, ⟨.strct [(24, 0), (3, 2), (22, 3)], 4, 64, [.str [], .str [], .int .i64 0, .slice 0 [] (some 5)]⟩), (30, ⟨.strct [(28, 0), (22, 4), (24, 5), (3, 7), (3, 8)], 9, 136, [.str [], .str [], .int .i64 0, .slice 0 [] (some 5), .slice 0 [] (some 5), .str [], .str [], .int .i64 0, .int .i64 0]⟩), (32, ⟨.strct [(24, 0), (28, 2), (22, 6)], 7, 120, [.str [], .str [], .str [], .str [], .int .i64 0, .slice 0 [] (some 5), .slice 0 [] (some 5)]⟩), (34, ⟨.strct [(28, 0), (22, 4)], 5, 88, [.str [], .str [], .int .i64 0, .slice 0 [] (some 5), .slice 0 [] (some 5)]⟩), (35, ⟨.int .i64, 1, 8, [.int .i64 0]⟩), (37, ⟨.strct [(35, 0), (3, 1)], 2, 16, [.int .i64 0, .int .i64 0]⟩), (39, ⟨.strct [(3, 0), (26, 1), (30, 7), (32, 16), (34, 23), (37, 28)], 30, 448, [.int .i64 0, .str [], .str [], .str [], .str [], .int .i64 0, .int .i64 0, .str [], .str [], .int .i64 0, .slice 0 [] (some 5), .slice 0 [] (some 5), .str [], .str [], .int .i64 0, .int .i64 0, .str [], .str [], .str [], .str [], .int .i64 0, .slice 0 [] (some 5), .slice 0 [] (some 5), .str [], .str [], .int .i64 0, .slice 0 [] (some 5), .slice 0 [] (some 5), .int .i64 0, .int .i64 0]⟩)]
theorem ttP_ok : ttOk prog ttP = true := by kernel_rfl
def imm6 : List Nat := [3, 4]
theorem sameB_refl (m : Msg) : sameB m m = true := by
  unfold sameB sameAs sameTgs sameRep sameAp sameFail sameTk
  simp
theorem c6 (m q : Msg) (b : List UInt8) (hm : m.reach) (hq : q.reach) : CallOk prog 6 [.agg m.cells, .agg q.cells, slo b none] [] fun r _ => r = .bool true := by
  (refine callOk_of_pFun2 (tt := ttP) (imm := imm6) follows ttP_ok depth6 func6 (by kernel_rfl) ?_; (conv => whnf))
  refine callK_pure (c41 m.d hm) ?_
  (conv => whnf)
  refine ⟨fun h => ?_, fun h => ?_⟩
  · (conv => whnf)
    rfl
  have h1 : ¬ ((szN m : Int) > 5000) := h
  (conv => whnf)
  refine callK_pure (c41 q.d hq) ?_
  (conv => whnf)
  refine ⟨fun h => ?_, fun h => ?_⟩
  · (conv => whnf)
    rfl
  (conv => whnf)
  refine ⟨fun h => ?_, fun h => ?_⟩
  · (conv => whnf)
    rfl
  have h3 : ¬ ((b.length : Int) > 3000) := h
  have hf : m.d.fits := fits_of (m := m) (by omega)
  have hdec : callK prog 11 [sl b] = callK prog 11 [sl b] := rfl
  have eb : PV.slice (0 + b.length) ([] ++ b.map byteC) none = sl b := by unfold sl; rw [Nat.zero_add, List.nil_append]
  have hbl : ∀ l : List UInt8, l.length ≤ 3000 → (0 + l.length) * 1 ≤ 140737488355328 := fun l h => by omega
  (conv => whnf)
  by_cases hen : isB m.d = true ∧ (laidB m.d).length ≤ 2000
  · refine callK_pure ((c14 m.d hf).of_eq (encV_yes hen)) ?_
    (conv => whnf)
    refine callK_pure ((c42 m.d hf).of_eq (encV_yes hen)) ?_
    (conv => whnf)
    cases hk : okM (takenB b) b
    · skip
      refine ⟨⟨hbl b (by omega), by simp, allOne b⟩, ?_⟩
      (conv => whnf)
      have hD : decV b = .tup [.agg mZ.d.cells, .int .i64 2] := agM_no hk
      refine callK_args (args' := [sl b]) (congrArg (fun x => [x]) eb) (callK_pure ((c11 b (by omega)).of_eq hD) ?_)
      (conv => whnf)
      refine callK_pure ((c12 b (by omega)).of_eq ((refDec_eq b).trans hD)) ?_
      (conv => whnf)
      refine drawK_pure2 (by kernel_rfl) ?_
      (conv => whnf)
      (apply Exists.intro; apply And.intro; (focus ((conv => whnf); first | exact ⟨rfl, rfl, trivial⟩ | (refine ⟨by omega, ?_⟩; (conv => whnf); exact ⟨rfl, rfl, trivial⟩))); (conv => whnf))
      refine ⟨.str (laidB m.d), ⟨(laidB m.d), ⟨rfl, rfl⟩, rfl, rfl, trivial⟩, ?_⟩
      (conv => whnf)
      (apply Exists.intro; apply And.intro; (focus ((conv => whnf); first | exact ⟨rfl, rfl, trivial⟩ | (refine ⟨by omega, ?_⟩; (conv => whnf); exact ⟨rfl, rfl, trivial⟩))); (conv => whnf))
      refine ⟨.str (laidB m.d), ⟨(laidB m.d), ⟨rfl, rfl⟩, rfl, rfl, trivial⟩, ?_⟩
      (conv => whnf)
      refine ⟨.bool true, ?_, ?_⟩
      · (conv => whnf)
        exact ⟨fun _ => ⟨rfl, rfl, trivial⟩, fun h => absurd rfl h⟩
      (conv => whnf)
      (apply Exists.intro; apply And.intro; (focus ((conv => whnf); first | exact ⟨rfl, rfl, trivial⟩ | (refine ⟨by omega, ?_⟩; (conv => whnf); exact ⟨rfl, rfl, trivial⟩))); (conv => whnf))
      (apply Exists.intro; apply And.intro; (focus ((conv => whnf); first | exact ⟨rfl, rfl, trivial⟩ | (refine ⟨by omega, ?_⟩; (conv => whnf); exact ⟨rfl, rfl, trivial⟩))); (conv => whnf))
      (apply Exists.intro; apply And.intro; (focus ((conv => whnf); first | exact ⟨rfl, rfl, trivial⟩ | (refine ⟨by omega, ?_⟩; (conv => whnf); exact ⟨rfl, rfl, trivial⟩))); (conv => whnf))
      refine ⟨.bool true, ?_, ?_⟩
      · (conv => whnf)
        exact ⟨fun _ => ⟨rfl, rfl, trivial⟩, fun h => absurd rfl h⟩
      (conv => whnf)
      (apply Exists.intro; apply And.intro; (focus ((conv => whnf); first | exact ⟨rfl, rfl, trivial⟩ | (refine ⟨by omega, ?_⟩; (conv => whnf); exact ⟨rfl, rfl, trivial⟩))); (conv => whnf))
      (apply Exists.intro; apply And.intro; (focus ((conv => whnf); first | exact ⟨rfl, rfl, trivial⟩ | (refine ⟨by omega, ?_⟩; (conv => whnf); exact ⟨rfl, rfl, trivial⟩))); (conv => whnf))
      (apply Exists.intro; apply And.intro; (focus ((conv => whnf); first | exact ⟨rfl, rfl, trivial⟩ | (refine ⟨by omega, ?_⟩; (conv => whnf); exact ⟨rfl, rfl, trivial⟩))); (conv => whnf))
      (apply Exists.intro; apply And.intro; (focus ((conv => whnf); first | exact ⟨rfl, rfl, trivial⟩ | (refine ⟨by omega, ?_⟩; (conv => whnf); exact ⟨rfl, rfl, trivial⟩))); (conv => whnf))
      refine ⟨_, callK_pure ((c43 mZ.d mZ.d).of_eq (congrArg PV.bool (sameB_refl _))) ⟨rfl, rfl, trivial⟩, ?_⟩
      (conv => whnf)
      (apply Exists.intro; apply And.intro; (focus ((conv => whnf); first | exact ⟨rfl, rfl, trivial⟩ | (refine ⟨by omega, ?_⟩; (conv => whnf); exact ⟨rfl, rfl, trivial⟩))); (conv => whnf))
      (apply Exists.intro; apply And.intro; (focus ((conv => whnf); first | exact ⟨rfl, rfl, trivial⟩ | (refine ⟨by omega, ?_⟩; (conv => whnf); exact ⟨rfl, rfl, trivial⟩))); (conv => whnf))
      (apply Exists.intro; apply And.intro; (focus ((conv => whnf); first | exact ⟨rfl, rfl, trivial⟩ | (refine ⟨by omega, ?_⟩; (conv => whnf); exact ⟨rfl, rfl, trivial⟩))); (conv => whnf))
      (apply Exists.intro; apply And.intro; (focus ((conv => whnf); first | exact ⟨rfl, rfl, trivial⟩ | (refine ⟨by omega, ?_⟩; (conv => whnf); exact ⟨rfl, rfl, trivial⟩))); (conv => whnf))
      refine ⟨.bool true, ?_, ?_⟩
      · (conv => whnf)
        exact ⟨fun _ => ⟨rfl, rfl, trivial⟩, fun h => absurd rfl h⟩
      (conv => whnf)
      (apply Exists.intro; apply And.intro; (focus ((conv => whnf); first | exact ⟨rfl, rfl, trivial⟩ | (refine ⟨by omega, ?_⟩; (conv => whnf); exact ⟨rfl, rfl, trivial⟩))); (conv => whnf))
      (apply Exists.intro; apply And.intro; (focus ((conv => whnf); first | exact ⟨rfl, rfl, trivial⟩ | (refine ⟨by omega, ?_⟩; (conv => whnf); exact ⟨rfl, rfl, trivial⟩))); (conv => whnf))
      (apply Exists.intro; apply And.intro; (focus ((conv => whnf); first | exact ⟨rfl, rfl, trivial⟩ | (refine ⟨by omega, ?_⟩; (conv => whnf); exact ⟨rfl, rfl, trivial⟩))); (conv => whnf))
      (apply Exists.intro; apply And.intro; (focus ((conv => whnf); first | exact ⟨rfl, rfl, trivial⟩ | (refine ⟨by omega, ?_⟩; (conv => whnf); exact ⟨rfl, rfl, trivial⟩))); (conv => whnf))
      cases hs : sameB m.d q.d
      · refine ⟨_, callK_pure ((c44 m.d q.d).of_eq (congrArg PV.bool hs)) ⟨rfl, rfl, trivial⟩, ?_⟩
        (conv => whnf)
        (apply Exists.intro; apply And.intro; (focus ((conv => whnf); first | exact ⟨rfl, rfl, trivial⟩ | (refine ⟨by omega, ?_⟩; (conv => whnf); exact ⟨rfl, rfl, trivial⟩))); (conv => whnf))
        (apply Exists.intro; apply And.intro; (focus ((conv => whnf); first | exact ⟨rfl, rfl, trivial⟩ | (refine ⟨by omega, ?_⟩; (conv => whnf); exact ⟨rfl, rfl, trivial⟩))); (conv => whnf))
        refine ⟨_, callK_pure ((c43 m.d q.d).of_eq (congrArg PV.bool hs)) ⟨rfl, rfl, trivial⟩, ?_⟩
        (conv => whnf)
        (apply Exists.intro; apply And.intro; (focus ((conv => whnf); first | exact ⟨rfl, rfl, trivial⟩ | (refine ⟨by omega, ?_⟩; (conv => whnf); exact ⟨rfl, rfl, trivial⟩))); (conv => whnf))
        (apply Exists.intro; apply And.intro; (focus ((conv => whnf); first | exact ⟨rfl, rfl, trivial⟩ | (refine ⟨by omega, ?_⟩; (conv => whnf); exact ⟨rfl, rfl, trivial⟩))); (conv => whnf))
        (apply Exists.intro; apply And.intro; (focus ((conv => whnf); first | exact ⟨rfl, rfl, trivial⟩ | (refine ⟨by omega, ?_⟩; (conv => whnf); exact ⟨rfl, rfl, trivial⟩))); (conv => whnf))
        (apply Exists.intro; apply And.intro; (focus ((conv => whnf); first | exact ⟨rfl, rfl, trivial⟩ | (refine ⟨by omega, ?_⟩; (conv => whnf); exact ⟨rfl, rfl, trivial⟩))); (conv => whnf))
        (apply Exists.intro; apply And.intro; (focus ((conv => whnf); first | exact ⟨rfl, rfl, trivial⟩ | (refine ⟨by omega, ?_⟩; (conv => whnf); exact ⟨rfl, rfl, trivial⟩))); (conv => whnf))
        refine ⟨_, callK_pure ((c44 m.d m.d).of_eq (congrArg PV.bool (sameB_refl _))) ⟨rfl, rfl, trivial⟩, ?_⟩
        (conv => whnf)
        (apply Exists.intro; apply And.intro; (focus ((conv => whnf); first | exact ⟨rfl, rfl, trivial⟩ | (refine ⟨by omega, ?_⟩; (conv => whnf); exact ⟨rfl, rfl, trivial⟩))); (conv => whnf))
        (apply Exists.intro; apply And.intro; (focus ((conv => whnf); first | exact ⟨rfl, rfl, trivial⟩ | (refine ⟨by omega, ?_⟩; (conv => whnf); exact ⟨rfl, rfl, trivial⟩))); (conv => whnf))
        refine ⟨_, callK_pure c13 ⟨rfl, rfl, trivial⟩, ?_⟩
        (conv => whnf)
        (apply Exists.intro; apply And.intro; (focus ((conv => whnf); first | exact ⟨rfl, rfl, trivial⟩ | (refine ⟨by omega, ?_⟩; (conv => whnf); exact ⟨rfl, rfl, trivial⟩))); (conv => whnf))
        (apply Exists.intro; apply And.intro; (focus ((conv => whnf); first | exact ⟨rfl, rfl, trivial⟩ | (refine ⟨by omega, ?_⟩; (conv => whnf); exact ⟨rfl, rfl, trivial⟩))); (conv => whnf))
        rfl
      · refine ⟨_, callK_pure ((c44 m.d q.d).of_eq (congrArg PV.bool hs)) ⟨rfl, rfl, trivial⟩, ?_⟩
        (conv => whnf)
        (apply Exists.intro; apply And.intro; (focus ((conv => whnf); first | exact ⟨rfl, rfl, trivial⟩ | (refine ⟨by omega, ?_⟩; (conv => whnf); exact ⟨rfl, rfl, trivial⟩))); (conv => whnf))
        (apply Exists.intro; apply And.intro; (focus ((conv => whnf); first | exact ⟨rfl, rfl, trivial⟩ | (refine ⟨by omega, ?_⟩; (conv => whnf); exact ⟨rfl, rfl, trivial⟩))); (conv => whnf))
        refine ⟨_, callK_pure ((c43 m.d q.d).of_eq (congrArg PV.bool hs)) ⟨rfl, rfl, trivial⟩, ?_⟩
        (conv => whnf)
        (apply Exists.intro; apply And.intro; (focus ((conv => whnf); first | exact ⟨rfl, rfl, trivial⟩ | (refine ⟨by omega, ?_⟩; (conv => whnf); exact ⟨rfl, rfl, trivial⟩))); (conv => whnf))
        (apply Exists.intro; apply And.intro; (focus ((conv => whnf); first | exact ⟨rfl, rfl, trivial⟩ | (refine ⟨by omega, ?_⟩; (conv => whnf); exact ⟨rfl, rfl, trivial⟩))); (conv => whnf))
        (apply Exists.intro; apply And.intro; (focus ((conv => whnf); first | exact ⟨rfl, rfl, trivial⟩ | (refine ⟨by omega, ?_⟩; (conv => whnf); exact ⟨rfl, rfl, trivial⟩))); (conv => whnf))
        (apply Exists.intro; apply And.intro; (focus ((conv => whnf); first | exact ⟨rfl, rfl, trivial⟩ | (refine ⟨by omega, ?_⟩; (conv => whnf); exact ⟨rfl, rfl, trivial⟩))); (conv => whnf))
        (apply Exists.intro; apply And.intro; (focus ((conv => whnf); first | exact ⟨rfl, rfl, trivial⟩ | (refine ⟨by omega, ?_⟩; (conv => whnf); exact ⟨rfl, rfl, trivial⟩))); (conv => whnf))
        refine ⟨_, callK_pure ((c44 m.d m.d).of_eq (congrArg PV.bool (sameB_refl _))) ⟨rfl, rfl, trivial⟩, ?_⟩
        (conv => whnf)
        (apply Exists.intro; apply And.intro; (focus ((conv => whnf); first | exact ⟨rfl, rfl, trivial⟩ | (refine ⟨by omega, ?_⟩; (conv => whnf); exact ⟨rfl, rfl, trivial⟩))); (conv => whnf))
        (apply Exists.intro; apply And.intro; (focus ((conv => whnf); first | exact ⟨rfl, rfl, trivial⟩ | (refine ⟨by omega, ?_⟩; (conv => whnf); exact ⟨rfl, rfl, trivial⟩))); (conv => whnf))
        refine ⟨_, callK_pure c13 ⟨rfl, rfl, trivial⟩, ?_⟩
        (conv => whnf)
        (apply Exists.intro; apply And.intro; (focus ((conv => whnf); first | exact ⟨rfl, rfl, trivial⟩ | (refine ⟨by omega, ?_⟩; (conv => whnf); exact ⟨rfl, rfl, trivial⟩))); (conv => whnf))
        (apply Exists.intro; apply And.intro; (focus ((conv => whnf); first | exact ⟨rfl, rfl, trivial⟩ | (refine ⟨by omega, ?_⟩; (conv => whnf); exact ⟨rfl, rfl, trivial⟩))); (conv => whnf))
        rfl
    · skip
      refine ⟨⟨hbl b (by omega), by simp, allOne b⟩, ?_⟩
      (conv => whnf)
      have hD : decV b = .tup [.agg (takenB b).d.cells, .int .i64 0] := dec_yes hk
      refine callK_args (args' := [sl b]) (congrArg (fun x => [x]) eb) (callK_pure ((c11 b (by omega)).of_eq hD) ?_)
      (conv => whnf)
      refine callK_pure ((c12 b (by omega)).of_eq ((refDec_eq b).trans hD)) ?_
      (conv => whnf)
      refine drawK_pure2 (by kernel_rfl) ?_
      (conv => whnf)
      (apply Exists.intro; apply And.intro; (focus ((conv => whnf); first | exact ⟨rfl, rfl, trivial⟩ | (refine ⟨by omega, ?_⟩; (conv => whnf); exact ⟨rfl, rfl, trivial⟩))); (conv => whnf))
      refine ⟨.str (laidB m.d), ⟨(laidB m.d), ⟨rfl, rfl⟩, rfl, rfl, trivial⟩, ?_⟩
      (conv => whnf)
      (apply Exists.intro; apply And.intro; (focus ((conv => whnf); first | exact ⟨rfl, rfl, trivial⟩ | (refine ⟨by omega, ?_⟩; (conv => whnf); exact ⟨rfl, rfl, trivial⟩))); (conv => whnf))
      refine ⟨.str (laidB m.d), ⟨(laidB m.d), ⟨rfl, rfl⟩, rfl, rfl, trivial⟩, ?_⟩
      (conv => whnf)
      refine ⟨.bool true, ?_, ?_⟩
      · (conv => whnf)
        exact ⟨fun _ => ⟨rfl, rfl, trivial⟩, fun h => absurd rfl h⟩
      (conv => whnf)
      (apply Exists.intro; apply And.intro; (focus ((conv => whnf); first | exact ⟨rfl, rfl, trivial⟩ | (refine ⟨by omega, ?_⟩; (conv => whnf); exact ⟨rfl, rfl, trivial⟩))); (conv => whnf))
      (apply Exists.intro; apply And.intro; (focus ((conv => whnf); first | exact ⟨rfl, rfl, trivial⟩ | (refine ⟨by omega, ?_⟩; (conv => whnf); exact ⟨rfl, rfl, trivial⟩))); (conv => whnf))
      (apply Exists.intro; apply And.intro; (focus ((conv => whnf); first | exact ⟨rfl, rfl, trivial⟩ | (refine ⟨by omega, ?_⟩; (conv => whnf); exact ⟨rfl, rfl, trivial⟩))); (conv => whnf))
      refine ⟨.bool true, ?_, ?_⟩
      · (conv => whnf)
        exact ⟨fun _ => ⟨rfl, rfl, trivial⟩, fun h => absurd rfl h⟩
      (conv => whnf)
      (apply Exists.intro; apply And.intro; (focus ((conv => whnf); first | exact ⟨rfl, rfl, trivial⟩ | (refine ⟨by omega, ?_⟩; (conv => whnf); exact ⟨rfl, rfl, trivial⟩))); (conv => whnf))
      (apply Exists.intro; apply And.intro; (focus ((conv => whnf); first | exact ⟨rfl, rfl, trivial⟩ | (refine ⟨by omega, ?_⟩; (conv => whnf); exact ⟨rfl, rfl, trivial⟩))); (conv => whnf))
      (apply Exists.intro; apply And.intro; (focus ((conv => whnf); first | exact ⟨rfl, rfl, trivial⟩ | (refine ⟨by omega, ?_⟩; (conv => whnf); exact ⟨rfl, rfl, trivial⟩))); (conv => whnf))
      (apply Exists.intro; apply And.intro; (focus ((conv => whnf); first | exact ⟨rfl, rfl, trivial⟩ | (refine ⟨by omega, ?_⟩; (conv => whnf); exact ⟨rfl, rfl, trivial⟩))); (conv => whnf))
      refine ⟨_, callK_pure ((c43 (takenB b).d (takenB b).d).of_eq (congrArg PV.bool (sameB_refl _))) ⟨rfl, rfl, trivial⟩, ?_⟩
      (conv => whnf)
      (apply Exists.intro; apply And.intro; (focus ((conv => whnf); first | exact ⟨rfl, rfl, trivial⟩ | (refine ⟨by omega, ?_⟩; (conv => whnf); exact ⟨rfl, rfl, trivial⟩))); (conv => whnf))
      (apply Exists.intro; apply And.intro; (focus ((conv => whnf); first | exact ⟨rfl, rfl, trivial⟩ | (refine ⟨by omega, ?_⟩; (conv => whnf); exact ⟨rfl, rfl, trivial⟩))); (conv => whnf))
      (apply Exists.intro; apply And.intro; (focus ((conv => whnf); first | exact ⟨rfl, rfl, trivial⟩ | (refine ⟨by omega, ?_⟩; (conv => whnf); exact ⟨rfl, rfl, trivial⟩))); (conv => whnf))
      (apply Exists.intro; apply And.intro; (focus ((conv => whnf); first | exact ⟨rfl, rfl, trivial⟩ | (refine ⟨by omega, ?_⟩; (conv => whnf); exact ⟨rfl, rfl, trivial⟩))); (conv => whnf))
      refine ⟨.bool true, ?_, ?_⟩
      · (conv => whnf)
        exact ⟨fun _ => ⟨rfl, rfl, trivial⟩, fun h => absurd rfl h⟩
      (conv => whnf)
      (apply Exists.intro; apply And.intro; (focus ((conv => whnf); first | exact ⟨rfl, rfl, trivial⟩ | (refine ⟨by omega, ?_⟩; (conv => whnf); exact ⟨rfl, rfl, trivial⟩))); (conv => whnf))
      (apply Exists.intro; apply And.intro; (focus ((conv => whnf); first | exact ⟨rfl, rfl, trivial⟩ | (refine ⟨by omega, ?_⟩; (conv => whnf); exact ⟨rfl, rfl, trivial⟩))); (conv => whnf))
      (apply Exists.intro; apply And.intro; (focus ((conv => whnf); first | exact ⟨rfl, rfl, trivial⟩ | (refine ⟨by omega, ?_⟩; (conv => whnf); exact ⟨rfl, rfl, trivial⟩))); (conv => whnf))
      (apply Exists.intro; apply And.intro; (focus ((conv => whnf); first | exact ⟨rfl, rfl, trivial⟩ | (refine ⟨by omega, ?_⟩; (conv => whnf); exact ⟨rfl, rfl, trivial⟩))); (conv => whnf))
      cases hs : sameB m.d q.d
      · refine ⟨_, callK_pure ((c44 m.d q.d).of_eq (congrArg PV.bool hs)) ⟨rfl, rfl, trivial⟩, ?_⟩
        (conv => whnf)
        (apply Exists.intro; apply And.intro; (focus ((conv => whnf); first | exact ⟨rfl, rfl, trivial⟩ | (refine ⟨by omega, ?_⟩; (conv => whnf); exact ⟨rfl, rfl, trivial⟩))); (conv => whnf))
        (apply Exists.intro; apply And.intro; (focus ((conv => whnf); first | exact ⟨rfl, rfl, trivial⟩ | (refine ⟨by omega, ?_⟩; (conv => whnf); exact ⟨rfl, rfl, trivial⟩))); (conv => whnf))
        refine ⟨_, callK_pure ((c43 m.d q.d).of_eq (congrArg PV.bool hs)) ⟨rfl, rfl, trivial⟩, ?_⟩
        (conv => whnf)
        (apply Exists.intro; apply And.intro; (focus ((conv => whnf); first | exact ⟨rfl, rfl, trivial⟩ | (refine ⟨by omega, ?_⟩; (conv => whnf); exact ⟨rfl, rfl, trivial⟩))); (conv => whnf))
        (apply Exists.intro; apply And.intro; (focus ((conv => whnf); first | exact ⟨rfl, rfl, trivial⟩ | (refine ⟨by omega, ?_⟩; (conv => whnf); exact ⟨rfl, rfl, trivial⟩))); (conv => whnf))
        (apply Exists.intro; apply And.intro; (focus ((conv => whnf); first | exact ⟨rfl, rfl, trivial⟩ | (refine ⟨by omega, ?_⟩; (conv => whnf); exact ⟨rfl, rfl, trivial⟩))); (conv => whnf))
        (apply Exists.intro; apply And.intro; (focus ((conv => whnf); first | exact ⟨rfl, rfl, trivial⟩ | (refine ⟨by omega, ?_⟩; (conv => whnf); exact ⟨rfl, rfl, trivial⟩))); (conv => whnf))
        (apply Exists.intro; apply And.intro; (focus ((conv => whnf); first | exact ⟨rfl, rfl, trivial⟩ | (refine ⟨by omega, ?_⟩; (conv => whnf); exact ⟨rfl, rfl, trivial⟩))); (conv => whnf))
        refine ⟨_, callK_pure ((c44 m.d m.d).of_eq (congrArg PV.bool (sameB_refl _))) ⟨rfl, rfl, trivial⟩, ?_⟩
        (conv => whnf)
        (apply Exists.intro; apply And.intro; (focus ((conv => whnf); first | exact ⟨rfl, rfl, trivial⟩ | (refine ⟨by omega, ?_⟩; (conv => whnf); exact ⟨rfl, rfl, trivial⟩))); (conv => whnf))
        (apply Exists.intro; apply And.intro; (focus ((conv => whnf); first | exact ⟨rfl, rfl, trivial⟩ | (refine ⟨by omega, ?_⟩; (conv => whnf); exact ⟨rfl, rfl, trivial⟩))); (conv => whnf))
        refine ⟨_, callK_pure c13 ⟨rfl, rfl, trivial⟩, ?_⟩
        (conv => whnf)
        (apply Exists.intro; apply And.intro; (focus ((conv => whnf); first | exact ⟨rfl, rfl, trivial⟩ | (refine ⟨by omega, ?_⟩; (conv => whnf); exact ⟨rfl, rfl, trivial⟩))); (conv => whnf))
        (apply Exists.intro; apply And.intro; (focus ((conv => whnf); first | exact ⟨rfl, rfl, trivial⟩ | (refine ⟨by omega, ?_⟩; (conv => whnf); exact ⟨rfl, rfl, trivial⟩))); (conv => whnf))
        rfl
      · refine ⟨_, callK_pure ((c44 m.d q.d).of_eq (congrArg PV.bool hs)) ⟨rfl, rfl, trivial⟩, ?_⟩
        (conv => whnf)
        (apply Exists.intro; apply And.intro; (focus ((conv => whnf); first | exact ⟨rfl, rfl, trivial⟩ | (refine ⟨by omega, ?_⟩; (conv => whnf); exact ⟨rfl, rfl, trivial⟩))); (conv => whnf))
        (apply Exists.intro; apply And.intro; (focus ((conv => whnf); first | exact ⟨rfl, rfl, trivial⟩ | (refine ⟨by omega, ?_⟩; (conv => whnf); exact ⟨rfl, rfl, trivial⟩))); (conv => whnf))
        refine ⟨_, callK_pure ((c43 m.d q.d).of_eq (congrArg PV.bool hs)) ⟨rfl, rfl, trivial⟩, ?_⟩
        (conv => whnf)
        (apply Exists.intro; apply And.intro; (focus ((conv => whnf); first | exact ⟨rfl, rfl, trivial⟩ | (refine ⟨by omega, ?_⟩; (conv => whnf); exact ⟨rfl, rfl, trivial⟩))); (conv => whnf))
        (apply Exists.intro; apply And.intro; (focus ((conv => whnf); first | exact ⟨rfl, rfl, trivial⟩ | (refine ⟨by omega, ?_⟩; (conv => whnf); exact ⟨rfl, rfl, trivial⟩))); (conv => whnf))
        (apply Exists.intro; apply And.intro; (focus ((conv => whnf); first | exact ⟨rfl, rfl, trivial⟩ | (refine ⟨by omega, ?_⟩; (conv => whnf); exact ⟨rfl, rfl, trivial⟩))); (conv => whnf))
        (apply Exists.intro; apply And.intro; (focus ((conv => whnf); first | exact ⟨rfl, rfl, trivial⟩ | (refine ⟨by omega, ?_⟩; (conv => whnf); exact ⟨rfl, rfl, trivial⟩))); (conv => whnf))
        (apply Exists.intro; apply And.intro; (focus ((conv => whnf); first | exact ⟨rfl, rfl, trivial⟩ | (refine ⟨by omega, ?_⟩; (conv => whnf); exact ⟨rfl, rfl, trivial⟩))); (conv => whnf))
        refine ⟨_, callK_pure ((c44 m.d m.d).of_eq (congrArg PV.bool (sameB_refl _))) ⟨rfl, rfl, trivial⟩, ?_⟩
        (conv => whnf)
        (apply Exists.intro; apply And.intro; (focus ((conv => whnf); first | exact ⟨rfl, rfl, trivial⟩ | (refine ⟨by omega, ?_⟩; (conv => whnf); exact ⟨rfl, rfl, trivial⟩))); (conv => whnf))
        (apply Exists.intro; apply And.intro; (focus ((conv => whnf); first | exact ⟨rfl, rfl, trivial⟩ | (refine ⟨by omega, ?_⟩; (conv => whnf); exact ⟨rfl, rfl, trivial⟩))); (conv => whnf))
        refine ⟨_, callK_pure c13 ⟨rfl, rfl, trivial⟩, ?_⟩
        (conv => whnf)
        (apply Exists.intro; apply And.intro; (focus ((conv => whnf); first | exact ⟨rfl, rfl, trivial⟩ | (refine ⟨by omega, ?_⟩; (conv => whnf); exact ⟨rfl, rfl, trivial⟩))); (conv => whnf))
        (apply Exists.intro; apply And.intro; (focus ((conv => whnf); first | exact ⟨rfl, rfl, trivial⟩ | (refine ⟨by omega, ?_⟩; (conv => whnf); exact ⟨rfl, rfl, trivial⟩))); (conv => whnf))
        rfl
  · refine callK_pure ((c14 m.d hf).of_eq (encV_no hen)) ?_
    (conv => whnf)
    refine callK_pure ((c42 m.d hf).of_eq (encV_no hen)) ?_
    (conv => whnf)
    cases hk : okM (takenB b) b
    · skip
      refine ⟨⟨hbl b (by omega), by simp, allOne b⟩, ?_⟩
      (conv => whnf)
      have hD : decV b = .tup [.agg mZ.d.cells, .int .i64 2] := agM_no hk
      refine callK_args (args' := [sl b]) (congrArg (fun x => [x]) eb) (callK_pure ((c11 b (by omega)).of_eq hD) ?_)
      (conv => whnf)
      refine callK_pure ((c12 b (by omega)).of_eq ((refDec_eq b).trans hD)) ?_
      (conv => whnf)
      refine drawK_pure2 (by kernel_rfl) ?_
      (conv => whnf)
      (apply Exists.intro; apply And.intro; (focus ((conv => whnf); first | exact ⟨rfl, rfl, trivial⟩ | (refine ⟨by omega, ?_⟩; (conv => whnf); exact ⟨rfl, rfl, trivial⟩))); (conv => whnf))
      refine ⟨.str [], ⟨[], ⟨rfl, rfl⟩, rfl, rfl, trivial⟩, ?_⟩
      (conv => whnf)
      (apply Exists.intro; apply And.intro; (focus ((conv => whnf); first | exact ⟨rfl, rfl, trivial⟩ | (refine ⟨by omega, ?_⟩; (conv => whnf); exact ⟨rfl, rfl, trivial⟩))); (conv => whnf))
      refine ⟨.str [], ⟨[], ⟨rfl, rfl⟩, rfl, rfl, trivial⟩, ?_⟩
      (conv => whnf)
      refine ⟨.bool true, ?_, ?_⟩
      · (conv => whnf)
        exact ⟨fun _ => ⟨rfl, rfl, trivial⟩, fun h => absurd rfl h⟩
      (conv => whnf)
      (apply Exists.intro; apply And.intro; (focus ((conv => whnf); first | exact ⟨rfl, rfl, trivial⟩ | (refine ⟨by omega, ?_⟩; (conv => whnf); exact ⟨rfl, rfl, trivial⟩))); (conv => whnf))
      (apply Exists.intro; apply And.intro; (focus ((conv => whnf); first | exact ⟨rfl, rfl, trivial⟩ | (refine ⟨by omega, ?_⟩; (conv => whnf); exact ⟨rfl, rfl, trivial⟩))); (conv => whnf))
      (apply Exists.intro; apply And.intro; (focus ((conv => whnf); first | exact ⟨rfl, rfl, trivial⟩ | (refine ⟨by omega, ?_⟩; (conv => whnf); exact ⟨rfl, rfl, trivial⟩))); (conv => whnf))
      refine ⟨.bool true, ?_, ?_⟩
      · (conv => whnf)
        exact ⟨fun _ => ⟨rfl, rfl, trivial⟩, fun h => absurd rfl h⟩
      (conv => whnf)
      (apply Exists.intro; apply And.intro; (focus ((conv => whnf); first | exact ⟨rfl, rfl, trivial⟩ | (refine ⟨by omega, ?_⟩; (conv => whnf); exact ⟨rfl, rfl, trivial⟩))); (conv => whnf))
      (apply Exists.intro; apply And.intro; (focus ((conv => whnf); first | exact ⟨rfl, rfl, trivial⟩ | (refine ⟨by omega, ?_⟩; (conv => whnf); exact ⟨rfl, rfl, trivial⟩))); (conv => whnf))
      (apply Exists.intro; apply And.intro; (focus ((conv => whnf); first | exact ⟨rfl, rfl, trivial⟩ | (refine ⟨by omega, ?_⟩; (conv => whnf); exact ⟨rfl, rfl, trivial⟩))); (conv => whnf))
      (apply Exists.intro; apply And.intro; (focus ((conv => whnf); first | exact ⟨rfl, rfl, trivial⟩ | (refine ⟨by omega, ?_⟩; (conv => whnf); exact ⟨rfl, rfl, trivial⟩))); (conv => whnf))
      refine ⟨_, callK_pure ((c43 mZ.d mZ.d).of_eq (congrArg PV.bool (sameB_refl _))) ⟨rfl, rfl, trivial⟩, ?_⟩
      (conv => whnf)
      (apply Exists.intro; apply And.intro; (focus ((conv => whnf); first | exact ⟨rfl, rfl, trivial⟩ | (refine ⟨by omega, ?_⟩; (conv => whnf); exact ⟨rfl, rfl, trivial⟩))); (conv => whnf))
      (apply Exists.intro; apply And.intro; (focus ((conv => whnf); first | exact ⟨rfl, rfl, trivial⟩ | (refine ⟨by omega, ?_⟩; (conv => whnf); exact ⟨rfl, rfl, trivial⟩))); (conv => whnf))
      (apply Exists.intro; apply And.intro; (focus ((conv => whnf); first | exact ⟨rfl, rfl, trivial⟩ | (refine ⟨by omega, ?_⟩; (conv => whnf); exact ⟨rfl, rfl, trivial⟩))); (conv => whnf))
      (apply Exists.intro; apply And.intro; (focus ((conv => whnf); first | exact ⟨rfl, rfl, trivial⟩ | (refine ⟨by omega, ?_⟩; (conv => whnf); exact ⟨rfl, rfl, trivial⟩))); (conv => whnf))
      refine ⟨.bool true, ?_, ?_⟩
      · (conv => whnf)
        exact ⟨fun _ => ⟨rfl, rfl, trivial⟩, fun h => absurd rfl h⟩
      (conv => whnf)
      (apply Exists.intro; apply And.intro; (focus ((conv => whnf); first | exact ⟨rfl, rfl, trivial⟩ | (refine ⟨by omega, ?_⟩; (conv => whnf); exact ⟨rfl, rfl, trivial⟩))); (conv => whnf))
      (apply Exists.intro; apply And.intro; (focus ((conv => whnf); first | exact ⟨rfl, rfl, trivial⟩ | (refine ⟨by omega, ?_⟩; (conv => whnf); exact ⟨rfl, rfl, trivial⟩))); (conv => whnf))
      (apply Exists.intro; apply And.intro; (focus ((conv => whnf); first | exact ⟨rfl, rfl, trivial⟩ | (refine ⟨by omega, ?_⟩; (conv => whnf); exact ⟨rfl, rfl, trivial⟩))); (conv => whnf))
      (apply Exists.intro; apply And.intro; (focus ((conv => whnf); first | exact ⟨rfl, rfl, trivial⟩ | (refine ⟨by omega, ?_⟩; (conv => whnf); exact ⟨rfl, rfl, trivial⟩))); (conv => whnf))
      cases hs : sameB m.d q.d
      · refine ⟨_, callK_pure ((c44 m.d q.d).of_eq (congrArg PV.bool hs)) ⟨rfl, rfl, trivial⟩, ?_⟩
        (conv => whnf)
        (apply Exists.intro; apply And.intro; (focus ((conv => whnf); first | exact ⟨rfl, rfl, trivial⟩ | (refine ⟨by omega, ?_⟩; (conv => whnf); exact ⟨rfl, rfl, trivial⟩))); (conv => whnf))
        (apply Exists.intro; apply And.intro; (focus ((conv => whnf); first | exact ⟨rfl, rfl, trivial⟩ | (refine ⟨by omega, ?_⟩; (conv => whnf); exact ⟨rfl, rfl, trivial⟩))); (conv => whnf))
        refine ⟨_, callK_pure ((c43 m.d q.d).of_eq (congrArg PV.bool hs)) ⟨rfl, rfl, trivial⟩, ?_⟩
        (conv => whnf)
        (apply Exists.intro; apply And.intro; (focus ((conv => whnf); first | exact ⟨rfl, rfl, trivial⟩ | (refine ⟨by omega, ?_⟩; (conv => whnf); exact ⟨rfl, rfl, trivial⟩))); (conv => whnf))
        (apply Exists.intro; apply And.intro; (focus ((conv => whnf); first | exact ⟨rfl, rfl, trivial⟩ | (refine ⟨by omega, ?_⟩; (conv => whnf); exact ⟨rfl, rfl, trivial⟩))); (conv => whnf))
        (apply Exists.intro; apply And.intro; (focus ((conv => whnf); first | exact ⟨rfl, rfl, trivial⟩ | (refine ⟨by omega, ?_⟩; (conv => whnf); exact ⟨rfl, rfl, trivial⟩))); (conv => whnf))
        (apply Exists.intro; apply And.intro; (focus ((conv => whnf); first | exact ⟨rfl, rfl, trivial⟩ | (refine ⟨by omega, ?_⟩; (conv => whnf); exact ⟨rfl, rfl, trivial⟩))); (conv => whnf))
        (apply Exists.intro; apply And.intro; (focus ((conv => whnf); first | exact ⟨rfl, rfl, trivial⟩ | (refine ⟨by omega, ?_⟩; (conv => whnf); exact ⟨rfl, rfl, trivial⟩))); (conv => whnf))
        refine ⟨_, callK_pure ((c44 m.d m.d).of_eq (congrArg PV.bool (sameB_refl _))) ⟨rfl, rfl, trivial⟩, ?_⟩
        (conv => whnf)
        (apply Exists.intro; apply And.intro; (focus ((conv => whnf); first | exact ⟨rfl, rfl, trivial⟩ | (refine ⟨by omega, ?_⟩; (conv => whnf); exact ⟨rfl, rfl, trivial⟩))); (conv => whnf))
        (apply Exists.intro; apply And.intro; (focus ((conv => whnf); first | exact ⟨rfl, rfl, trivial⟩ | (refine ⟨by omega, ?_⟩; (conv => whnf); exact ⟨rfl, rfl, trivial⟩))); (conv => whnf))
        refine ⟨_, callK_pure c13 ⟨rfl, rfl, trivial⟩, ?_⟩
        (conv => whnf)
        (apply Exists.intro; apply And.intro; (focus ((conv => whnf); first | exact ⟨rfl, rfl, trivial⟩ | (refine ⟨by omega, ?_⟩; (conv => whnf); exact ⟨rfl, rfl, trivial⟩))); (conv => whnf))
        (apply Exists.intro; apply And.intro; (focus ((conv => whnf); first | exact ⟨rfl, rfl, trivial⟩ | (refine ⟨by omega, ?_⟩; (conv => whnf); exact ⟨rfl, rfl, trivial⟩))); (conv => whnf))
        rfl
      · refine ⟨_, callK_pure ((c44 m.d q.d).of_eq (congrArg PV.bool hs)) ⟨rfl, rfl, trivial⟩, ?_⟩
        (conv => whnf)
        (apply Exists.intro; apply And.intro; (focus ((conv => whnf); first | exact ⟨rfl, rfl, trivial⟩ | (refine ⟨by omega, ?_⟩; (conv => whnf); exact ⟨rfl, rfl, trivial⟩))); (conv => whnf))
        (apply Exists.intro; apply And.intro; (focus ((conv => whnf); first | exact ⟨rfl, rfl, trivial⟩ | (refine ⟨by omega, ?_⟩; (conv => whnf); exact ⟨rfl, rfl, trivial⟩))); (conv => whnf))
        refine ⟨_, callK_pure ((c43 m.d q.d).of_eq (congrArg PV.bool hs)) ⟨rfl, rfl, trivial⟩, ?_⟩
        (conv => whnf)
        (apply Exists.intro; apply And.intro; (focus ((conv => whnf); first | exact ⟨rfl, rfl, trivial⟩ | (refine ⟨by omega, ?_⟩; (conv => whnf); exact ⟨rfl, rfl, trivial⟩))); (conv => whnf))
        (apply Exists.intro; apply And.intro; (focus ((conv => whnf); first | exact ⟨rfl, rfl, trivial⟩ | (refine ⟨by omega, ?_⟩; (conv => whnf); exact ⟨rfl, rfl, trivial⟩))); (conv => whnf))
        (apply Exists.intro; apply And.intro; (focus ((conv => whnf); first | exact ⟨rfl, rfl, trivial⟩ | (refine ⟨by omega, ?_⟩; (conv => whnf); exact ⟨rfl, rfl, trivial⟩))); (conv => whnf))
        (apply Exists.intro; apply And.intro; (focus ((conv => whnf); first | exact ⟨rfl, rfl, trivial⟩ | (refine ⟨by omega, ?_⟩; (conv => whnf); exact ⟨rfl, rfl, trivial⟩))); (conv => whnf))
        (apply Exists.intro; apply And.intro; (focus ((conv => whnf); first | exact ⟨rfl, rfl, trivial⟩ | (refine ⟨by omega, ?_⟩; (conv => whnf); exact ⟨rfl, rfl, trivial⟩))); (conv => whnf))
        refine ⟨_, callK_pure ((c44 m.d m.d).of_eq (congrArg PV.bool (sameB_refl _))) ⟨rfl, rfl, trivial⟩, ?_⟩
        (conv => whnf)
        (apply Exists.intro; apply And.intro; (focus ((conv => whnf); first | exact ⟨rfl, rfl, trivial⟩ | (refine ⟨by omega, ?_⟩; (conv => whnf); exact ⟨rfl, rfl, trivial⟩))); (conv => whnf))
        (apply Exists.intro; apply And.intro; (focus ((conv => whnf); first | exact ⟨rfl, rfl, trivial⟩ | (refine ⟨by omega, ?_⟩; (conv => whnf); exact ⟨rfl, rfl, trivial⟩))); (conv => whnf))
        refine ⟨_, callK_pure c13 ⟨rfl, rfl, trivial⟩, ?_⟩
        (conv => whnf)
        (apply Exists.intro; apply And.intro; (focus ((conv => whnf); first | exact ⟨rfl, rfl, trivial⟩ | (refine ⟨by omega, ?_⟩; (conv => whnf); exact ⟨rfl, rfl, trivial⟩))); (conv => whnf))
        (apply Exists.intro; apply And.intro; (focus ((conv => whnf); first | exact ⟨rfl, rfl, trivial⟩ | (refine ⟨by omega, ?_⟩; (conv => whnf); exact ⟨rfl, rfl, trivial⟩))); (conv => whnf))
        rfl
    · skip
      refine ⟨⟨hbl b (by omega), by simp, allOne b⟩, ?_⟩
      (conv => whnf)
      have hD : decV b = .tup [.agg (takenB b).d.cells, .int .i64 0] := dec_yes hk
      refine callK_args (args' := [sl b]) (congrArg (fun x => [x]) eb) (callK_pure ((c11 b (by omega)).of_eq hD) ?_)
      (conv => whnf)
      refine callK_pure ((c12 b (by omega)).of_eq ((refDec_eq b).trans hD)) ?_
      (conv => whnf)
      refine drawK_pure2 (by kernel_rfl) ?_
      (conv => whnf)
      (apply Exists.intro; apply And.intro; (focus ((conv => whnf); first | exact ⟨rfl, rfl, trivial⟩ | (refine ⟨by omega, ?_⟩; (conv => whnf); exact ⟨rfl, rfl, trivial⟩))); (conv => whnf))
      refine ⟨.str [], ⟨[], ⟨rfl, rfl⟩, rfl, rfl, trivial⟩, ?_⟩
      (conv => whnf)
      (apply Exists.intro; apply And.intro; (focus ((conv => whnf); first | exact ⟨rfl, rfl, trivial⟩ | (refine ⟨by omega, ?_⟩; (conv => whnf); exact ⟨rfl, rfl, trivial⟩))); (conv => whnf))
      refine ⟨.str [], ⟨[], ⟨rfl, rfl⟩, rfl, rfl, trivial⟩, ?_⟩
      (conv => whnf)
      refine ⟨.bool true, ?_, ?_⟩
      · (conv => whnf)
        exact ⟨fun _ => ⟨rfl, rfl, trivial⟩, fun h => absurd rfl h⟩
      (conv => whnf)
      (apply Exists.intro; apply And.intro; (focus ((conv => whnf); first | exact ⟨rfl, rfl, trivial⟩ | (refine ⟨by omega, ?_⟩; (conv => whnf); exact ⟨rfl, rfl, trivial⟩))); (conv => whnf))
      (apply Exists.intro; apply And.intro; (focus ((conv => whnf); first | exact ⟨rfl, rfl, trivial⟩ | (refine ⟨by omega, ?_⟩; (conv => whnf); exact ⟨rfl, rfl, trivial⟩))); (conv => whnf))
      (apply Exists.intro; apply And.intro; (focus ((conv => whnf); first | exact ⟨rfl, rfl, trivial⟩ | (refine ⟨by omega, ?_⟩; (conv => whnf); exact ⟨rfl, rfl, trivial⟩))); (conv => whnf))
      refine ⟨.bool true, ?_, ?_⟩
      · (conv => whnf)
        exact ⟨fun _ => ⟨rfl, rfl, trivial⟩, fun h => absurd rfl h⟩
      (conv => whnf)
      (apply Exists.intro; apply And.intro; (focus ((conv => whnf); first | exact ⟨rfl, rfl, trivial⟩ | (refine ⟨by omega, ?_⟩; (conv => whnf); exact ⟨rfl, rfl, trivial⟩))); (conv => whnf))
      (apply Exists.intro; apply And.intro; (focus ((conv => whnf); first | exact ⟨rfl, rfl, trivial⟩ | (refine ⟨by omega, ?_⟩; (conv => whnf); exact ⟨rfl, rfl, trivial⟩))); (conv => whnf))
      (apply Exists.intro; apply And.intro; (focus ((conv => whnf); first | exact ⟨rfl, rfl, trivial⟩ | (refine ⟨by omega, ?_⟩; (conv => whnf); exact ⟨rfl, rfl, trivial⟩))); (conv => whnf))
      (apply Exists.intro; apply And.intro; (focus ((conv => whnf); first | exact ⟨rfl, rfl, trivial⟩ | (refine ⟨by omega, ?_⟩; (conv => whnf); exact ⟨rfl, rfl, trivial⟩))); (conv => whnf))
      refine ⟨_, callK_pure ((c43 (takenB b).d (takenB b).d).of_eq (congrArg PV.bool (sameB_refl _))) ⟨rfl, rfl, trivial⟩, ?_⟩
      (conv => whnf)
      (apply Exists.intro; apply And.intro; (focus ((conv => whnf); first | exact ⟨rfl, rfl, trivial⟩ | (refine ⟨by omega, ?_⟩; (conv => whnf); exact ⟨rfl, rfl, trivial⟩))); (conv => whnf))
      (apply Exists.intro; apply And.intro; (focus ((conv => whnf); first | exact ⟨rfl, rfl, trivial⟩ | (refine ⟨by omega, ?_⟩; (conv => whnf); exact ⟨rfl, rfl, trivial⟩))); (conv => whnf))
      (apply Exists.intro; apply And.intro; (focus ((conv => whnf); first | exact ⟨rfl, rfl, trivial⟩ | (refine ⟨by omega, ?_⟩; (conv => whnf); exact ⟨rfl, rfl, trivial⟩))); (conv => whnf))
      (apply Exists.intro; apply And.intro; (focus ((conv => whnf); first | exact ⟨rfl, rfl, trivial⟩ | (refine ⟨by omega, ?_⟩; (conv => whnf); exact ⟨rfl, rfl, trivial⟩))); (conv => whnf))
      refine ⟨.bool true, ?_, ?_⟩
      · (conv => whnf)
        exact ⟨fun _ => ⟨rfl, rfl, trivial⟩, fun h => absurd rfl h⟩
      (conv => whnf)
      (apply Exists.intro; apply And.intro; (focus ((conv => whnf); first | exact ⟨rfl, rfl, trivial⟩ | (refine ⟨by omega, ?_⟩; (conv => whnf); exact ⟨rfl, rfl, trivial⟩))); (conv => whnf))
      (apply Exists.intro; apply And.intro; (focus ((conv => whnf); first | exact ⟨rfl, rfl, trivial⟩ | (refine ⟨by omega, ?_⟩; (conv => whnf); exact ⟨rfl, rfl, trivial⟩))); (conv => whnf))
      (apply Exists.intro; apply And.intro; (focus ((conv => whnf); first | exact ⟨rfl, rfl, trivial⟩ | (refine ⟨by omega, ?_⟩; (conv => whnf); exact ⟨rfl, rfl, trivial⟩))); (conv => whnf))
      (apply Exists.intro; apply And.intro; (focus ((conv => whnf); first | exact ⟨rfl, rfl, trivial⟩ | (refine ⟨by omega, ?_⟩; (conv => whnf); exact ⟨rfl, rfl, trivial⟩))); (conv => whnf))
      cases hs : sameB m.d q.d
      · refine ⟨_, callK_pure ((c44 m.d q.d).of_eq (congrArg PV.bool hs)) ⟨rfl, rfl, trivial⟩, ?_⟩
        (conv => whnf)
        (apply Exists.intro; apply And.intro; (focus ((conv => whnf); first | exact ⟨rfl, rfl, trivial⟩ | (refine ⟨by omega, ?_⟩; (conv => whnf); exact ⟨rfl, rfl, trivial⟩))); (conv => whnf))
        (apply Exists.intro; apply And.intro; (focus ((conv => whnf); first | exact ⟨rfl, rfl, trivial⟩ | (refine ⟨by omega, ?_⟩; (conv => whnf); exact ⟨rfl, rfl, trivial⟩))); (conv => whnf))
        refine ⟨_, callK_pure ((c43 m.d q.d).of_eq (congrArg PV.bool hs)) ⟨rfl, rfl, trivial⟩, ?_⟩
        (conv => whnf)
        (apply Exists.intro; apply And.intro; (focus ((conv => whnf); first | exact ⟨rfl, rfl, trivial⟩ | (refine ⟨by omega, ?_⟩; (conv => whnf); exact ⟨rfl, rfl, trivial⟩))); (conv => whnf))
        (apply Exists.intro; apply And.intro; (focus ((conv => whnf); first | exact ⟨rfl, rfl, trivial⟩ | (refine ⟨by omega, ?_⟩; (conv => whnf); exact ⟨rfl, rfl, trivial⟩))); (conv => whnf))
        (apply Exists.intro; apply And.intro; (focus ((conv => whnf); first | exact ⟨rfl, rfl, trivial⟩ | (refine ⟨by omega, ?_⟩; (conv => whnf); exact ⟨rfl, rfl, trivial⟩))); (conv => whnf))
        (apply Exists.intro; apply And.intro; (focus ((conv => whnf); first | exact ⟨rfl, rfl, trivial⟩ | (refine ⟨by omega, ?_⟩; (conv => whnf); exact ⟨rfl, rfl, trivial⟩))); (conv => whnf))
        (apply Exists.intro; apply And.intro; (focus ((conv => whnf); first | exact ⟨rfl, rfl, trivial⟩ | (refine ⟨by omega, ?_⟩; (conv => whnf); exact ⟨rfl, rfl, trivial⟩))); (conv => whnf))
        refine ⟨_, callK_pure ((c44 m.d m.d).of_eq (congrArg PV.bool (sameB_refl _))) ⟨rfl, rfl, trivial⟩, ?_⟩
        (conv => whnf)
        (apply Exists.intro; apply And.intro; (focus ((conv => whnf); first | exact ⟨rfl, rfl, trivial⟩ | (refine ⟨by omega, ?_⟩; (conv => whnf); exact ⟨rfl, rfl, trivial⟩))); (conv => whnf))
        (apply Exists.intro; apply And.intro; (focus ((conv => whnf); first | exact ⟨rfl, rfl, trivial⟩ | (refine ⟨by omega, ?_⟩; (conv => whnf); exact ⟨rfl, rfl, trivial⟩))); (conv => whnf))
        refine ⟨_, callK_pure c13 ⟨rfl, rfl, trivial⟩, ?_⟩
        (conv => whnf)
        (apply Exists.intro; apply And.intro; (focus ((conv => whnf); first | exact ⟨rfl, rfl, trivial⟩ | (refine ⟨by omega, ?_⟩; (conv => whnf); exact ⟨rfl, rfl, trivial⟩))); (conv => whnf))
        (apply Exists.intro; apply And.intro; (focus ((conv => whnf); first | exact ⟨rfl, rfl, trivial⟩ | (refine ⟨by omega, ?_⟩; (conv => whnf); exact ⟨rfl, rfl, trivial⟩))); (conv => whnf))
        rfl
      · refine ⟨_, callK_pure ((c44 m.d q.d).of_eq (congrArg PV.bool hs)) ⟨rfl, rfl, trivial⟩, ?_⟩
        (conv => whnf)
        (apply Exists.intro; apply And.intro; (focus ((conv => whnf); first | exact ⟨rfl, rfl, trivial⟩ | (refine ⟨by omega, ?_⟩; (conv => whnf); exact ⟨rfl, rfl, trivial⟩))); (conv => whnf))
        (apply Exists.intro; apply And.intro; (focus ((conv => whnf); first | exact ⟨rfl, rfl, trivial⟩ | (refine ⟨by omega, ?_⟩; (conv => whnf); exact ⟨rfl, rfl, trivial⟩))); (conv => whnf))
        refine ⟨_, callK_pure ((c43 m.d q.d).of_eq (congrArg PV.bool hs)) ⟨rfl, rfl, trivial⟩, ?_⟩
        (conv => whnf)
        (apply Exists.intro; apply And.intro; (focus ((conv => whnf); first | exact ⟨rfl, rfl, trivial⟩ | (refine ⟨by omega, ?_⟩; (conv => whnf); exact ⟨rfl, rfl, trivial⟩))); (conv => whnf))
        (apply Exists.intro; apply And.intro; (focus ((conv => whnf); first | exact ⟨rfl, rfl, trivial⟩ | (refine ⟨by omega, ?_⟩; (conv => whnf); exact ⟨rfl, rfl, trivial⟩))); (conv => whnf))
        (apply Exists.intro; apply And.intro; (focus ((conv => whnf); first | exact ⟨rfl, rfl, trivial⟩ | (refine ⟨by omega, ?_⟩; (conv => whnf); exact ⟨rfl, rfl, trivial⟩))); (conv => whnf))
        (apply Exists.intro; apply And.intro; (focus ((conv => whnf); first | exact ⟨rfl, rfl, trivial⟩ | (refine ⟨by omega, ?_⟩; (conv => whnf); exact ⟨rfl, rfl, trivial⟩))); (conv => whnf))
        (apply Exists.intro; apply And.intro; (focus ((conv => whnf); first | exact ⟨rfl, rfl, trivial⟩ | (refine ⟨by omega, ?_⟩; (conv => whnf); exact ⟨rfl, rfl, trivial⟩))); (conv => whnf))
        refine ⟨_, callK_pure ((c44 m.d m.d).of_eq (congrArg PV.bool (sameB_refl _))) ⟨rfl, rfl, trivial⟩, ?_⟩
        (conv => whnf)
        (apply Exists.intro; apply And.intro; (focus ((conv => whnf); first | exact ⟨rfl, rfl, trivial⟩ | (refine ⟨by omega, ?_⟩; (conv => whnf); exact ⟨rfl, rfl, trivial⟩))); (conv => whnf))
        (apply Exists.intro; apply And.intro; (focus ((conv => whnf); first | exact ⟨rfl, rfl, trivial⟩ | (refine ⟨by omega, ?_⟩; (conv => whnf); exact ⟨rfl, rfl, trivial⟩))); (conv => whnf))
        refine ⟨_, callK_pure c13 ⟨rfl, rfl, trivial⟩, ?_⟩
        (conv => whnf)
        (apply Exists.intro; apply And.intro; (focus ((conv => whnf); first | exact ⟨rfl, rfl, trivial⟩ | (refine ⟨by omega, ?_⟩; (conv => whnf); exact ⟨rfl, rfl, trivial⟩))); (conv => whnf))
        (apply Exists.intro; apply And.intro; (focus ((conv => whnf); first | exact ⟨rfl, rfl, trivial⟩ | (refine ⟨by omega, ?_⟩; (conv => whnf); exact ⟨rfl, rfl, trivial⟩))); (conv => whnf))
        rfl
end Go.Proofs.Tryz
