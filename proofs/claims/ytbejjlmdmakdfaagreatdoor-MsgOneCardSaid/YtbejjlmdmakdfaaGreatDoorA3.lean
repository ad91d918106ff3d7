import Derived.Test.YtbejjlmdmakdfaaGreatDoorA2
set_option linter.all false
set_option maxRecDepth 100000
set_option maxHeartbeats 4000000
set_option linter.unusedVariables false
set_option linter.unusedSimpArgs false
namespace Go.Proofs.Tryz
open Go Ps
theorem princR_wrap (r n rest : List UInt8) (hr : r.length ≤ 1000) (hn : n.length ≤ 1000) : princR (some (princE r n ++ rest)) = (some rest, (r, n)) := by
  have h1 := wrapB_len 27 r
  have h2 := wrapB_len 27 n
  unfold princR princE
  rw [elemC_wrap 48 _ rest (by simp only [List.flatten_cons, List.flatten_nil, List.length_append, List.length_nil]; omega)]
  simp only [List.flatten_cons, List.flatten_nil]
  rw [txtC_wrap r _ (by omega)]
  simp only
  rw [txtC_wrap n [] (by omega)]
  rfl
theorem tickR_wrap (r n : List UInt8) (kv : Int) (b rest : List UInt8) (hr : r.length ≤ 1000) (hn : n.length ≤ 1000) (h0 : 0 ≤ kv) (h1 : kv ≤ 4611686018427387904) (hb : b.length ≤ 10000) :
    tickR (some (ticketE r n kv b ++ rest)) = (some rest, ⟨r, n, kv, b⟩) := by
  have k1 := princE_len r n
  have k2 := intE_len kv
  have k3 := wrapB_len 4 b
  unfold tickR ticketE
  rw [elemC_wrap 97 _ rest (by simp only [List.flatten_cons, List.flatten_nil, List.length_append, List.length_nil]; omega)]
  simp only [List.flatten_cons, List.flatten_nil]
  unfold tickRD
  rw [princR_wrap r n _ hr hn]
  simp only
  rw [rintC_wrap kv h0 h1]
  simp only
  rw [octC_wrap b [] (by omega)]
  rfl
theorem takenR_wrap (t : UInt8) (x : List UInt8) (hx : x.length ≤ 65535) : takenR (wrapB t x) = takenRT t (some x) := by
  have e := elemC_wrap t x [] hx
  rw [List.append_nil] at e
  show takenRT t (elemC t (some (wrapB t x))).2 = _
  rw [e]
/-- What is laid is read as it was. -/
theorem takenR_laid (m : Msg) (h : isB m = true) : (takenR (laidB m)).d = m.d := by
  obtain ⟨o1, o2, o3, o4, o5⟩ := others_z (isB_kind h)
  have hm := (Bool.and_eq_true _ _ ▸ h : _ ∧ _).1
  by_cases h1 : m.kind = 1
  · skip
    rw [if_pos h1] at hm
    simp only [Bool.and_eq_true] at hm
    have g1 := princ_len hm.1.1.1
    have g2 := princ_len hm.1.1.2
    have g3 := inZ_le hm.1.2
    have g4 := inZ_le hm.2
    have e0 := princE_len m.a1 m.a2
    have e1 := princE_len m.a3 m.a4
    have e2 := intE_len m.aTill
    have e3 := intE_len m.aNonce
    have hl : laidB m = wrapB 106 [princE m.a1 m.a2, princE m.a3 m.a4, intE m.aTill, intE m.aNonce].flatten := by unfold laidB; rw [if_pos h1]
    rw [hl, takenR_wrap _ _ (by simp only [List.flatten_cons, List.flatten_nil, List.length_append, List.length_nil]; omega)]
    show (rkAs (some [princE m.a1 m.a2, princE m.a3 m.a4, intE m.aTill, intE m.aNonce].flatten)).d = _
    simp only [List.flatten_cons, List.flatten_nil]
    unfold rkAs
    have w0 := princR_wrap m.a1 m.a2 (princE m.a3 m.a4 ++ (intE m.aTill ++ (intE m.aNonce ++ []))) (by omega) (by omega)
    have w1 := princR_wrap m.a3 m.a4 (intE m.aTill ++ (intE m.aNonce ++ [])) (by omega) (by omega)
    have w2 := rintC_wrap m.aTill (by omega) (by omega) (intE m.aNonce ++ [])
    have w3 := rintC_wrap m.aNonce (by omega) (by omega) []
    simp only [w0, w1, w2, w3]
    have z2 := noTgs_z (o2 (by omega))
    have z3 := noRep_z (o3 (by omega))
    have z4 := noAp_z (o4 (by omega))
    have z5 := noFail_z (o5 (by omega))
    clear o1 o2 o3 o4 o5 hl hm h w0
    obtain ⟨kind, a1, a2, a3, a4, aTill, aNonce, t1, t2, tKv, tB, tBo, tAu, tAuo, t3, t4, tTill, tNonce, r1, r2, r3, r4, rKv, rB, rBo, rBl, rBlo, p1, p2, pKv, pB, pBo, pAu, pAuo, fErr, fNonce⟩ := m
    obtain ⟨y2_0, y2_1, y2_2, y2_3, y2_4, y2_5, y2_6, y2_7, y2_8⟩ := z2
    obtain ⟨y3_0, y3_1, y3_2, y3_3, y3_4, y3_5, y3_6⟩ := z3
    obtain ⟨y4_0, y4_1, y4_2, y4_3, y4_4⟩ := z4
    obtain ⟨y5_0, y5_1⟩ := z5
    simp only at *
    subst h1 y2_0 y2_1 y2_2 y2_3 y2_4 y2_5 y2_6 y2_7 y2_8 y3_0 y3_1 y3_2 y3_3 y3_4 y3_5 y3_6 y4_0 y4_1 y4_2 y4_3 y4_4 y5_0 y5_1
    rfl
  by_cases h2 : m.kind = 2
  · skip
    rw [if_neg h1] at hm
    rw [if_pos h2] at hm
    simp only [Bool.and_eq_true] at hm
    have g1 := tick_len hm.1.1.1.1
    have gk := tick_kv hm.1.1.1.1
    have g2 := inZ_le hm.1.1.1.2
    have g3 := princ_len hm.1.1.2
    have g4 := inZ_le hm.1.2
    have g5 := inZ_le hm.2
    have e0 := ticketE_len m.t1 m.t2 m.tKv m.tB
    have e1 := wrapB_len 4 m.tAu
    have e2 := princE_len m.t3 m.t4
    have e3 := intE_len m.tTill
    have e4 := intE_len m.tNonce
    have hl : laidB m = wrapB 108 [ticketE m.t1 m.t2 m.tKv m.tB, wrapB 4 m.tAu, princE m.t3 m.t4, intE m.tTill, intE m.tNonce].flatten := by unfold laidB; rw [if_neg h1]; rw [if_pos h2]
    rw [hl, takenR_wrap _ _ (by simp only [List.flatten_cons, List.flatten_nil, List.length_append, List.length_nil]; omega)]
    show (rkTgs (some [ticketE m.t1 m.t2 m.tKv m.tB, wrapB 4 m.tAu, princE m.t3 m.t4, intE m.tTill, intE m.tNonce].flatten)).d = _
    simp only [List.flatten_cons, List.flatten_nil]
    unfold rkTgs
    have w0 := tickR_wrap m.t1 m.t2 m.tKv m.tB (wrapB 4 m.tAu ++ (princE m.t3 m.t4 ++ (intE m.tTill ++ (intE m.tNonce ++ [])))) (by omega) (by omega) (by omega) (by omega) (by omega)
    have w1 := octC_wrap m.tAu (princE m.t3 m.t4 ++ (intE m.tTill ++ (intE m.tNonce ++ []))) (by omega)
    have w2 := princR_wrap m.t3 m.t4 (intE m.tTill ++ (intE m.tNonce ++ [])) (by omega) (by omega)
    have w3 := rintC_wrap m.tTill (by omega) (by omega) (intE m.tNonce ++ [])
    have w4 := rintC_wrap m.tNonce (by omega) (by omega) []
    simp only [w0, w1, w2, w3, w4]
    have z1 := noAs_z (o1 (by omega))
    have z3 := noRep_z (o3 (by omega))
    have z4 := noAp_z (o4 (by omega))
    have z5 := noFail_z (o5 (by omega))
    clear o1 o2 o3 o4 o5 hl hm h w0
    obtain ⟨kind, a1, a2, a3, a4, aTill, aNonce, t1, t2, tKv, tB, tBo, tAu, tAuo, t3, t4, tTill, tNonce, r1, r2, r3, r4, rKv, rB, rBo, rBl, rBlo, p1, p2, pKv, pB, pBo, pAu, pAuo, fErr, fNonce⟩ := m
    obtain ⟨y1_0, y1_1, y1_2, y1_3, y1_4, y1_5⟩ := z1
    obtain ⟨y3_0, y3_1, y3_2, y3_3, y3_4, y3_5, y3_6⟩ := z3
    obtain ⟨y4_0, y4_1, y4_2, y4_3, y4_4⟩ := z4
    obtain ⟨y5_0, y5_1⟩ := z5
    simp only at *
    subst h2 y1_0 y1_1 y1_2 y1_3 y1_4 y1_5 y3_0 y3_1 y3_2 y3_3 y3_4 y3_5 y3_6 y4_0 y4_1 y4_2 y4_3 y4_4 y5_0 y5_1
    rfl
  by_cases h3 : m.kind = 3
  · skip
    rw [if_neg h1] at hm
    rw [if_neg h2] at hm
    rw [if_pos h3] at hm
    simp only [Bool.and_eq_true] at hm
    have g1 := princ_len hm.1.1
    have g2 := tick_len hm.1.2
    have gk := tick_kv hm.1.2
    have g3 := inZ_le hm.2
    have e0 := princE_len m.r1 m.r2
    have e1 := ticketE_len m.r3 m.r4 m.rKv m.rB
    have e2 := wrapB_len 4 m.rBl
    have hl : laidB m = wrapB 107 [princE m.r1 m.r2, ticketE m.r3 m.r4 m.rKv m.rB, wrapB 4 m.rBl].flatten := by unfold laidB; rw [if_neg h1]; rw [if_neg h2]; rw [if_pos h3]
    rw [hl, takenR_wrap _ _ (by simp only [List.flatten_cons, List.flatten_nil, List.length_append, List.length_nil]; omega)]
    show (rkRep (some [princE m.r1 m.r2, ticketE m.r3 m.r4 m.rKv m.rB, wrapB 4 m.rBl].flatten)).d = _
    simp only [List.flatten_cons, List.flatten_nil]
    unfold rkRep
    have w0 := princR_wrap m.r1 m.r2 (ticketE m.r3 m.r4 m.rKv m.rB ++ (wrapB 4 m.rBl ++ [])) (by omega) (by omega)
    have w1 := tickR_wrap m.r3 m.r4 m.rKv m.rB (wrapB 4 m.rBl ++ []) (by omega) (by omega) (by omega) (by omega) (by omega)
    have w2 := octC_wrap m.rBl [] (by omega)
    simp only [w0, w1, w2]
    have z1 := noAs_z (o1 (by omega))
    have z2 := noTgs_z (o2 (by omega))
    have z4 := noAp_z (o4 (by omega))
    have z5 := noFail_z (o5 (by omega))
    clear o1 o2 o3 o4 o5 hl hm h w0
    obtain ⟨kind, a1, a2, a3, a4, aTill, aNonce, t1, t2, tKv, tB, tBo, tAu, tAuo, t3, t4, tTill, tNonce, r1, r2, r3, r4, rKv, rB, rBo, rBl, rBlo, p1, p2, pKv, pB, pBo, pAu, pAuo, fErr, fNonce⟩ := m
    obtain ⟨y1_0, y1_1, y1_2, y1_3, y1_4, y1_5⟩ := z1
    obtain ⟨y2_0, y2_1, y2_2, y2_3, y2_4, y2_5, y2_6, y2_7, y2_8⟩ := z2
    obtain ⟨y4_0, y4_1, y4_2, y4_3, y4_4⟩ := z4
    obtain ⟨y5_0, y5_1⟩ := z5
    simp only at *
    subst h3 y1_0 y1_1 y1_2 y1_3 y1_4 y1_5 y2_0 y2_1 y2_2 y2_3 y2_4 y2_5 y2_6 y2_7 y2_8 y4_0 y4_1 y4_2 y4_3 y4_4 y5_0 y5_1
    rfl
  by_cases h4 : m.kind = 4
  · skip
    rw [if_neg h1] at hm
    rw [if_neg h2] at hm
    rw [if_neg h3] at hm
    rw [if_pos h4] at hm
    simp only [Bool.and_eq_true] at hm
    have g1 := tick_len hm.1
    have gk := tick_kv hm.1
    have g2 := inZ_le hm.2
    have e0 := ticketE_len m.p1 m.p2 m.pKv m.pB
    have e1 := wrapB_len 4 m.pAu
    have hl : laidB m = wrapB 110 [ticketE m.p1 m.p2 m.pKv m.pB, wrapB 4 m.pAu].flatten := by unfold laidB; rw [if_neg h1]; rw [if_neg h2]; rw [if_neg h3]; rw [if_pos h4]
    rw [hl, takenR_wrap _ _ (by simp only [List.flatten_cons, List.flatten_nil, List.length_append, List.length_nil]; omega)]
    show (rkAp (some [ticketE m.p1 m.p2 m.pKv m.pB, wrapB 4 m.pAu].flatten)).d = _
    simp only [List.flatten_cons, List.flatten_nil]
    unfold rkAp
    have w0 := tickR_wrap m.p1 m.p2 m.pKv m.pB (wrapB 4 m.pAu ++ []) (by omega) (by omega) (by omega) (by omega) (by omega)
    have w1 := octC_wrap m.pAu [] (by omega)
    simp only [w0, w1]
    have z1 := noAs_z (o1 (by omega))
    have z2 := noTgs_z (o2 (by omega))
    have z3 := noRep_z (o3 (by omega))
    have z5 := noFail_z (o5 (by omega))
    clear o1 o2 o3 o4 o5 hl hm h w0
    obtain ⟨kind, a1, a2, a3, a4, aTill, aNonce, t1, t2, tKv, tB, tBo, tAu, tAuo, t3, t4, tTill, tNonce, r1, r2, r3, r4, rKv, rB, rBo, rBl, rBlo, p1, p2, pKv, pB, pBo, pAu, pAuo, fErr, fNonce⟩ := m
    obtain ⟨y1_0, y1_1, y1_2, y1_3, y1_4, y1_5⟩ := z1
    obtain ⟨y2_0, y2_1, y2_2, y2_3, y2_4, y2_5, y2_6, y2_7, y2_8⟩ := z2
    obtain ⟨y3_0, y3_1, y3_2, y3_3, y3_4, y3_5, y3_6⟩ := z3
    obtain ⟨y5_0, y5_1⟩ := z5
    simp only at *
    subst h4 y1_0 y1_1 y1_2 y1_3 y1_4 y1_5 y2_0 y2_1 y2_2 y2_3 y2_4 y2_5 y2_6 y2_7 y2_8 y3_0 y3_1 y3_2 y3_3 y3_4 y3_5 y3_6 y5_0 y5_1
    rfl
  by_cases h5 : m.kind = 5
  · skip
    rw [if_neg h1] at hm
    rw [if_neg h2] at hm
    rw [if_neg h3] at hm
    rw [if_neg h4] at hm
    rw [if_pos h5] at hm
    simp only [Bool.and_eq_true] at hm
    have g1 := inZ_le hm.1
    have g2 := inZ_le hm.2
    have e0 := intE_len m.fErr
    have e1 := intE_len m.fNonce
    have hl : laidB m = wrapB 126 [intE m.fErr, intE m.fNonce].flatten := by unfold laidB; rw [if_neg h1, if_neg h2, if_neg h3, if_neg h4]
    rw [hl, takenR_wrap _ _ (by simp only [List.flatten_cons, List.flatten_nil, List.length_append, List.length_nil]; omega)]
    show (rkFail (some [intE m.fErr, intE m.fNonce].flatten)).d = _
    simp only [List.flatten_cons, List.flatten_nil]
    unfold rkFail
    have w0 := rintC_wrap m.fErr (by omega) (by omega) (intE m.fNonce ++ [])
    have w1 := rintC_wrap m.fNonce (by omega) (by omega) []
    simp only [w0, w1]
    have z1 := noAs_z (o1 (by omega))
    have z2 := noTgs_z (o2 (by omega))
    have z3 := noRep_z (o3 (by omega))
    have z4 := noAp_z (o4 (by omega))
    clear o1 o2 o3 o4 o5 hl hm h w0
    obtain ⟨kind, a1, a2, a3, a4, aTill, aNonce, t1, t2, tKv, tB, tBo, tAu, tAuo, t3, t4, tTill, tNonce, r1, r2, r3, r4, rKv, rB, rBo, rBl, rBlo, p1, p2, pKv, pB, pBo, pAu, pAuo, fErr, fNonce⟩ := m
    obtain ⟨y1_0, y1_1, y1_2, y1_3, y1_4, y1_5⟩ := z1
    obtain ⟨y2_0, y2_1, y2_2, y2_3, y2_4, y2_5, y2_6, y2_7, y2_8⟩ := z2
    obtain ⟨y3_0, y3_1, y3_2, y3_3, y3_4, y3_5, y3_6⟩ := z3
    obtain ⟨y4_0, y4_1, y4_2, y4_3, y4_4⟩ := z4
    simp only at *
    subst h5 y1_0 y1_1 y1_2 y1_3 y1_4 y1_5 y2_0 y2_1 y2_2 y2_3 y2_4 y2_5 y2_6 y2_7 y2_8 y3_0 y3_1 y3_2 y3_3 y3_4 y3_5 y3_6 y4_0 y4_1 y4_2 y4_3 y4_4
    rfl
  rw [if_neg h1, if_neg h2, if_neg h3, if_neg h4, if_neg h5] at hm
  cases hm
theorem okM_iff {m : Msg} {b : List UInt8} : okM m b = true ↔ isB m = true ∧ (laidB m).length ≤ 2000 ∧ laidB m = b := by
  unfold okM
  rw [Bool.and_eq_true, Bool.and_eq_true, decide_eq_true_eq, decide_eq_true_eq]
theorem okM_d {m m' : Msg} {b : List UInt8} (h : m.d = m'.d) : okM m b = okM m' b := by
  unfold okM
  rw [d_is h, d_laid h]
/-- Both answer the same. -/
theorem refDec_eq (b : List UInt8) : refDecV b = decV b := by
  unfold refDecV decV
  cases h1 : okM (takenR b) b
  · cases h2 : okM (takenB b) b
    · rw [agM_no h1, agM_no h2]
    · exfalso
      obtain ⟨k1, k2, k3⟩ := okM_iff.1 h2
      have e := takenR_laid _ k1
      rw [k3] at e
      rw [okM_d e, h2] at h1
      cases h1
  · obtain ⟨k1, k2, k3⟩ := okM_iff.1 h1
    have e := taken_laid _ k1
    rw [k3] at e
    have h2 : okM (takenB b) b = true := by rw [okM_d e, h1]
    rw [agM_yes h1, agM_yes h2, e]
/-- What may be is read as it was. -/
theorem dec_yes {m : Msg} {b : List UInt8} (h : okM m b = true) : decV b = .tup [.agg m.d.cells, .int .i64 0] := by
  obtain ⟨k1, k2, k3⟩ := okM_iff.1 h
  have e := taken_laid _ k1
  rw [k3] at e
  unfold decV
  rw [agM_yes (by rw [okM_d e, h]), e]
end Go.Proofs.Tryz

set_option maxRecDepth 100000
set_option maxHeartbeats 4000000
set_option linter.unusedVariables false
set_option linter.unusedSimpArgs false
namespace Go.Proofs.Tryz
open Go Ps
def ttO : TT := [(3, ⟨.int .i64, 1, 8, [.int .i64 0]⟩), (5, ⟨.int .u8, 1, 1, [.int .u8 0]⟩), (9, ⟨.str, 1, 16, [.str []]⟩), (22, ⟨.slice 5, 1, 24, [.slice 0 [] (some 5)]⟩), (24, ⟨.strct [(9, 0), (9, 1)], 2, 32, [.str [], .str []]⟩), (26, ⟨.strct [(24, 0), (24, 2), (3, 4), (3, 5)], 6, 80, [.str [], .str [], .str [], .str [], .int .i64 0, .int .i64 0]⟩), (28, ⟨.strct [(24, 0), (3, 2), (22, 3)], 4, 64, [.str [], .str [], .int .i64 0, .slice 0 [] (some 5)]⟩), (30, ⟨.strct [(28, 0), (22, 4), (24, 5), (3, 7), (3, 8)], 9, 136, [.str [], .str [], .int .i64 0, .slice 0 [] (some 5), .slice 0 [] (some 5), .str [], .str [], .int .i64 0, .int .i64 0]⟩), (32, ⟨.strct [(24, 0), (28, 2), (22, 6)], 7, 120, [.str [], .str [], .str [], .str [], .int .i64 0, .slice 0 [] (some 5), .slice 0 [] (some 5)]⟩), (34, ⟨.strct [(28, 0), (22, 4)], 5, 88, [.str [], .str [], .int .i64 0, .slice 0 [] (some 5), .slice 0 [] (some 5)]⟩), (35, ⟨.int .i64, 1, 8, [.int .i64 0]⟩), (37, ⟨.strct [(35, 0), (3, 1)], 2, 16, [.int .i64 0, .int .i64 0]⟩), (39, ⟨.strct [(3, 0), (26, 1), (30, 7), (32, 16), (34, 23), (37, 28)], 30, 448, [.int .i64 0, .str [], .str [], .str [], .str [], .int .i64 0, .int .i64 0, .str [], .str [], .int .i64 0, .slice 0 [] (some 5), .slice 0 [] (some 5), .str [], .str [], .int .i64 0, .int .i64 0, .str [], .str [], .str [], .str [], .int .i64 0, .slice 0 [] (some 5), .slice 0 [] (some 5), .str [], .str [], .int .i64 0, .slice 0 [] (some 5), .slice 0 [] (some 5), .int .i64 0, .int .i64 0]⟩)]
theorem ttO_ok : ttOk prog ttO = true := by kernel_rfl
def imm3 : List Nat := []
theorem and_lo (x : Int) : ∃ k : Nat, k ≤ 65535 ∧ ibits .and .i64 x 65535 = (k : Int) := by
  refine ⟨(BitVec.ofInt 64 x &&& BitVec.ofInt 64 65535).toNat, ?_, ?_⟩
  · rw [BitVec.toNat_and]
    refine Nat.le_trans Nat.and_le_right ?_
    decide
  · have h : (BitVec.ofInt 64 x &&& BitVec.ofInt 64 65535).toNat ≤ 65535 := by
      rw [BitVec.toNat_and]
      refine Nat.le_trans Nat.and_le_right ?_
      decide
    show IntKind.i64.wrap ((BitVec.ofInt 64 x &&& BitVec.ofInt 64 65535).toNat : Int) = _
    rw [wrap64 (by omega) (by omega)]
theorem dec_no {b : List UInt8} (h : okM (takenB b) b = false) : decV b = .tup [.agg mZ.d.cells, .int .i64 2] := agM_no h
theorem no_cut {m : Msg} {b : List UInt8} (h : okM m b = true) {k : Nat} (hk : k < b.length) : okM (takenB (b.take k)) (b.take k) = false := by
  obtain ⟨k1, k2, k3⟩ := okM_iff.1 h
  cases hc : okM (takenB (b.take k)) (b.take k)
  · rfl
  · obtain ⟨j1, j2, j3⟩ := okM_iff.1 hc
    have hf := laid_free (m := m) (m' := takenB (b.take k)) (r := []) (r' := b.drop k) (by omega) (by omega) (by rw [k3, j3, List.append_nil, List.take_append_drop])
    rw [k3, j3] at hf
    have := congrArg List.length hf.1
    rw [List.length_take] at this
    omega
theorem no_more {m : Msg} {b r : List UInt8} (h : okM m b = true) (hr : r ≠ []) : okM (takenB (b ++ r)) (b ++ r) = false := by
  obtain ⟨k1, k2, k3⟩ := okM_iff.1 h
  cases hc : okM (takenB (b ++ r)) (b ++ r)
  · rfl
  · obtain ⟨j1, j2, j3⟩ := okM_iff.1 hc
    have hf := laid_free (m := m) (m' := takenB (b ++ r)) (r := r) (r' := []) (by omega) (by omega) (by rw [k3, j3, List.append_nil])
    exact absurd hf.2 hr
theorem c3 (b : List UInt8) (cut : Int) (r : List UInt8) : CallOk prog 3 [slo b none, .int .i64 cut, slo r none] [] fun x _ => x = .bool true := by
  (refine callOk_of_pFun2 (tt := ttO) (imm := imm3) follows ttO_ok depth6 func3 (by kernel_rfl) ?_; (conv => whnf))
  refine ⟨fun h => ?_, fun h => ?_⟩
  · (conv => whnf)
    rfl
  have h : ¬ (b.length : Int) < 1 := h
  (conv => whnf)
  refine ⟨fun h2 => ?_, fun h2 => ?_⟩
  · (conv => whnf)
    rfl
  have h2 : ¬ (b.length : Int) > 2500 := h2
  (conv => whnf)
  refine ⟨fun h3 => ?_, fun h3 => ?_⟩
  · (conv => whnf)
    rfl
  have h3 : ¬ (r.length : Int) < 1 := h3
  (conv => whnf)
  refine ⟨fun h4 => ?_, fun h4 => ?_⟩
  · (conv => whnf)
    rfl
  have h4 : ¬ (r.length : Int) > 50 := h4
  have hr : r ≠ [] := fun e => by subst e; exact h3 (by decide)
  (conv => whnf)
  cases hok : okM (takenB b) b
  · refine callK_pure ((c11 b (by omega)).of_eq (dec_no hok)) ?_
    (conv => whnf)
    refine ⟨fun h => absurd h (by decide), fun _ => ?_⟩
    (conv => whnf)
    refine callK_pure ((c12 b (by omega)).of_eq ((refDec_eq b).trans (dec_no hok))) ?_
    (conv => whnf)
    refine ⟨fun _ => ?_, fun h => absurd rfl h⟩
    (conv => whnf)
    refine ⟨fun _ => ?_, fun h => absurd rfl h⟩
    (conv => whnf)
    refine ⟨fun _ => ?_, fun h => absurd rfl h⟩
    (conv => whnf)
    refine callK_pure c13 ?_
    (conv => whnf)
    rfl
  · obtain ⟨k1, k2, k3⟩ := okM_iff.1 hok
    refine callK_pure ((c11 b (by omega)).of_eq (dec_yes hok)) ?_
    (conv => whnf)
    refine ⟨fun _ => ?_, fun h => absurd rfl h⟩
    (conv => whnf)
    refine callK_pure ((c14 (takenB b).d (taken_fits b)).of_eq ((show encV (takenB b).d = encV (takenB b) from rfl).trans (encV_yes ⟨k1, k2⟩))) ?_
    rw [k3]
    obtain ⟨k, hk1, hk2⟩ := and_lo cut
    have hm : ((k : Int).tmod (b.length : Int)) = ((k % b.length : Nat) : Int) := (Int.ofNat_tmod k b.length).symm
    have hlt := Nat.mod_lt k (show 0 < b.length by omega)
    (conv => whnf)
    rw [hk2]
    refine ⟨by omega, ?_⟩
    (conv => whnf)
    rw [hm]
    refine ⟨⟨by decide, by show (0 : Int) ≤ ((k % b.length : Nat) : Int); omega, by show ((k % b.length : Nat) : Int) ≤ (b.length : Int); omega⟩, ?_⟩
    (conv => whnf)
    have e1 := sl_cut b 0 ((k % b.length : Nat) : Int) ⟨by decide, by omega, by omega⟩
    have f1 : (b.take (((k % b.length : Nat) : Int)).toNat).drop (0 : Int).toNat = b.take (k % b.length) := by rw [Int.toNat_natCast]; rfl
    rw [f1] at e1
    refine callK_args (args' := [sl (b.take (k % b.length))]) (congrArg (fun x => [x]) e1) (callK_pure ((c11 _ (by rw [List.length_take]; omega)).of_eq (dec_no (no_cut hok hlt))) ?_)
    (conv => whnf)
    refine ⟨⟨by show (0 + b.length) * 1 ≤ _; omega, by simp, allOne b⟩, ?_⟩
    (conv => whnf)
    refine ⟨⟨by show (0 + b.length + r.length) * 1 ≤ _; omega, by simp, allOne r⟩, ?_⟩
    (conv => whnf)
    have e2 : PV.slice (0 + b.length + r.length) ([] ++ b.map byteC ++ r.map byteC) none = sl (b ++ r) := by
      unfold sl
      rw [List.length_append, List.map_append, List.nil_append, Nat.zero_add]
    refine callK_args (args' := [sl (b ++ r)]) (congrArg (fun x => [x]) e2) (callK_pure ((c11 _ (by rw [List.length_append]; omega)).of_eq (dec_no (no_more hok hr))) ?_)
    (conv => whnf)
    refine ⟨fun _ => ?_, fun h => absurd rfl h⟩
    (conv => whnf)
    refine ⟨b, ⟨rfl, rfl⟩, ?_⟩
    (conv => whnf)
    refine ⟨b, ⟨rfl, rfl⟩, ?_⟩
    (conv => whnf)
    refine ⟨fun _ => ?_, fun h => absurd rfl h⟩
    (conv => whnf)
    refine ⟨fun _ => ?_, fun h => absurd rfl h⟩
    (conv => whnf)
    refine ⟨fun _ => ?_, fun h => absurd rfl h⟩
    (conv => whnf)
    refine callK_pure c13 ?_
    (conv => whnf)
    rfl
end Go.Proofs.Tryz
