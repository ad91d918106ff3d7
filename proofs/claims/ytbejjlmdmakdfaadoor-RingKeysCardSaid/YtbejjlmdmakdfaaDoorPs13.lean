/- PSem, part 13: conversions; append. -/
import Derived.Test.YtbejjlmdmakdfaaDoorPs12
set_option linter.all false
set_option linter.unusedVariables false
set_option linter.unusedSimpArgs false
set_option linter.unnecessarySimpa false
set_option linter.unusedSimpArgs false
set_option linter.unusedVariables false
namespace Ps
open Go
section
variable {P : Program} {tt : TT} {imm : List Nat} {g0 : Gh} {w0 : World} {H0 : PH} {F0 : Nat → Prop} {N : Nat} {g : Gh} {w : World} {a : Act} {E : Env} {H : PH} {q : Q}

theorem V.inv_byte {v : Value} {b : UInt8} (h : V g w v (byteC b)) : v = .int .u8 (b.toNat : Int) := by
  cases h; rfl

theorem VH.vc' {v : Value} {b : UInt8} (h : VH P g w v (byteC b)) : VC P g w v (byteC b) := h

theorem op_convert {T U : Nat} {x : Operand} {o : Oper} {K : KK} (hT : ttOk P tt = true) (ho : o.op = .convert T U x) (inv : Inv P g0 w0 H0 F0 N g w a E H) (hq : QRel a g w q) (hp : pOp P tt imm E q H o K) :
    OpS P g0 w0 H0 F0 N a w o K := by
  simp only [pOp, ho, pConv] at hp
  have hx := opnd_VC inv.rel x
  split at hp
  · rename_i i hi
    have ti := tis hT hi
    split at hp
    · rename_i k hk
      split at hp
      · rename_i k' n hn
        split at hp
        · rename_i l hl
          split at hp
          · rename_i k2 hk2
            rw [hn] at hx
            exact OpS.val inv hq (v := .int k (k.wrap n)) (by simp [execOp, ho, hx.int, convert, run_underlying ((tis hT hl).int hk2), run_underlying (ti.int hk), Conv.intToInt]) (.int _ _) hp
          · exact hp.elim
        · exact hp.elim
      · exact hp.elim
    · rename_i e hk
      split at hp
      · rename_i j hj
        split at hp
        · rename_i hjk
          split at hp
          · rename_i l hl
            split at hp
            · rename_i hlk
              split at hp
              · rename_i s hs
                obtain ⟨hlen, hp⟩ := hp
                rw [hs] at hx
                have hx := hx.str
                have hrun := run_bytes_of_string (P := P) w T U e ⟨s.toArray⟩ ((tis hT hl).str hlk) (ti.slice hk) ((tis hT hj).int hjk)
                have hsz : (⟨s.toArray⟩ : ByteArray).size = s.length := by simp [ByteArray.size]
                rw [hsz] at hrun
                intro next Q' hnx
                refine wp_value ?_ (hnx _ _ _ _ _ _ _ _ (post_imm (w1 := w.drew.alloc (.cells (bytesRow ⟨s.toArray⟩ (grownCap w s.length 0 e)) e ((bytesRow ⟨s.toArray⟩ (grownCap w s.length 0 e)).size, (bytesRow ⟨s.toArray⟩ (grownCap w s.length 0 e)).size + 1)))
                  inv hq ⟨rfl, rfl, rfl, rfl⟩ (cs := s.map byteC) ?_ ?_ (p := .slice s.length (s.map byteC) none) (v := .slice (some ⟨w.heap.size, 0, none⟩) s.length (grownCap w s.length 0 e)) (fun h => h.vslice (grownCap_ge _ _ _ _))) hp)
                · simp only [execOp, ho, hx]
                  rw [Sem.run_bind]
                  unfold strV
                  rw [hrun]
                  rfl
                · simp [bytesRow]
                · intro j c hj
                  simp only [List.getElem?_map, Option.map_eq_some_iff] at hj
                  obtain ⟨b, hb, rfl⟩ := hj
                  refine ⟨.int .u8 (b.toNat : Int), ?_, .int _ _⟩
                  have hlt := (List.getElem?_eq_some_iff.1 hb).1
                  simp [bytesRow, Array.getElem?_append, hlt]
                  rw [List.getElem?_eq_getElem hlt] at hb
                  cases hb; rfl
              · exact hp.elim
            · exact hp.elim
          · exact hp.elim
        · exact hp.elim
      · exact hp.elim
    · rename_i hk
      split at hp
      · rename_i l hl
        split at hp
        · rename_i hlk
          split at hp
          · rename_i s hs
            rw [hs] at hx
            exact OpS.val inv hq (v := strV s) (by simp [execOp, ho, hx.str, strV, convert, run_underlying ((tis hT hl).str hlk), run_underlying (ti.str hk)]) (.str _) hp
          · exact hp.elim
        · rename_i e hlk
          split at hp
          · rename_i j hj
            split at hp
            · rename_i hjk
              split at hp
              · rename_i n cs ow hs
                obtain ⟨s, ⟨hc, hn⟩, hp⟩ := hp
                rw [hs] at hx
                have hx := hx.slice
                subst hc hn
                rcases hx.inv_slice with ⟨e1, e2, e3⟩ | ⟨b, off, cap, e1, e2, u, hI, hV⟩
                · have : s = [] := List.length_eq_zero_iff.1 e2
                  subst this
                  refine OpS.val inv hq (v := strV []) ?_ (.str _) hp
                  simp only [execOp, ho, e1]
                  rw [Sem.run_bind, run_convert_bytes_nil w T e ((tis hT hl).slice hlk) ((tis hT hj).int hjk) 0 0 U (ti.str hk)]
                  rfl
                · refine OpS.val inv hq (v := strV s) ?_ (.str _) hp
                  simp only [execOp, ho, e1]
                  rw [Sem.run_bind, run_convert_bytes_back w T U e ⟨b, off, none⟩ cap s ((tis hT hl).slice hlk) ((tis hT hj).int hjk) (ti.str hk) (fun j hj => by
                    have hg : (s.map byteC)[j]? = some (byteC s[j]) := by simp [hj]
                    rw [Addr.add_plain, (hI j _ hg).2, (hV j _ hg).inv_byte])]
                  rfl
              · rename_i id off n cap hs
                rw [hs] at hx
                obtain ⟨b, e1, hib, hle⟩ := (plain_of hx (by simp) (by simp)).inv_sref
                split at hp
                · rename_i ob hob
                  obtain ⟨s, ⟨hc, hn⟩, hp⟩ := hp
                  subst hn
                  obtain ⟨vs, k1, k2, k3⟩ := inv.rel.h.obj id b ob hob hib
                  refine OpS.val inv hq (v := strV s) ?_ (.str _) hp
                  simp only [execOp, ho, e1]
                  rw [Sem.run_bind, run_convert_bytes_back w T U e ⟨b, off, none⟩ cap s ((tis hT hl).slice hlk) ((tis hT hj).int hjk) (ti.str hk) (fun j hj => by
                    have hg : (s.map byteC)[j]? = some (byteC s[j]) := by simp [hj]
                    rw [← hc, List.getElem?_take, if_pos hj, List.getElem?_drop] at hg
                    obtain ⟨v, y1, y2⟩ := k3 _ _ hg
                    have y2 : VC P g w v (byteC s[j]) := y2.vc'
                    rw [Addr.add_plain, cell?_cells k1, y1, y2.int])]
                  rfl
                · exact hp.elim
              · exact hp.elim
            · exact hp.elim
          · exact hp.elim
        · exact hp.elim
      · exact hp.elim
    · exact hp.elim
  · exact hp.elim
end
end Ps
