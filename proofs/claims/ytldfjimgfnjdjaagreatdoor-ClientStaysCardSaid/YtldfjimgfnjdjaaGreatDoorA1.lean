import Derived.Test.YtldfjimgfnjdjaaGreatDoorA0
import Derived.Lib.AppendZeros
import Derived.MapKept
import Derived.WideKeyRuns
import Derived.Deep.LoopGhost
import Derived.Lib.Bytealg
set_option linter.all false
/- PSem, part 14: append. -/
namespace Ps
open Go
section
variable {P : Program} {tt : TT} {imm : List Nat} {g0 : Gh} {w0 : World} {H0 : PH} {F0 : Nat → Prop} {N : Nat} {g : Gh} {w : World} {a : Act} {E : Env} {H : PH} {q : Q}
structure Given (P:Program) (g0:Gh) (w0:World) (H0:PH) (F0:Nat→Prop) (N:Nat) (g:Gh) (w:World) (a:Act) (E:Env) (H:PH) (v:Value) (n:Nat) (cs:List PV) (e:Nat):Prop where
 inv:Inv P g0 w0 H0 F0 N g w a E H
 vh:VH P g w v (.slice n cs (some e))
 free:∀b,blk v=some b→(∀t i,¬ownAt (vals a t) (E.get t) i b)∧¬cellOwn g w H b∧(w0.heap.size≤b∨F0 b)
theorem given_slot (inv:Inv P g0 w0 H0 F0 N g w a E H) {s n:Nat} {cs:List PV} {e:Nat} (h:E.get s=.slice n cs (some e)) :
  Given P g0 w0 H0 F0 N g w a ((s,.slice n cs none)::E) H (vals a s) n cs e:=by
 have hv:=inv.rel.e s
 rw [h] at hv
 refine ⟨inv.demote h,hv,fun b hb=>?_⟩
 have hat:ownAt (vals a s) (E.get s) 0 b:=by rw [h];exact ⟨rfl,rfl,hb⟩
 refine ⟨fun t i ht=>?_,inv.rel.sc _ _ _ hat,inv.own _ _ _ hat⟩
 rw [Env.get_cons] at ht
 by_cases e':s=t
 ·subst e';rw [zqp rfl] at ht;cases ht.2.1
 ·rw [zqo e'] at ht;exact e' (inv.rel.ss t i s 0 b ht hat).1.symm
theorem given_cell (inv:Inv P g0 w0 H0 F0 N g w a E H) {id off b n:Nat} {cs:List PV} {e:Nat} {o:PObj} {v:Value} (hid:H[id]? = some o) (hc:o.cs[off]? = some (.slice n cs (some e)))
  (hi:g.ι[id]? = some (some b)) (hcell:w.cell? ⟨b,off,none⟩=some v) :
  Given P g0 w0 H0 F0 N g w a E (setO id o (setCells off [.slice n cs none] o.cs) H) v n cs e:=by
 have hkd:=cell_kind hcell
 obtain ⟨vs,k1,k2,k3⟩:=inv.rel.h.obj id b o hid hi hkd
 obtain ⟨v',k4,k5⟩:=k3 off _ hc
 rw [cell?_cells k1] at hcell
 rw [hcell] at k4;cases k4
 have hl:off+[PV.slice n cs none].length≤o.cs.length:=(zq1.1 hc).1
 have hget:=setCells_get off [.slice n cs none] o.cs hl
 have hset:∀(j:Nat) (c:PV),(setCells off [.slice n cs none] o.cs)[j]? = some c→(j=off∧c=.slice n cs none)∨(j≠off∧o.cs[j]? = some c):=fun j c hj=>by
  rw [hget] at hj
  split at hj
  ·rename_i hh
   have:j=off:=by have:=hh.2;simp at this;omega
   subst this
   simp at hj
   exact .inl ⟨rfl,hj.symm⟩
  ·rename_i hh
   exact .inr ⟨fun e'=>hh ⟨by omega,by simp [e']⟩,hj⟩
 have hH:(setO id o (setCells off [.slice n cs none] o.cs) H)[id]? = some ⟨o.T,setCells off [.slice n cs none] o.cs,o.ver⟩:=by
  have:=(zq1.1 hid).1
  simp [setO,this]
 have hinv:Inv P g0 w0 H0 F0 N g w a E (setO id o (setCells off [.slice n cs none] o.cs) H):=by
  refine inv.storeV hid hi hkd (Writes.refl k1) (by rw [setCells_length _ _ _ hl];exact k2) (zqn _) (fun _=>rfl) (fun j c hj=>?_) off (fun j c v' bb hj ho hv hb=>?_)
  ·rcases hset j c hj with ⟨rfl,rfl⟩ | ⟨_,h⟩
   ·exact ⟨v,hcell,.inl k5.dem⟩
   ·exact k3 j c h
  ·rcases hset j c hj with ⟨rfl,rfl⟩ | ⟨_,h⟩
   ·cases ho
   ·exact .inl ⟨o,c,b,v',hid,h,ho,hi,by rw [cell?_cells k1];exact hv,hb⟩
 refine ⟨hinv,k5,fun bb hb=>?_⟩
 have hat:cellOwnAt g w H id off bb:=⟨o,_,b,v,hid,hc,rfl,hi,by rw [cell?_cells k1];exact hcell,hb⟩
 refine ⟨fun t i ht=>inv.rel.sc t i bb ht ⟨id,off,hat⟩,?_,inv.cown bb ⟨id,off,hat⟩⟩
 rintro ⟨id',j',o',c',b',v',h1,h2,h3,h4,h5,h6⟩
 by_cases hid':id'=id
 ·subst hid'
  rw [hH] at h1;cases h1
  rcases hset j' c' h2 with ⟨rfl,rfl⟩ | ⟨hne,h⟩
  ·cases h3
  ·exact hne (inv.rel.cc id' j' id' off bb ⟨o,c',b',v',hid,h,h3,h4,h5,h6⟩ hat).2
 ·rw [setO,zqj (Ne.symm hid')] at h1
  exact hid' (inv.rel.cc id' j' id off bb ⟨o',c',b',v',h1,h2,h3,h4,h5,h6⟩ hat).1
theorem own_of (inv:Inv P g0 w0 H0 F0 N g w a E H) (hq:QRel a g w q) {x:Operand} {T:Nat} {K:Nat→List PV→Nat→Env→PH→Prop} (hp:ownOf E q H x T tt K) :
  ∃n cs e E' H',Given P g0 w0 H0 F0 N g w a E' H' (a.eval x) n cs e∧K n cs e E' H':=by
 unfold ownOf at hp
 split at hp
 ·rename_i t
  split at hp
  ·rename_i n cs e h
   exact ⟨n,cs,e,_,_,given_slot inv h,hp⟩
  ·rename_i n cs h
   split at hp
   ·rename_i s hs
    split at hp
    ·rename_i n' cs' e h'
     have he:vals a t=vals a s:=hq _ (qget_mem hs)
     have:=given_slot inv h'
     rw [←he] at this
     exact ⟨_,_,_,_,_,this,hp⟩
    ·exact hp.elim
   ·rename_i id off hs
    obtain ⟨b,h1,h2⟩:SrcIs a g w (vals a t) (.cell id off):=hq _ (qget_mem hs)
    split at hp
    ·rename_i o ho
     split at hp
     ·rename_i n' cs' e tl hd
      rw [dropN_eq] at hd
      have hc:o.cs[off]? = some (.slice n' cs' (some e)):=by
       have:(o.cs.drop off)[0]? = some (.slice n' cs' (some e)):=by rw [hd];rfl
       simpa using this
      exact ⟨_,_,_,_,_,given_cell inv ho hc h1 h2,hp⟩
     ·exact hp.elim
    ·exact hp.elim
   ·exact hp.elim
  ·rename_i h
   split at hp
   ·split at hp
    ·rename_i e hk
     have hv:vals a t=.slice none 0 0:=by
      have:=inv.rel.e t
      rw [h] at this
      exact (plain_of this (by simp) (by simp)).inv_nilS
     refine ⟨_,_,e,_,_,⟨inv,.inl (by show V g w (vals a t) _;rw [hv];exact .snil _),fun b hb=>by
      have hb:blk (vals a t)=some b:=hb
      rw [hv] at hb;cases hb⟩,hp⟩
    ·exact hp.elim
   ·exact hp.elim
  ·exact hp.elim
 ·split at hp
  ·split at hp
   ·rename_i e hk
    exact ⟨_,_,e,_,_,⟨inv,.inl (.snil _),fun b hb=>by cases hb⟩,hp⟩
   ·exact hp.elim
  ·exact hp.elim
 ·exact hp.elim
theorem run_append_none (t ty e n cap:Nat) (b:Option Addr) (i:TypeInfo) (ht:P.underlying t=some (.slice e)) (hi:P.info? e=some i) (hn:n≤cap) :
  (Builtin.append_ #[t,t] ty #[.slice b n cap,.slice none 0 0]).run P w=.ok (.slice b n cap) w:=by
 cases b <;> simp [Builtin.append_,run_underlying ht,Go.sizeOf,typeInfo,hi,Builtin.lenOf,Builtin.firstCells,hn,storeCells]
theorem run_append_empty (t ty e cap:Nat) (b:Addr) (i:TypeInfo) (ht:P.underlying t=some (.slice e)) (hi:P.info? e=some i) :
  (Builtin.append_ #[t,t] ty #[.slice none 0 0,.slice (some b) 0 cap]).run P w=.ok (.slice none 0 0) w:=by
 have hf:=run_firstCells_some (P:=P) w i.size 0 b 0 cap [] (by simp) (by simp)
 simp [Builtin.append_,run_underlying ht,Go.sizeOf,typeInfo,hi,Builtin.lenOf,hf]
theorem Imm.list {b off:Nat} {cs:List PV} (h:Imm g w b off cs):∃us:List Value,us.length=cs.length∧(∀(j:Nat) (v:Value),us[j]? = some v→w.cell? ((⟨b,off,none⟩:Addr).add j)=some v) ∧
  ∀(j:Nat) (c:PV),cs[j]? = some c→∃v,us[j]? = some v∧V g w v c:=by
 obtain ⟨u,h1,h2⟩:=h
 refine ⟨(List.range cs.length).map u,by simp,fun j v hj=>?_,fun j c hj=>?_⟩
 ·have hl:j<cs.length:=by simpa using (zq1.1 hj).1
  have:=(h1 j _ (zqc hl)).2
  rw [Addr.add_plain,this]
  simp [List.getElem?_map,List.getElem?_range,hl] at hj
  rw [hj]
 ·have hl:j<cs.length:=(zq1.1 hj).1
  exact ⟨u j,by simp [hl],h2 j c hj⟩
theorem given_append {E':Env} {H':PH} {v y:Value} {n m:Nat} {cs ds:List PV} {e T ty:Nat} {ei:TI} (gv:Given P g0 w0 H0 F0 N g w a E' H' v n cs e) (hy:V g w y (.slice m ds none))
  (hu:P.underlying T=some (.slice e)) (te:TIs P e ei) (hb:(n+m)*ei.bytes≤140737488355328) (hl:ds.length=m*ei.sz) (hone:ds.all oneP=true) :
  ∃r g1 w1,(Builtin.append_ #[T,T] ty #[v,y]).run P w=.ok r w1∧Post P g0 w0 H0 F0 N a g1 w1 E' [] H' r (.slice (n+m) (cs++ds) (some e)) none:=by
 obtain ⟨inf,z,i1,i2,i3,i4,i5⟩:=te.ex
 have hzs:z.cells.size=ei.sz:=by rw [(zeqs_VL (g:=g) (w:=w) i5).1,te.len]
 have hb0:=te.bpos
 have hnm:(n+m)*1≤(n+m)*ei.bytes:=Nat.mul_le_mul_left _ hb0
 rcases gv.vh with h | ⟨n',cs',e',b,heq,hV,hf⟩
 ·obtain ⟨rfl,rfl,rfl⟩:=h.own_nil
  rcases hy.inv_slice with ⟨rfl,rfl,rfl⟩ | ⟨b2,off2,cap2,rfl,hle2,himm⟩
  ·exact ⟨_,g,w,run_append_none T ty e 0 0 none inf hu i1 (zqn _),Post.ofV gv.inv (.snil _) QRel.nil⟩
  ·rcases Nat.eq_zero_or_pos m with rfl | hm
   ·have:ds=[]:=List.length_eq_zero_iff.1 (by rw [hl];simp)
    subst this
    exact ⟨_,g,w,run_append_empty T ty e _ _ inf hu i1,Post.ofV gv.inv (.snil _) QRel.nil⟩
   ·obtain ⟨us,u1,u2,u3⟩:=himm.list
    have hrun:=run_append_nil (P:=P) w T ty e inf z hu i1 i4 ⟨b2,off2,none⟩ m cap2 us (by rw [u1,hl,i2]) u2 hm (by omega) (by rw [i3];simp only [Nat.zero_add] at hb;omega)
    have hge:=grownCap_ge w m 0 e
    refine ⟨_,⟨g.ι,addI g.I w.heap.size ds.length⟩,_,hrun,?_⟩
    simp only [Nat.zero_add,List.nil_append]
    refine post_own (e:=e) gv.inv QRel.nil (w1:=w.drew.alloc (.cells (us.toArray++Builtin.zeroCells z.cells (grownCap w m 0 e - m)) e)) ⟨rfl,rfl,rfl,rfl⟩ (fun j c hj=>?_) hge (by rw [te.psize];exact te.pos) (by rw [te.psize];exact hl) ?_
    ·obtain ⟨v,k1,k2⟩:=u3 j c hj
     have hlt:j<us.length:=(zq1.1 k1).1
     exact ⟨v,by simp [Array.getElem?_append,hlt] ;rw [zqc hlt] at k1;exact Option.some.inj k1,k2⟩
    ·rw [te.psize]
     simp only [Array.size_append,List.size_toArray,size_zeroCells,hzs,u1,hl,←Nat.add_mul]
     congr 1;omega
 ·cases heq
  obtain ⟨cap,vs,rfl,hnc,hheap,hps,hcl,hvs⟩:=hf.ex
  rw [te.psize] at hcl hvs hps
  obtain ⟨hfs,hfc,hf0⟩:=gv.free b rfl
  have hvsle:n*ei.sz≤vs.size:=Nat.le_trans (Nat.mul_le_mul_right _ hnc) hvs
  rcases hV.inv_slice with ⟨h,_⟩ | ⟨b1,off1,cap1,heq,_,u0,hI0,hV0⟩
  ·cases h
  cases heq
  have hold:∀(j:Nat) (c:PV),cs[j]? = some c→∃v,vs[j]? = some v∧V g w v c:=fun j c hj=>by
   have:=(hI0 j c hj).2
   rw [cell?_cells hheap,Nat.zero_add] at this
   exact ⟨u0 j,this,hV0 j c hj⟩
  rcases hy.inv_slice with ⟨rfl,rfl,rfl⟩ | ⟨b2,off2,cap2,rfl,hle2,himm⟩
  ·refine ⟨_,g,w,run_append_none T ty e n cap _ inf hu i1 hnc,?_⟩
   simp only [Nat.add_zero,List.append_nil]
   exact ⟨gv.inv,gv.vh,fun i bb h=>by
    have hbb:some b=some bb:=h.2.2
    cases hbb;exact ⟨hfs,hfc,hf0⟩,fun i i' b h1 h2=>h1.1.trans h2.1.symm,QRel.nil,fun _ h=>by cases h⟩
  ·obtain ⟨us,u1,u2,u3⟩:=himm.list
   rcases Nat.lt_or_ge cap (n+m) with hg | hroom
   ·have hfit:=growslice_fits (bytes:=inf.bytes) hg (by rw [i3];exact hb)
    have hrun:=run_append_grow (P:=P) w T ty e inf z hu i1 i4 ⟨b,0,none⟩ n cap (vs.toList.take (n*ei.sz)) (by rw [zqr,Array.length_toList,i2];omega) (fun j v hj=>by
     rw [Addr.add_plain,cell?_cells hheap,Nat.zero_add]
     rw [zqs] at hj
     split at hj
     ·rw [←Array.getElem?_toList];exact hj
     ·cases hj) ⟨b2,off2,none⟩ m cap2 us (by rw [u1,hl,i2]) u2 hg (by omega) hfit
    have hge:=grownCap_ge w (n+m) cap e
    refine ⟨_,⟨g.ι,addI g.I w.heap.size (cs++ds).length⟩,_,hrun,?_⟩
    have hlt0:(vs.toList.take (n*ei.sz)).length=n*ei.sz:=by rw [zqr,Array.length_toList];omega
    refine post_own (e:=e) gv.inv QRel.nil (w1:=w.drew.alloc (.cells ((vs.toList.take (n*ei.sz)).toArray++us.toArray++Builtin.zeroCells z.cells (grownCap w (n+m) cap e - (n+m))) e)) ⟨rfl,rfl,rfl,rfl⟩ (fun j c hj=>?_) hge (by rw [te.psize];exact te.pos)
     (by rw [te.psize,zqf,hcl,hl,Nat.add_mul]) ?_
    ·have hval:∃v,(vs.toList.take (n*ei.sz)++us)[j]? = some v∧V g w v c:=by
      rcases Nat.lt_or_ge j (n*ei.sz) with hj1 | hj1
      ·rw [zq2 (by omega)] at hj
       obtain ⟨v,k1,k2⟩:=hold j c hj
       refine ⟨v,?_,k2⟩
       rw [zq2 (by omega),zqs,zqp hj1,Array.getElem?_toList];exact k1
      ·rw [zqi (by omega),hcl] at hj
       obtain ⟨v,k1,k2⟩:=u3 _ c hj
       refine ⟨v,?_,k2⟩
       rw [zqi (by omega),hlt0];exact k1
     obtain ⟨v,k1,k2⟩:=hval
     refine ⟨v,?_,k2⟩
     have hlt:=(zq1.1 k1).1
     rw [Array.getElem?_append_left (by simpa using hlt)]
     rw [List.append_toArray,List.getElem?_toArray]
     exact k1
    ·rw [te.psize]
     simp only [Array.size_append,List.size_toArray,size_zeroCells,hzs,u1,hl,hlt0,←Nat.add_mul]
     congr 1;omega
   ·have hnews:∀u∈us,u.oneCell'=true:=fun u hu'=>by
     obtain ⟨j,hj,rfl⟩:=List.mem_iff_getElem.1 hu'
     have hlt:j<ds.length:=by rw [←u1];exact hj
     obtain ⟨v,k1,k2⟩:=u3 j _ (zqc hlt)
     rw [zqc hj] at k1;cases k1
     exact k2.one (List.all_eq_true.1 hone _ (List.getElem_mem hlt))
    have hfit:n*inf.size+us.length≤vs.size:=by rw [u1,hl,i2,←Nat.add_mul];exact Nat.le_trans (Nat.mul_le_mul_right _ hroom) hvs
    have hrun:=run_append_room (P:=P) w T ty e inf hu i1 b n cap vs hheap ⟨b2,off2,none⟩ m cap2 us (by rw [u1,hl,i2]) u2 hnews hroom hfit
    rw [i2] at hrun hfit
    refine ⟨_,⟨g.ι,addI g.I b ((n+m)*ei.sz)⟩,_,hrun,?_⟩
    generalize hrow:(vs.toList.take (n*ei.sz)++us++vs.toList.drop (n*ei.sz+us.length)).toArray=row
    have hrs:row.size=vs.size:=by rw [←hrow];simp;omega
    have hkle:(n+m)*ei.sz≤row.size:=by rw [hrs];exact Nat.le_trans (Nat.mul_le_mul_right _ hroom) hvs
    have hlt0:(vs.toList.take (n*ei.sz)).length=n*ei.sz:=by rw [zqr,Array.length_toList];omega
    have hrow1:∀j,j<n*ei.sz→row[j]? = vs[j]?:=fun j hj=>by
     rw [←hrow,List.getElem?_toArray,List.append_assoc,zq2 (by omega),zqs,zqp hj,Array.getElem?_toList]
    have hrow2:∀j,j<us.length→row[n*ei.sz+j]? = us[j]?:=fun j hj=>by
     rw [←hrow,List.getElem?_toArray,zq2 (by simp [hlt0];omega),zqi (by omega),hlt0]
     congr 1;omega
    have hw:=writes_setRow (cs:=row) hheap
    have hIb:∀o,g.I b o→o<n*ei.sz:=fun o ho=>by
     rcases Nat.lt_or_ge o (n*ei.sz) with h | h
     ·exact h
     ·exact absurd ho (hf.spare o (by omega))
    have hsame:∀o,g.I b o→row[o]? = vs[o]?:=fun o ho=>hrow1 o (hIb o ho)
    have hinv:=gv.inv.extend hheap hw ((n+m)*ei.sz) hkle hf.obj (by omega) hsame hfs hfc hf0
    have hkeep:Keeps g w ⟨g.ι,addI g.I b ((n+m)*ei.sz)⟩ (w.setRow b row):=⟨fun _ _ h=>h,fun b' o h=>⟨.inl h,by
     by_cases hbb:b'=b
     ·subst hbb;rw [cell?_cells hw.here,cell?_cells hheap];exact hsame o h
     ·exact cell?_of_heap (hw.far b' hbb) o⟩,fun id b' h=>kindAt_of_heap (hw.far b' (fun e=>hf.obj id (e▸h)))⟩
    have hex:∀j:Nat,∃v:Value,∀c,(cs++ds)[j]? = some c→row[j]? = some v∧V g w v c:=fun j=>by
     cases hjc:(cs++ds)[j]? with
     | none=>exact ⟨undef,fun c h=>by cases h⟩
     | some c =>
      rcases Nat.lt_or_ge j (n*ei.sz) with hj1 | hj1
      ·rw [zq2 (by omega)] at hjc
       obtain ⟨v,k1,k2⟩:=hold j c hjc
       exact ⟨v,fun c' h=>by cases h;exact ⟨by rw [hrow1 j hj1];exact k1,k2⟩⟩
      ·rw [zqi (by omega),hcl] at hjc
       obtain ⟨v,k1,k2⟩:=u3 _ c hjc
       have hlt:=(zq1.1 k1).1
       have hr2:=hrow2 (j - n*ei.sz) hlt
       rw [show n*ei.sz+(j - n*ei.sz)=j by omega] at hr2
       exact ⟨v,fun c' h=>by cases h;exact ⟨by rw [hr2];exact k1,k2⟩⟩
    obtain ⟨u,hu'⟩:=Classical.axiomOfChoice hex
    have hclen:(cs++ds).length=(n+m)*ei.sz:=by rw [zqf,hcl,hl,Nat.add_mul]
    have himm':Imm ⟨g.ι,addI g.I b ((n+m)*ei.sz)⟩ (w.setRow b row) b 0 (cs++ds):=⟨u,fun j c hj=>⟨.inr ⟨rfl,by
      have:=(zq1.1 hj).1;omega⟩,by rw [cell?_cells hw.here,Nat.zero_add];exact (hu' j c hj).1⟩,fun j c hj=>(hu' j c hj).2.mono hkeep⟩
    have hownf:OwnF P ⟨g.ι,addI g.I b ((n+m)*ei.sz)⟩ (w.setRow b row) (.slice (some ⟨b,0,none⟩) (n+m) cap) (n+m) (cs++ds) e b :=
     ⟨⟨cap,row,rfl,hroom,hw.here,by rw [te.psize];exact te.pos,by rw [te.psize];exact hclen,by rw [te.psize,hrs];exact hvs⟩,hf.obj,fun o ho h=>by
      rcases h with h | ⟨_,h⟩
      ·have:=hIb o h
       rw [hclen,Nat.add_mul] at ho
       omega
      ·omega⟩
    refine ⟨hinv,.inr ⟨_,_,e,b,rfl,himm'.vslice hroom,hownf⟩,fun i bb h=>?_,fun i i' b h1 h2=>h1.1.trans h2.1.symm,QRel.nil,fun _ h=>by cases h⟩
    have hbb:some b=some bb:=h.2.2
    cases hbb
    refine ⟨hfs,fun ⟨id,j,o,c,b0,v,h1,h2,h3,h4,h5,h6⟩=>hfc ⟨id,j,o,c,b0,v,h1,h2,h3,h4,?_,h6⟩,hf0⟩
    rw [←h5]
    exact (cell?_of_heap (hw.far b0 (fun e'=>hf.obj id (e'▸h4))) j).symm
theorem zero_VL {z:Value} {cs:List PV} {sz:Nat} (h:zeqs z.cells.toList cs=true) (hl:cs.length=sz) (hs:0<sz) (n:Nat) :
  (Builtin.zeroCells z.cells n).size=n*sz∧(zerosOf cs n).length=n*sz∧∀(j:Nat) (c:PV),(zerosOf cs n)[j]? = some c→∃v,(Builtin.zeroCells z.cells n)[j]? = some v∧V g w v c:=by
 have hsz:z.cells.size=sz:=by rw [(zeqs_VL (g:=g) (w:=w) h).1,hl]
 have e:Builtin.zeroCells z.cells n=madeCells z.cells (n*sz):=by rw [←hsz];rfl
 rw [e]
 exact made_VL h hl hs n (fun _=>rfl) (zqn _)
structure Elems (g:Gh) (w:World) (v:Value) (m:Nat) (ds:List PV):Prop where
 mk ::
 h:(v=.slice none 0 0∧m=0∧ds=[])∨∃(b off cap:Nat) (us:List Value),v=.slice (some ⟨b,off,none⟩) m cap∧us.length=ds.length∧(∀(j:Nat) (u:Value),us[j]? = some u→w.cell? ((⟨b,off,none⟩:Addr).add j)=some u) ∧
  ∀(j:Nat) (c:PV),ds[j]? = some c→∃u,us[j]? = some u∧V g w u c
theorem elems_of (inv:Inv P g0 w0 H0 F0 N g w a E H) {x:Operand} {sz:Nat} {K:Nat→List PV→Prop} (hp:elemsOf H (opnd E x) sz K):∃m ds,Elems g w (a.eval x) m ds∧K m ds:=by
 have hx:=opnd_VC inv.rel x
 unfold elemsOf at hp
 split at hp
 ·rename_i m ds o hb
  rw [hb] at hx
  rcases hx.slice.inv_slice with ⟨h1,h2,h3⟩ | ⟨b,off,cap,h1,_,himm⟩
  ·exact ⟨m,ds,⟨.inl ⟨h1,h2,h3⟩⟩,hp⟩
  ·obtain ⟨us,u1,u2,u3⟩:=himm.list
   exact ⟨m,ds,⟨.inr ⟨b,off,cap,us,h1,u1,u2,u3⟩⟩,hp⟩
 ·rename_i id off m cap hb
  rw [hb] at hx
  split at hp
  ·rename_i ob hid
   obtain ⟨b,h1,hi,_,hkd⟩:=(plain_of hx (by simp) (by simp)).inv_sref
   obtain ⟨vs,k1,k2,k3⟩:=inv.rel.h.obj id b ob hid hi hkd
   refine ⟨m,_,⟨.inr ⟨b,off,cap,(vs.toList.drop off).take ((ob.cs.drop off).take (m*sz)).length,h1,by simp;omega,fun j u hj=>?_,fun j c hj=>?_⟩⟩,hp⟩
   ·rw [Addr.add_plain,cell?_cells k1]
    rw [zqs] at hj
    split at hj
    ·rw [zqt,Array.getElem?_toList] at hj;exact hj
    ·cases hj
   ·rw [List.getElem?_map,Option.map_eq_some_iff] at hj
    obtain ⟨d,hd,rfl⟩:=hj
    have hlt:=(zq1.1 hd).1
    rw [zqs] at hd ⊢
    split at hd
    ·rw [zqt] at hd
     obtain ⟨u,e1,e2⟩:=k3 _ _ hd
     rw [zqp hlt,zqt,Array.getElem?_toList]
     exact ⟨u,e1,e2.dem⟩
    ·cases hd
  ·exact hp.elim
 ·rename_i id off m hb
  rw [hb] at hx
  split at hp
  ·rename_i ob hid
   obtain ⟨b,cap,h1,hi,_,hkd⟩:=(plain_of hx (by simp) (by simp)).inv_rref
   obtain ⟨vs,k1,k2,k3⟩:=inv.rel.h.obj id b ob hid hi hkd
   refine ⟨m,_,⟨.inr ⟨b,off,cap,(vs.toList.drop off).take ((ob.cs.drop off).take (m*sz)).length,h1,by simp;omega,fun j u hj=>?_,fun j c hj=>?_⟩⟩,hp⟩
   ·rw [Addr.add_plain,cell?_cells k1]
    rw [zqs] at hj
    split at hj
    ·rw [zqt,Array.getElem?_toList] at hj;exact hj
    ·cases hj
   ·rw [List.getElem?_map,Option.map_eq_some_iff] at hj
    obtain ⟨d,hd,rfl⟩:=hj
    have hlt:=(zq1.1 hd).1
    rw [zqs] at hd ⊢
    split at hd
    ·rw [zqt] at hd
     obtain ⟨u,e1,e2⟩:=k3 _ _ hd
     rw [zqp hlt,zqt,Array.getElem?_toList]
     exact ⟨u,e1,e2.dem⟩
    ·cases hd
  ·exact hp.elim
 ·rename_i hb
  rw [hb] at hx
  exact ⟨0,[],⟨.inl ⟨(plain_of hx (by simp) (by simp)).inv_nilS,rfl,rfl⟩⟩,hp⟩
 ·exact hp.elim
theorem run_append_at (t ty e:TypeId) (i:TypeInfo) (ht:P.underlying t=some (.slice e)) (hi:P.info? e=some i) (b sLen sCap:Nat) (x:Addr) (m c:Nat) (news:List Value) (hl:news.length=m*i.size)
  (hnews:∀j u,news[j]? = some u→w.cell? (x.add j)=some u) (hroom:sLen+m≤sCap) {w1:World} (hst:(storeCells ⟨b,sLen*i.size,none⟩ news).run P w=.ok () w1) :
  (Builtin.append_ #[t,t] ty #[.slice (some ⟨b,0,none⟩) sLen sCap,.slice (some x) m c]).run P w=.ok (.slice (some ⟨b,0,none⟩) (sLen+m) sCap) w1:=by
 have hf:=run_firstCells_some (P:=P) w i.size m x m c news hl hnews
 simp [Builtin.append_,run_underlying ht,Go.sizeOf,typeInfo,hi,Builtin.lenOf,hroom,hf,Addr.add_lit,hst]
theorem append_ref {id n m cap:Nat} {ds:List PV} {e T ty:Nat} {ei:TI} {ob:PObj} {v y:Value} (inv:Inv P g0 w0 H0 F0 N g w a E H) (hid:H[id]? = some ob) (hv:V g w v (.sref id 0 n cap)) (hy:Elems g w y m ds)
  (hu:P.underlying T=some (.slice e)) (te:TIs P e ei) (hb:(n+m)*ei.bytes≤140737488355328) (hl:ds.length=m*ei.sz) (hone:ds.all oneP=true) (hn:n*ei.sz≤ob.cs.length)
  {K:PV→PH→Prop} (h1:n+m≤cap→(n+m)*ei.sz≤ob.cs.length∧K (.sref id 0 (n+m) cap) (setH id ob (setCells (n*ei.sz) ds ob.cs) H))
  (h2:cap<n+m→∀cap',n+m≤cap'→K (.sref H.length 0 (n+m) cap') (H++[⟨e,(ob.cs.take (n*ei.sz)).map dem++ds++zerosOf ei.zero (cap' - (n+m)),0⟩])) :
  ∃r p g1 w1 H',(Builtin.append_ #[T,T] ty #[v,y]).run P w=.ok r w1∧Post P g0 w0 H0 F0 N a g1 w1 E [] H' r p none∧K p H':=by
 obtain ⟨inf,z,i1,i2,i3,i4,i5⟩:=te.ex
 have hzs:z.cells.size=ei.sz:=by rw [(zeqs_VL (g:=g) (w:=w) i5).1,te.len]
 have hb0:=te.bpos
 have hnm:(n+m)*1≤(n+m)*ei.bytes:=Nat.mul_le_mul_left _ hb0
 obtain ⟨b,rfl,hi,hle,hkd⟩:=hv.inv_sref
 obtain ⟨vs,k1,k2,k3⟩:=inv.rel.h.obj id b ob hid hi hkd
 have room:∀(us:List Value),us.length=ds.length→(∀(j:Nat) (c:PV),ds[j]? = some c→∃u,us[j]? = some u∧V g w u c)→(n+m)*ei.sz≤ob.cs.length →
   ∃w1,(storeCells ⟨b,n*ei.sz,none⟩ us).run P w=.ok () w1∧Inv P g0 w0 H0 F0 N g w1 a E (setH id ob (setCells (n*ei.sz) ds ob.cs) H)∧kindAt w1 b=1:=fun us u1 u3 hfit=>by
  obtain ⟨w1,e1,e2,e3⟩:=inv.put_at (us:=us.toArray) hid hi hkd (off:=n*ei.sz) (ds:=ds) (by rw [hl,←Nat.add_mul];exact hfit) (by simp [u1]) (fun j c hj=>by
   obtain ⟨u,y1,y2⟩:=u3 j c hj
   exact ⟨u,by simpa using y1,.inl y2⟩) (fun j c u bb hj ho hu hbb=>by
    obtain ⟨u',y1,y2⟩:=u3 j c hj
    have:us[j]? = some u:=by simpa using hu
    rw [y1] at this;cases this
    exact absurd (show ownAt u c 0 bb by cases c <;> first | (cases ho;done) | exact ⟨rfl,ho,hbb⟩) (no_own y2 0 bb)) (fun u hu=>by
    have hu:u∈us:=by simpa using hu
    obtain ⟨j,hj⟩:=List.getElem?_of_mem hu
    have hlt:j<ds.length:=by rw [←u1];exact (zq1.1 hj).1
    obtain ⟨u',y1,y2⟩:=u3 j _ (zqc hlt)
    rw [y1] at hj;cases hj
    exact y2.one (List.all_eq_true.1 hone _ (List.getElem_mem hlt)))
  exact ⟨w1,by simpa using e1,e2,e3⟩
 rcases hy.h with ⟨rfl,rfl,rfl⟩ | ⟨b2,off2,cap2,us,rfl,u1,u2,u3⟩
 ·obtain ⟨q1,q2⟩:=h1 (by omega)
  obtain ⟨w1,e1,e2,e3⟩:=room [] rfl (fun j c hj=>by simp at hj) q1
  have hw:w1=w:=by
   have:(storeCells ⟨b,n*ei.sz,none⟩ []).run P w=.ok () w:=by simp [storeCells]
   rw [e1] at this
   injection this
  subst hw
  exact ⟨_,_,g,w1,_,run_append_none T ty e n cap (some ⟨b,0,none⟩) inf hu i1 hle,Post.ofV e2 (.sref id b 0 n cap hi hle e3) QRel.nil,q2⟩
 ·rcases Nat.lt_or_ge cap (n+m) with hg | hroom
  ·have hfit:=growslice_fits (bytes:=inf.bytes) hg (by rw [i3];exact hb)
   have hlt0:(vs.toList.take (n*ei.sz)).length=n*ei.sz:=by rw [zqr,Array.length_toList];omega
   have hrun:=run_append_grow (P:=P) w T ty e inf z hu i1 i4 ⟨b,0,none⟩ n cap (vs.toList.take (n*ei.sz)) (by rw [hlt0,i2]) (fun j v hj=>by
     rw [Addr.add_plain,cell?_cells k1,Nat.zero_add]
     rw [zqs] at hj
     split at hj
     ·rw [←Array.getElem?_toList];exact hj
     ·cases hj) ⟨b2,off2,none⟩ m cap2 us (by rw [u1,hl,i2]) u2 hg (by omega) hfit
   have hge:=grownCap_ge w (n+m) cap e
   obtain ⟨y1,y2,y3⟩:=zero_VL (g:=g) (w:=w) i5 te.len te.pos (grownCap w (n+m) cap e - (n+m))
   have hpo:=post_obj (T:=e) (cs:=(ob.cs.take (n*ei.sz)).map dem++ds++zerosOf ei.zero (grownCap w (n+m) cap e - (n+m))) inv QRel.nil
    (w1:=w.drew.alloc (.cells ((vs.toList.take (n*ei.sz)).toArray++us.toArray++Builtin.zeroCells z.cells (grownCap w (n+m) cap e - (n+m))) e)) ⟨rfl,rfl,rfl,rfl⟩ (by
     simp only [Array.size_append,List.size_toArray,hlt0,u1,y1,zqf,zqq,zqr,y2];omega) (fun j c hj=>by
     have htk:((ob.cs.take (n*ei.sz)).map dem).length=n*ei.sz:=by rw [zqq,zqr];omega
     rcases Nat.lt_or_ge j (n*ei.sz) with hj1 | hj1
     ·rw [List.append_assoc,zq2 (by omega),List.getElem?_map,zqs,zqp hj1,Option.map_eq_some_iff] at hj
      obtain ⟨d,hd,rfl⟩:=hj
      obtain ⟨u,e1,e2⟩:=k3 _ _ hd
      refine ⟨u,?_,e2.dem⟩
      rw [Array.append_assoc,Array.getElem?_append_left (by simp only [List.size_toArray];omega),List.getElem?_toArray,zqs,zqp hj1,Array.getElem?_toList];exact e1
     ·rcases Nat.lt_or_ge j (n*ei.sz+us.length) with hj2 | hj2
      ·rw [List.append_assoc,zqi (by omega),htk,zq2 (by omega)] at hj
       obtain ⟨u,e1,e2⟩:=u3 _ _ hj
       refine ⟨u,?_,e2⟩
       rw [Array.getElem?_append_left (by simp only [Array.size_append,List.size_toArray];omega),Array.getElem?_append_right (by simp only [List.size_toArray];omega)]
       simp only [List.size_toArray,hlt0,List.getElem?_toArray];exact e1
      ·rw [zqi (by rw [zqf];omega),zqf,htk] at hj
       obtain ⟨u,e1,e2⟩:=y3 _ _ hj
       refine ⟨u,?_,e2⟩
       rw [Array.getElem?_append_right (by simp only [Array.size_append,List.size_toArray];omega)]
       simp only [Array.size_append,List.size_toArray,hlt0,u1];exact e1)
   exact ⟨_,_,_,_,_,hrun,Post.ofV hpo.inv (.sref H.length w.heap.size 0 (n+m) _ (by rw [←inv.rel.h.len];simp) hge hpo.ptrKind) QRel.nil,h2 hg _ hge⟩
  ·obtain ⟨q1,q2⟩:=h1 hroom
   obtain ⟨w1,e1,e2,e3⟩:=room us u1 u3 q1
   rw [←i2] at e1
   have hrun:=run_append_at (P:=P) (w:=w) T ty e inf hu i1 b n cap ⟨b2,off2,none⟩ m cap2 us (by rw [u1,hl,i2]) u2 hroom e1
   exact ⟨_,_,g,w1,_,hrun,Post.ofV e2 (.sref id b 0 (n+m) cap hi hroom e3) QRel.nil,q2⟩
theorem run_append_off (t ty e:TypeId) (i:TypeInfo) (ht:P.underlying t=some (.slice e)) (hi:P.info? e=some i) (b off sLen sCap:Nat) (x:Addr) (m c:Nat) (news:List Value) (hl:news.length=m*i.size)
  (hnews:∀j u,news[j]? = some u→w.cell? (x.add j)=some u) (hroom:sLen+m≤sCap) {w1:World} (hst:(storeCells ⟨b,off+sLen*i.size,none⟩ news).run P w=.ok () w1) :
  (Builtin.append_ #[t,t] ty #[.slice (some ⟨b,off,none⟩) sLen sCap,.slice (some x) m c]).run P w=.ok (.slice (some ⟨b,off,none⟩) (sLen+m) sCap) w1:=by
 have hf:=run_firstCells_some (P:=P) w i.size m x m c news hl hnews
 simp [Builtin.append_,run_underlying ht,Go.sizeOf,typeInfo,hi,Builtin.lenOf,hroom,hf,Addr.add_lit,hst]
theorem append_refO {id off n m cap:Nat} {ds:List PV} {e T ty:Nat} {ei:TI} {ob:PObj} {v y:Value} (inv:Inv P g0 w0 H0 F0 N g w a E H) (hid:H[id]? = some ob) (hv:V g w v (.sref id off n cap)) (hy:Elems g w y m ds)
  (hu:P.underlying T=some (.slice e)) (te:TIs P e ei) (hb:(n+m)*ei.bytes≤140737488355328) (hl:ds.length=m*ei.sz) (hone:ds.all oneP=true) (hn:off+n*ei.sz≤ob.cs.length)
  {K:PV→PH→Prop} (h1:n+m≤cap→off+(n+m)*ei.sz≤ob.cs.length∧K (.sref id off (n+m) cap) (setH id ob (setCells (off+n*ei.sz) ds ob.cs) H))
  (h2:cap<n+m→∀cap',n+m≤cap'→K (.sref H.length 0 (n+m) cap') (H++[⟨e,((ob.cs.drop off).take (n*ei.sz)).map dem++ds++zerosOf ei.zero (cap' - (n+m)),0⟩])) :
  ∃r p g1 w1 H',(Builtin.append_ #[T,T] ty #[v,y]).run P w=.ok r w1∧Post P g0 w0 H0 F0 N a g1 w1 E [] H' r p none∧K p H':=by
 obtain ⟨inf,z,i1,i2,i3,i4,i5⟩:=te.ex
 have hzs:z.cells.size=ei.sz:=by rw [(zeqs_VL (g:=g) (w:=w) i5).1,te.len]
 have hb0:=te.bpos
 have hnm:(n+m)*1≤(n+m)*ei.bytes:=Nat.mul_le_mul_left _ hb0
 obtain ⟨b,rfl,hi,hle,hkd⟩:=hv.inv_sref
 obtain ⟨vs,k1,k2,k3⟩:=inv.rel.h.obj id b ob hid hi hkd
 have room:∀(us:List Value),us.length=ds.length→(∀(j:Nat) (c:PV),ds[j]? = some c→∃u,us[j]? = some u∧V g w u c)→off+(n+m)*ei.sz≤ob.cs.length →
   ∃w1,(storeCells ⟨b,off+n*ei.sz,none⟩ us).run P w=.ok () w1∧Inv P g0 w0 H0 F0 N g w1 a E (setH id ob (setCells (off+n*ei.sz) ds ob.cs) H)∧kindAt w1 b=1:=fun us u1 u3 hfit=>by
  obtain ⟨w1,e1,e2,e3⟩:=inv.put_at (us:=us.toArray) hid hi hkd (off:=off+n*ei.sz) (ds:=ds) (by rw [hl,Nat.add_assoc,←Nat.add_mul];exact hfit) (by simp [u1]) (fun j c hj=>by
   obtain ⟨u,y1,y2⟩:=u3 j c hj
   exact ⟨u,by simpa using y1,.inl y2⟩) (fun j c u bb hj ho hu hbb=>by
    obtain ⟨u',y1,y2⟩:=u3 j c hj
    have:us[j]? = some u:=by simpa using hu
    rw [y1] at this;cases this
    exact absurd (show ownAt u c 0 bb by cases c <;> first | (cases ho;done) | exact ⟨rfl,ho,hbb⟩) (no_own y2 0 bb)) (fun u hu=>by
    have hu:u∈us:=by simpa using hu
    obtain ⟨j,hj⟩:=List.getElem?_of_mem hu
    have hlt:j<ds.length:=by rw [←u1];exact (zq1.1 hj).1
    obtain ⟨u',y1,y2⟩:=u3 j _ (zqc hlt)
    rw [y1] at hj;cases hj
    exact y2.one (List.all_eq_true.1 hone _ (List.getElem_mem hlt)))
  exact ⟨w1,by simpa using e1,e2,e3⟩
 rcases hy.h with ⟨rfl,rfl,rfl⟩ | ⟨b2,off2,cap2,us,rfl,u1,u2,u3⟩
 ·obtain ⟨q1,q2⟩:=h1 (by omega)
  obtain ⟨w1,e1,e2,e3⟩:=room [] rfl (fun j c hj=>by simp at hj) q1
  have hw:w1=w:=by
   have:(storeCells ⟨b,off+n*ei.sz,none⟩ []).run P w=.ok () w:=by simp [storeCells]
   rw [e1] at this
   injection this
  subst hw
  exact ⟨_,_,g,w1,_,run_append_none T ty e n cap (some ⟨b,off,none⟩) inf hu i1 hle,Post.ofV e2 (.sref id b off n cap hi hle e3) QRel.nil,q2⟩
 ·rcases Nat.lt_or_ge cap (n+m) with hg | hroom
  ·have hfit:=growslice_fits (bytes:=inf.bytes) hg (by rw [i3];exact hb)
   have hlt0:((vs.toList.drop off).take (n*ei.sz)).length=n*ei.sz:=by rw [zqr,List.length_drop,Array.length_toList];omega
   have hrun:=run_append_grow (P:=P) w T ty e inf z hu i1 i4 ⟨b,off,none⟩ n cap ((vs.toList.drop off).take (n*ei.sz)) (by rw [hlt0,i2]) (fun j v hj=>by
     rw [Addr.add_plain,cell?_cells k1]
     rw [zqs] at hj
     split at hj
     ·rw [zqt,Array.getElem?_toList] at hj;exact hj
     ·cases hj) ⟨b2,off2,none⟩ m cap2 us (by rw [u1,hl,i2]) u2 hg (by omega) hfit
   have hge:=grownCap_ge w (n+m) cap e
   obtain ⟨y1,y2,y3⟩:=zero_VL (g:=g) (w:=w) i5 te.len te.pos (grownCap w (n+m) cap e - (n+m))
   have hpo:=post_obj (T:=e) (cs:=((ob.cs.drop off).take (n*ei.sz)).map dem++ds++zerosOf ei.zero (grownCap w (n+m) cap e - (n+m))) inv QRel.nil
    (w1:=w.drew.alloc (.cells (((vs.toList.drop off).take (n*ei.sz)).toArray++us.toArray++Builtin.zeroCells z.cells (grownCap w (n+m) cap e - (n+m))) e)) ⟨rfl,rfl,rfl,rfl⟩ (by
     simp only [Array.size_append,List.size_toArray,hlt0,u1,y1,zqf,zqq,zqr,List.length_drop,y2];omega) (fun j c hj=>by
     have htk:(((ob.cs.drop off).take (n*ei.sz)).map dem).length=n*ei.sz:=by rw [zqq,zqr,List.length_drop];omega
     rcases Nat.lt_or_ge j (n*ei.sz) with hj1 | hj1
     ·rw [List.append_assoc,zq2 (by omega),List.getElem?_map,zqs,zqp hj1,zqt,Option.map_eq_some_iff] at hj
      obtain ⟨d,hd,rfl⟩:=hj
      obtain ⟨u,e1,e2⟩:=k3 _ _ hd
      refine ⟨u,?_,e2.dem⟩
      rw [Array.append_assoc,Array.getElem?_append_left (by simp only [List.size_toArray];omega),List.getElem?_toArray,zqs,zqp hj1,zqt,Array.getElem?_toList];exact e1
     ·rcases Nat.lt_or_ge j (n*ei.sz+us.length) with hj2 | hj2
      ·rw [List.append_assoc,zqi (by omega),htk,zq2 (by omega)] at hj
       obtain ⟨u,e1,e2⟩:=u3 _ _ hj
       refine ⟨u,?_,e2⟩
       rw [Array.getElem?_append_left (by simp only [Array.size_append,List.size_toArray];omega),Array.getElem?_append_right (by simp only [List.size_toArray];omega)]
       simp only [List.size_toArray,hlt0,List.getElem?_toArray];exact e1
      ·rw [zqi (by rw [zqf];omega),zqf,htk] at hj
       obtain ⟨u,e1,e2⟩:=y3 _ _ hj
       refine ⟨u,?_,e2⟩
       rw [Array.getElem?_append_right (by simp only [Array.size_append,List.size_toArray];omega)]
       simp only [Array.size_append,List.size_toArray,hlt0,u1];exact e1)
   exact ⟨_,_,_,_,_,hrun,Post.ofV hpo.inv (.sref H.length w.heap.size 0 (n+m) _ (by rw [←inv.rel.h.len];simp) hge hpo.ptrKind) QRel.nil,h2 hg _ hge⟩
  ·obtain ⟨q1,q2⟩:=h1 hroom
   obtain ⟨w1,e1,e2,e3⟩:=room us u1 u3 q1
   rw [←i2] at e1
   have hrun:=run_append_off (P:=P) (w:=w) T ty e inf hu i1 b off n cap ⟨b2,off2,none⟩ m cap2 us (by rw [u1,hl,i2]) u2 hroom e1
   exact ⟨_,_,g,w1,_,hrun,Post.ofV e2 (.sref id b off (n+m) cap hi hroom e3) QRel.nil,q2⟩
theorem append_nilS {m:Nat} {ds:List PV} {e T ty:Nat} {ei:TI} {y:Value} (inv:Inv P g0 w0 H0 F0 N g w a E H) (hy:Elems g w y m ds)
  (hu:P.underlying T=some (.slice e)) (te:TIs P e ei) (hb:m*ei.bytes≤140737488355328) (hl:ds.length=m*ei.sz) {K:PV→PH→Prop} (h1:m=0→K .nilS H)
  (h2:0<m→∀cap',m≤cap'→K (.sref H.length 0 m cap') (H++[⟨e,ds++zerosOf ei.zero (cap' - m),0⟩])) :
  ∃r p g1 w1 H',(Builtin.append_ #[T,T] ty #[.slice none 0 0,y]).run P w=.ok r w1∧Post P g0 w0 H0 F0 N a g1 w1 E [] H' r p none∧K p H':=by
 obtain ⟨inf,z,i1,i2,i3,i4,i5⟩:=te.ex
 have hzs:z.cells.size=ei.sz:=by rw [(zeqs_VL (g:=g) (w:=w) i5).1,te.len]
 have hb0:=te.bpos
 have hnm:m*1≤m*ei.bytes:=Nat.mul_le_mul_left _ hb0
 rcases hy.h with ⟨rfl,rfl,rfl⟩ | ⟨b2,off2,cap2,us,rfl,u1,u2,u3⟩
 ·exact ⟨_,_,g,w,_,run_append_none T ty e 0 0 none inf hu i1 (zqn _),Post.ofV inv .nilS QRel.nil,h1 rfl⟩
 ·rcases Nat.eq_zero_or_pos m with rfl | hm
  ·exact ⟨_,_,g,w,_,run_append_empty T ty e _ _ inf hu i1,Post.ofV inv .nilS QRel.nil,h1 rfl⟩
  ·have hrun:=run_append_nil (P:=P) w T ty e inf z hu i1 i4 ⟨b2,off2,none⟩ m cap2 us (by rw [u1,hl,i2]) u2 hm (by omega) (by rw [i3];omega)
   have hge:=grownCap_ge w m 0 e
   obtain ⟨y1,y2,y3⟩:=zero_VL (g:=g) (w:=w) i5 te.len te.pos (grownCap w m 0 e - m)
   have hpo:=post_obj (T:=e) (cs:=ds++zerosOf ei.zero (grownCap w m 0 e - m)) inv QRel.nil
    (w1:=w.drew.alloc (.cells (us.toArray++Builtin.zeroCells z.cells (grownCap w m 0 e - m)) e)) ⟨rfl,rfl,rfl,rfl⟩ (by
     simp only [Array.size_append,List.size_toArray,u1,y1,zqf,y2]) (fun j c hj=>by
     rcases Nat.lt_or_ge j us.length with hj2 | hj2
     ·rw [zq2 (by omega)] at hj
      obtain ⟨u,e1,e2⟩:=u3 _ _ hj
      refine ⟨u,?_,e2⟩
      rw [Array.getElem?_append_left (by simp only [List.size_toArray];omega),List.getElem?_toArray];exact e1
     ·rw [zqi (by omega)] at hj
      obtain ⟨u,e1,e2⟩:=y3 _ _ hj
      refine ⟨u,?_,e2⟩
      rw [Array.getElem?_append_right (by simp only [List.size_toArray];omega)]
      simp only [List.size_toArray,u1];exact e1)
   exact ⟨_,_,_,_,_,hrun,Post.ofV hpo.inv (.sref H.length w.heap.size 0 m _ (by rw [←inv.rel.h.len];simp) hge hpo.ptrKind) QRel.nil,h2 hm _ hge⟩
theorem append_zeros {k:IntKind} {n:Int} {e T U ty:Nat} {ei:TI} {ku:IntKind} (inv:Inv P g0 w0 H0 F0 N g w a E H) (hu:P.underlying T=some (.slice e)) (hU:P.underlying U=some (.int ku)) (te:TIs P e ei) (h0:0<n)
  (hb:n*ei.bytes≤140737488355328) {K:PV→PH→Prop} (h2:∀cap',n.toNat≤cap'→K (.sref H.length 0 n.toNat cap') (H++[⟨e,zerosOf ei.zero n.toNat++zerosOf ei.zero (cap' - n.toNat),0⟩])) :
  ∃r p g1 w1 H',(Builtin.append_ #[T,U] ty #[.slice none 0 0,.int k n]).run P w=.ok r w1∧Post P g0 w0 H0 F0 N a g1 w1 E [] H' r p none∧K p H':=by
 obtain ⟨inf,z,i1,i2,i3,i4,i5⟩:=te.ex
 obtain ⟨m,rfl⟩:∃m:Nat,n=m:=⟨n.toNat,by omega⟩
 have hb0:=te.bpos
 have hb':m*ei.bytes≤140737488355328:=by rw [←Int.natCast_mul] at hb;omega
 have hnm:m*1≤m*ei.bytes:=Nat.mul_le_mul_left _ hb0
 have hrun:=Lib.run_append_nil_zeros (P:=P) w T U ty e inf z k ku hu hU i1 i4 m (by omega) (by rw [i2];exact te.pos) (by omega) (by rw [i3];omega)
 have hge:=grownCap_ge w m 0 e
 obtain ⟨x1,x2,x3⟩:=zero_VL (g:=g) (w:=w) i5 te.len te.pos m
 obtain ⟨y1,y2,y3⟩:=zero_VL (g:=g) (w:=w) i5 te.len te.pos (grownCap w m 0 e - m)
 have hpo:=post_obj (T:=e) (cs:=zerosOf ei.zero m++zerosOf ei.zero (grownCap w m 0 e - m)) inv QRel.nil
  (w1:=w.drew.alloc (.cells (Builtin.zeroCells z.cells m++Builtin.zeroCells z.cells (grownCap w m 0 e - m)) e)) ⟨rfl,rfl,rfl,rfl⟩ (by
   simp only [Array.size_append,x1,y1,zqf,x2,y2]) (fun j c hj=>by
   rcases Nat.lt_or_ge j (m*ei.sz) with hj2 | hj2
   ·rw [zq2 (by omega)] at hj
    obtain ⟨u,e1,e2⟩:=x3 _ _ hj
    exact ⟨u,by rw [Array.getElem?_append_left (by omega)];exact e1,e2⟩
   ·rw [zqi (by omega),x2] at hj
    obtain ⟨u,e1,e2⟩:=y3 _ _ hj
    exact ⟨u,by rw [Array.getElem?_append_right (by omega),x1];exact e1,e2⟩)
 exact ⟨_,_,_,_,_,hrun,Post.ofV hpo.inv (.sref H.length w.heap.size 0 m _ (by rw [←inv.rel.h.len];simp) hge hpo.ptrKind) QRel.nil,h2 _ hge⟩
theorem append_own {c:Call} {o:Oper} {K:KK} {s x:Operand} {T:Nat} (hT:ttOk P tt=true) (ho:o.op=.call c) (hc:c.callee=.builtin .append) (hargs:c.args=#[s,x]) (htys:c.argTypes=#[T,T])
  (inv:Inv P g0 w0 H0 F0 N g w a E H) (hq:QRel a g w q) (hp:pAppend tt E q H s x T fun v E' H'=>K v none E' [] H'):OpS P g0 w0 H0 F0 N a w o K:=by
 have hx:=opnd_VC inv.rel x
 unfold pAppend at hp
 split at hp
 ·rename_i m ds ow hb
  rw [hb] at hx
  obtain ⟨n,cs,e,E',H',gv,hp⟩:=own_of inv hq hp
  split at hp
  ·rename_i i hi
   split at hp
   ·rename_i e' hk
    split at hp
    ·rename_i hee
     have hee:=zqg hee
     subst hee
     split at hp
     ·rename_i ei hei
      obtain ⟨⟨h1,h2,h3⟩,hp⟩:=hp
      obtain ⟨r,g1,w1,hrun,hpost⟩:=given_append (ty:=o.type) gv hx.slice ((tis hT hi).slice hk) (tis hT hei) h1 h2 h3
      intro next Q' hnx
      refine wp_value ?_ (hnx _ _ _ _ _ _ _ _ hpost hp)
      simp [execOp,ho,resolve,hc,hargs,htys,invoke,builtin,hrun]
     ·exact hp.elim
    ·exact hp.elim
   ·exact hp.elim
  ·exact hp.elim
 ·exact hp.elim
theorem op_append {c:Call} {o:Oper} {K:KK} (hT:ttOk P tt=true) (ho:o.op=.call c) (hc:c.callee=.builtin .append) (inv:Inv P g0 w0 H0 F0 N g w a E H) (hq:QRel a g w q) (hp:pOp P tt imm E q H o K) :
  OpS P g0 w0 H0 F0 N a w o K:=by
 simp only [pOp,ho,hc] at hp
 split at hp
 ·rename_i s x hx'
  have hargs:c.args=#[s,x]:=by rw [←Array.toList_inj];exact hx'
  have hs:=opnd_VC inv.rel s
  split at hp
  ·rename_i T T' hT'
   split at hp
   ·rename_i hb
    have hb:=zqg hb
    subst hb
    have htys:c.argTypes=#[T,T]:=by rw [←Array.toList_inj];exact hT'
    split at hp
    ·rename_i id off n cap hb
     rw [hb] at hs
     split at hp
     ·unfold pAppendR at hp
      split at hp
      ·rename_i i hi
       split at hp
       ·rename_i e hk
        split at hp
        ·rename_i ei hei
         obtain ⟨m,ds,hel,hp⟩:=elems_of inv hp
         split at hp
         ·rename_i ob hid
          obtain ⟨⟨rfl,h1,h2,h3,h4⟩,h5,h6⟩:=hp
          obtain ⟨r,p,g1,w1,H',hrun,hpost,hk'⟩:=append_ref (ty:=o.type) (K:=fun v H'=>K v none E [] H') inv hid (plain_of hs (by simp) (by simp)) hel ((tis hT hi).slice hk) (tis hT hei) h1 h2 h3 h4 h5 h6
          intro next Q' hnx
          refine wp_value ?_ (hnx _ _ _ _ _ _ _ _ hpost hk')
          simp [execOp,ho,resolve,hc,hargs,htys,invoke,builtin,hrun]
         ·exact hp.elim
        ·exact hp.elim
       ·exact hp.elim
      ·exact hp.elim
     ·unfold pAppendRO at hp
      split at hp
      ·rename_i i hi
       split at hp
       ·rename_i e hk
        split at hp
        ·rename_i ei hei
         obtain ⟨m,ds,hel,hp⟩:=elems_of inv hp
         split at hp
         ·rename_i ob hid
          obtain ⟨⟨h1,h2,h3,h4⟩,h5,h6⟩:=hp
          obtain ⟨r,p,g1,w1,H',hrun,hpost,hk'⟩:=append_refO (ty:=o.type) (K:=fun v H'=>K v none E [] H') inv hid (plain_of hs (by simp) (by simp)) hel ((tis hT hi).slice hk) (tis hT hei) h1 h2 h3 h4 h5 h6
          intro next Q' hnx
          refine wp_value ?_ (hnx _ _ _ _ _ _ _ _ hpost hk')
          simp [execOp,ho,resolve,hc,hargs,htys,invoke,builtin,hrun]
         ·exact hp.elim
        ·exact hp.elim
       ·exact hp.elim
      ·exact hp.elim
    ·rename_i hb
     rw [hb] at hs
     have hvb:=(plain_of hs (by simp) (by simp)).inv_nilS
     split at hp
     ·unfold pAppendN at hp
      split at hp
      ·rename_i i hi
       split at hp
       ·rename_i e hk
        split at hp
        ·rename_i ei hei
         obtain ⟨m,ds,hel,hp⟩:=elems_of inv hp
         obtain ⟨⟨h1,h2,_⟩,h5,h6⟩:=hp
         obtain ⟨r,p,g1,w1,H',hrun,hpost,hk'⟩:=append_nilS (ty:=o.type) (K:=fun v H'=>K v none E [] H') inv hel ((tis hT hi).slice hk) (tis hT hei) h1 h2 h5 h6
         intro next Q' hnx
         refine wp_value ?_ (hnx _ _ _ _ _ _ _ _ hpost hk')
         simp [execOp,ho,resolve,hc,hargs,htys,invoke,builtin,hvb,hrun]
        ·exact hp.elim
       ·exact hp.elim
      ·exact hp.elim
     ·exact append_own hT ho hc hargs htys inv hq hp
    ·exact append_own hT ho hc hargs htys inv hq hp
   ·split at hp
    ·rename_i hb
     rw [hb] at hs
     have hvb:=(plain_of hs (by simp) (by simp)).inv_nilS
     have htys:c.argTypes=#[T,T']:=by rw [←Array.toList_inj];exact hT'
     split at hp
     ·unfold pAppendZ at hp
      split at hp
      ·rename_i i hi
       split at hp
       ·rename_i e hk
        split at hp
        ·rename_i ei hei
         split at hp
         ·rename_i j hj
          split at hp
          ·rename_i ku hku
           have hx:=opnd_VC inv.rel x
           split at hp
           ·rename_i kx n hxb
            rw [hxb] at hx
            obtain ⟨⟨h1,h2⟩,h6⟩:=hp
            obtain ⟨r,p,g1,w1,H',hrun,hpost,hk'⟩:=append_zeros (ty:=o.type) (k:=kx) (K:=fun v H'=>K v none E [] H') inv ((tis hT hi).slice hk) ((tis hT hj).int hku) (tis hT hei) h1 h2 h6
            intro next Q' hnx
            refine wp_value ?_ (hnx _ _ _ _ _ _ _ _ hpost hk')
            simp [execOp,ho,resolve,hc,hargs,htys,invoke,builtin,hvb,hx.int,hrun]
           ·exact hp.elim
          ·exact hp.elim
         ·exact hp.elim
        ·exact hp.elim
       ·exact hp.elim
      ·exact hp.elim
     ·exact hp.elim
    ·exact hp.elim
  ·exact hp.elim
 ·exact hp.elim
theorem copy_ref {id off n cap m:Nat} {ds:List PV} {e T U ty:Nat} {ei:TI} {ob:PObj} {v y:Value} (inv:Inv P g0 w0 H0 F0 N g w a E H) (hid:H[id]? = some ob) (hv:V g w v (.sref id off n cap)) (hy:Elems g w y m ds)
  (hu:P.underlying T=some (.slice e)) (te:TIs P e ei) (hl:ds.length=m*ei.sz) (hone:ds.all oneP=true) (hn:off+n*ei.sz≤ob.cs.length) :
  ∃w1,(Builtin.copy_ #[T,U] ty #[v,y]).run P w=.ok (.int .i64 (min m n:Nat)) w1∧Inv P g0 w0 H0 F0 N g w1 a E (setH id ob (setCells off (ds.take (min m n*ei.sz)) ob.cs) H):=by
 obtain ⟨inf,z,i1,i2,i3,i4,i5⟩:=te.ex
 obtain ⟨b,rfl,hi,hle,hkd⟩:=hv.inv_sref
 have hkm:min m n*ei.sz≤m*ei.sz:=Nat.mul_le_mul_right _ (Nat.min_le_left _ _)
 have hkn:min m n*ei.sz≤n*ei.sz:=Nat.mul_le_mul_right _ (Nat.min_le_right _ _)
 have room:∀(us:List Value),us.length=(ds.take (min m n*ei.sz)).length→(∀(j:Nat) (c:PV),(ds.take (min m n*ei.sz))[j]? = some c→∃u,us[j]? = some u∧V g w u c) →
   ∃w1,(storeCells ⟨b,off,none⟩ us).run P w=.ok () w1∧Inv P g0 w0 H0 F0 N g w1 a E (setH id ob (setCells off (ds.take (min m n*ei.sz)) ob.cs) H):=fun us u1 u3=>by
  obtain ⟨w1,e1,e2,e3⟩:=inv.put_at (us:=us.toArray) hid hi hkd (off:=off) (ds:=ds.take (min m n*ei.sz)) (by rw [zqr];omega) (by simpa using u1) (fun j c hj=>by
   obtain ⟨u,y1,y2⟩:=u3 j c hj
   exact ⟨u,by simpa using y1,.inl y2⟩) (fun j c u bb hj ho hu hbb=>by
    obtain ⟨u',y1,y2⟩:=u3 j c hj
    have:us[j]? = some u:=by simpa using hu
    rw [y1] at this;cases this
    exact absurd (show ownAt u c 0 bb by cases c <;> first | (cases ho;done) | exact ⟨rfl,ho,hbb⟩) (no_own y2 0 bb)) (fun u hu=>by
    have hu:u∈us:=by simpa using hu
    obtain ⟨j,hj⟩:=List.getElem?_of_mem hu
    have hlt:j<(ds.take (min m n*ei.sz)).length:=by rw [←u1];exact (zq1.1 hj).1
    obtain ⟨u',y1,y2⟩:=u3 j _ (zqc hlt)
    rw [y1] at hj;cases hj
    exact y2.one (List.all_eq_true.1 hone _ (List.mem_of_mem_take (List.getElem_mem hlt))))
  exact ⟨w1,by simpa using e1,e2⟩
 rcases hy.h with ⟨rfl,rfl,rfl⟩ | ⟨b2,off2,cap2,us,rfl,u1,u2,u3⟩
 ·obtain ⟨w1,e1,e2⟩:=room [] (by simp) (fun j c hj=>by simp at hj)
  have hw:w1=w:=by
   have:(storeCells ⟨b,off,none⟩ []).run P w=.ok () w:=by simp [storeCells]
   rw [e1] at this
   injection this
  subst hw
  refine ⟨w1,?_,e2⟩
  have h0:Nat.min 0 n=0:=Nat.zero_min n
  simp [Builtin.copy_,run_underlying hu,Go.sizeOf,typeInfo,i1,Builtin.lenOf,Builtin.firstCells,h0,storeCells,goInt]
 ·obtain ⟨w1,e1,e2⟩:=room (us.take (min m n*ei.sz)) (by simp [u1]) (fun j c hj=>by
   rw [zqs] at hj ⊢
   split at hj
   ·rename_i hlt
    rw [zqp hlt];exact u3 j c hj
   ·cases hj)
  refine ⟨w1,?_,e2⟩
  have hf:=run_firstCells_some (P:=P) w inf.size (min m n) ⟨b2,off2,none⟩ m cap2 (us.take (min m n*ei.sz)) (by rw [zqr,u1,hl,i2];omega) (fun j u hj=>by
   rw [zqs] at hj
   split at hj
   ·exact u2 j u hj
   ·cases hj)
  have hmn:Nat.min m n=min m n:=rfl
  simp [Builtin.copy_,run_underlying hu,Go.sizeOf,typeInfo,i1,Builtin.lenOf,hmn,hf,e1,goInt]
theorem op_copy {c:Call} {o:Oper} {K:KK} (hT:ttOk P tt=true) (ho:o.op=.call c) (hc:c.callee=.builtin .copy) (inv:Inv P g0 w0 H0 F0 N g w a E H) (hq:QRel a g w q) (hp:pOp P tt imm E q H o K) :
  OpS P g0 w0 H0 F0 N a w o K:=by
 simp only [pOp,ho,hc] at hp
 split at hp
 ·rename_i x y hx'
  have hargs:c.args=#[x,y]:=by rw [←Array.toList_inj];exact hx'
  have hs:=opnd_VC inv.rel x
  split at hp
  ·rename_i T T' hT'
   have htys:c.argTypes=#[T,T']:=by rw [←Array.toList_inj];exact hT'
   split at hp
   ·rename_i id off n cap hb
    rw [hb] at hs
    split at hp
    ·rename_i i hi
     split at hp
     ·rename_i e hk
      split at hp
      ·rename_i ei hei
       obtain ⟨m,ds,hel,hp⟩:=elems_of inv hp
       split at hp
       ·rename_i ob hid
        obtain ⟨⟨h1,h2,h3⟩,hp⟩:=hp
        obtain ⟨w1,hrun,hinv⟩:=copy_ref (ty:=o.type) (U:=T') inv hid (plain_of hs (by simp) (by simp)) hel ((tis hT hi).slice hk) (tis hT hei) h1 h2 h3
        intro next Q' hnx
        refine wp_value ?_ (hnx _ _ _ _ _ _ _ _ (Post.ofV hinv (.int _ _) QRel.nil) hp)
        simp [execOp,ho,resolve,hc,hargs,htys,invoke,builtin,hrun]
       ·exact hp.elim
      ·exact hp.elim
     ·exact hp.elim
    ·exact hp.elim
   ·rename_i id off n hb
    rw [hb] at hs
    split at hp
    ·rename_i i hi
     split at hp
     ·rename_i e hk
      split at hp
      ·rename_i ei hei
       obtain ⟨m,ds,hel,hp⟩:=elems_of inv hp
       split at hp
       ·rename_i ob hid
        obtain ⟨⟨h1,h2,h3⟩,hp⟩:=hp
        obtain ⟨cap,hs'⟩:=(plain_of hs (by simp) (by simp)).rref_sref
        obtain ⟨w1,hrun,hinv⟩:=copy_ref (ty:=o.type) (U:=T') inv hid hs' hel ((tis hT hi).slice hk) (tis hT hei) h1 h2 h3
        intro next Q' hnx
        refine wp_value ?_ (hnx _ _ _ _ _ _ _ _ (Post.ofV hinv (.int _ _) QRel.nil) hp)
        simp [execOp,ho,resolve,hc,hargs,htys,invoke,builtin,hrun]
       ·exact hp.elim
      ·exact hp.elim
     ·exact hp.elim
    ·exact hp.elim
   ·exact hp.elim
  ·exact hp.elim
 ·exact hp.elim
theorem writes_freeze {b e k:Nat} {vs:Array Value} (h:w.heap[b]? = some (.cells vs e (0,0))):Writes w (w.freeze ⟨b,k,none⟩ 1) b (.cells vs e (k,k+1)):=by
 have hw:w.freeze ⟨b,k,none⟩ 1={ w with heap:=w.heap.modify b fun
   | .cells c elem (lo,hi)=>.cells c elem (if lo==hi then (k,k+1) else (min lo k,max hi (k+1)))
   | o=>o }:=by
  unfold World.freeze
  rw [zqo (by decide)]
  rfl
 have hlt:=(Array.getElem?_eq_some_iff.1 h).1
 rw [hw]
 refine ⟨?_,fun b' hb=>?_,?_,rfl,rfl,rfl⟩
 ·show (w.heap.modify b _)[b]? = _
  rw [Array.getElem?_modify,zqp rfl,h]
  rfl
 ·show (w.heap.modify b _)[b']? = _
  rw [Array.getElem?_modify,zqo (Ne.symm hb)]
 ·show (w.heap.modify b _).size=_
  rw [Array.size_modify]
theorem op_convert_own {T U t n:Nat} {cs:List PV} {x:Operand} {o:Oper} {K:KK} (hT:ttOk P tt=true) (ho:o.op=.convert T U x) (inv:Inv P g0 w0 H0 F0 N g w a E H)
  (hc:convOwn tt E T U x=some (t,n,cs)) (hp:K (.slice n cs none) none ((t,.slice n cs none)::E) [] H):OpS P g0 w0 H0 F0 N a w o K:=by
 unfold convOwn at hc
 split at hc
 ·rename_i hTU
  have hTU:=zqg hTU
  subst hTU
  split at hc
  ·rename_i t'
   split at hc
   ·rename_i n' cs' e hE
    split at hc
    ·rename_i hn
     split at hc
     ·rename_i i hi
      split at hc
      ·rename_i e' hk
       split at hc
       ·rename_i j hj
        split at hc
        ·rename_i hjk
         cases hc
         have hn:1≤n:=zqh hn
         have gv:=given_slot inv hE
         rcases gv.vh with h | ⟨n',cs',e2,b,heq,hV,hf⟩
         ·obtain ⟨_,rfl,_⟩:=h.own_nil
          omega
         ·cases heq
          obtain ⟨cap,vs,hv,hnc,hheap,hps,hcl,hvs⟩:=hf.ex
          obtain ⟨hfs,hfc,hf0⟩:=gv.free b (by rw [hv];rfl)
          have hw:=writes_freeze (k:=vs.size) hheap
          have hinv:=gv.inv.extend hheap hw 0 (Nat.zero_le _) hf.obj (zqn _) (fun _ _=>rfl) hfs hfc hf0
          have hkeep:Keeps g w ⟨g.ι,addI g.I b 0⟩ (w.freeze ⟨b,vs.size,none⟩ 1):=⟨fun _ _ h=>h,fun b' o h=>⟨.inl h,by
           by_cases hbb:b'=b
           ·subst hbb;rw [cell?_cells hw.here,cell?_cells hheap]
           ·exact cell?_of_heap (hw.far b' hbb) o⟩,fun id b' h=>kindAt_of_heap (hw.far b' (fun e=>hf.obj id (e▸h)))⟩
          have hsh:w.shape? b=some (e,vs.size):=by
           unfold World.shape?
           rw [hheap]
          have hrun:(convert T T (vals a t)).run P w=.ok (vals a t) (w.freeze ⟨b,vs.size,none⟩ 1):=by
           rw [hv]
           simp [convert,run_underlying ((tis hT hi).slice hk),run_underlying ((tis hT hj).int hjk),markStringish,hsh]
          intro next Q' hnx
          refine wp_value ?_ (hnx _ _ _ _ _ _ _ _ (Post.ofV hinv (hV.mono hkeep) QRel.nil) hp)
          have he:a.eval (.tmp t)=vals a t:=rfl
          simp only [execOp,ho,he]
          rw [Sem.run_bind,hrun]
          rfl
        ·cases hc
       ·cases hc
      ·cases hc
     ·cases hc
    ·cases hc
   ·cases hc
  ·cases hc
 ·cases hc
theorem op_convert2 {T U:Nat} {x:Operand} {o:Oper} {K:KK} (hT:ttOk P tt=true) (ho:o.op=.convert T U x) (inv:Inv P g0 w0 H0 F0 N g w a E H) (hq:QRel a g w q) (hp:pOp P tt imm E q H o K) :
  OpS P g0 w0 H0 F0 N a w o K:=by
 simp only [pOp,ho] at hp
 split at hp
 ·rename_i t n cs hc
  exact op_convert_own hT ho inv hc hp
 ·exact op_convert hT ho inv hq hp
end
end Ps
/- PSem, part 14m: maps. -/
namespace Ps
open Go
section
variable {P : Program} {tt : TT} {imm : List Nat} {g0 : Gh} {w0 : World} {H0 : PH} {F0 : Nat → Prop} {N : Nat} {g : Gh} {w : World} {a : Act} {E : Env} {H : PH} {q : Q}
theorem Inv.pushMap (inv:Inv P g0 w0 H0 F0 N g w a E H) {w1:World} {T:Nat} (hp:Pushes w w1 (.map #[] 0)) :
  Inv P g0 w0 H0 F0 N ⟨g.ι++[some w.heap.size],g.I⟩ w1 a E (H++[⟨T,[],0⟩]):=by
 have hh:=inv.rel.h
 have hold:∀(id b:Nat),g.ι[id]? = some (some b)→(g.ι++[some w.heap.size])[id]? = some (some b):=fun id b h=>by
  rw [zq2 (zq1.1 h).1];exact h
 have hnew:∀(id b:Nat),(g.ι++[some w.heap.size])[id]? = some (some b)→g.ι[id]? = some (some b)∨(id=H.length∧b=w.heap.size):=fun id b h=>by
  rcases Nat.lt_or_ge id g.ι.length with hl | hl
  ·rw [zq2 hl] at h;exact .inl h
  ·rw [zqi hl] at h
   rcases Nat.eq_zero_or_pos (id - g.ι.length) with h0 | h0
   ·rw [h0] at h;simp at h;exact .inr ⟨by rw [←hh.len];omega,h.symm⟩
   ·rw [List.getElem?_eq_none (by simp;omega)] at h;cases h
 have hkeep:Keeps g w ⟨g.ι++[some w.heap.size],g.I⟩ w1:=⟨hold,fun b o hi=>⟨hi,cell?_of_heap (hp.old (hh.ilt hi)) o⟩,fun _ _ hi=>kindAt_of_heap (hp.old (hh.lt hi))⟩
 have hquiet:∀b,b<w.heap.size→(∀(id:Nat),g.ι[id]?≠some (some b))→Quiet g w ⟨g.ι++[some w.heap.size],g.I⟩ w1 b:=fun b hb hi =>
  ⟨hp.old hb,fun o h=>h,fun id h=>by
   rcases hnew id b h with h | ⟨_,rfl⟩
   ·exact hi id h
   ·exact Nat.lt_irrefl _ hb⟩
 have hcell:∀id j b,cellOwnAt ⟨g.ι++[some w.heap.size],g.I⟩ w1 (H++[⟨T,[],0⟩]) id j b→cellOwnAt g w H id j b:=by
  rintro id j b ⟨o,c,b0,v,h1,h2,h3,h4,h5,h6⟩
  rcases hnew id b0 h4 with h4 | ⟨rfl,rfl⟩
  ·obtain ⟨o',ho'⟩:=hh.ex h4
   have hl:id<H.length:=(zq1.1 ho').1
   rw [zq2 hl] at h1
   exact ⟨o,c,b0,v,h1,h2,h3,h4,(cell?_of_heap (hp.old (hh.lt h4)) j).symm.trans h5,h6⟩
  ·rw [zqi (zqn _)] at h1
   simp at h1;subst h1
   simp at h2
 refine inv.go hp.os hp.tape hp.output (by rw [hp.size];omega) hkeep (fun id b h=>?_) (fun b hb _ _=>⟨hp.old (Nat.lt_of_lt_of_le hb inv.step.size),fun o h=>h⟩)
  ⟨fun id o h=>⟨o,by rw [zq2 (zq1.1 h).1];exact h,zqn _⟩,fun id b o o' hi h1 h2 _=>by
   rw [zq2 (zq1.1 h1).1] at h2
   exact (hp.old (hh.lt hi))⟩
  (fun t i b ho=>hquiet b (inv.rel.own_lt ho).1 (inv.rel.own_lt ho).2) ?_ (fun id j b h=>.inl (hcell id j b h)) (fun id _ h=>by
   show (g.ι++[some w.heap.size])[id]? = some none
   rw [zq2 (zq1.1 h).1];exact h)
 ·rcases hnew id b h with h | ⟨_,rfl⟩
  ·exact .inl h
  ·exact .inr (zqn _)
 ·refine ⟨by simp [hh.len],fun id id' b h h'=>?_,fun id b o h1 h2=>?_,fun id b o h1 h2 hk1=>?_,fun b o h=>?_⟩
  rotate_left
  ·rcases hnew id b h2 with h2 | ⟨rfl,rfl⟩
   ·obtain ⟨o',ho'⟩:=hh.ex h2
    have hl:id<H.length:=(zq1.1 ho').1
    rw [zq2 hl] at h1
    exact hh.fullKeep hkeep (hp.old (hh.lt h2)) h1 h2
   ·rw [zqi (zqn _)] at h1
    simp at h1;subst h1
    exact .inr ⟨#[],0,hp.new,rfl,fun i e h=>by simp at h,fun i j e f _ h=>by simp at h⟩
  rotate_right
  ·rcases hnew id b h with h | ⟨rfl,rfl⟩
   ·rcases hnew id' b h' with h' | ⟨rfl,rfl⟩
    ·exact hh.inj id id' b h h'
    ·exact absurd (hh.lt h) (Nat.lt_irrefl _)
   ·rcases hnew id' _ h' with h' | ⟨rfl,_⟩
    ·exact absurd (hh.lt h') (Nat.lt_irrefl _)
    ·rfl
  ·rcases hnew id b h2 with h2 | ⟨rfl,rfl⟩
   ·obtain ⟨o',ho'⟩:=hh.ex h2
    have hl:id<H.length:=(zq1.1 ho').1
    rw [zq2 hl] at h1
    obtain ⟨vs',k1,k2,k3⟩:=hh.obj id b o h1 h2 ((hkeep.kind id b h2).symm.trans hk1)
    refine ⟨vs',(hp.old (heap_lt k1)).trans k1,k2,fun j c hj=>?_⟩
    obtain ⟨v,k4,k5⟩:=k3 j c hj
    refine ⟨v,k4,k5.mono hkeep fun b' ho hb=>?_⟩
    obtain ⟨n,cs,e',_,_,hf⟩:=k5.own ho hb
    exact hquiet b' (ownF_lt hf) hf.obj
   ·rw [kindAt_map hp.new] at hk1;cases hk1
  ·obtain ⟨h1,vs',e',fr',h2,h3⟩:=hh.imm b o h
   refine ⟨fun id hi=>?_,vs',e',fr',(hp.old (heap_lt h2)).trans h2,h3⟩
   rcases hnew id b hi with hi | ⟨_,rfl⟩
   ·exact h1 id hi
   ·exact absurd (heap_lt h2) (Nat.lt_irrefl _)
theorem Inv.storeMap (inv:Inv P g0 w0 H0 F0 N g w a E H) {w1:World} {id b:Nat} {ob:PObj} {es':Array MapEntry} {clock':Nat} {cs':List PV} (hid:H[id]? = some ob) (hi:g.ι[id]? = some (some b)) (hkd:kindAt w b=2)
  (hw:Writes w w1 b (.map es' clock')) (hm:Keeps g w g w1→MapR g w1 b ⟨ob.T,cs',ob.ver+1⟩) :
  Inv P g0 w0 H0 F0 N g w1 a E (H.set id ⟨ob.T,cs',ob.ver+1⟩):=by
 have hh:=inv.rel.h
 have hlt:id<H.length:=(zq1.1 hid).1
 have hkeep:Keeps g w g w1:=⟨fun _ _ h=>h,fun b' o h=>⟨h,cell?_of_heap (hw.far b' (fun e=>(hh.imm b' o h).1 id (e▸hi))) o⟩,fun _ b' _=>by
  by_cases e:b'=b
  ·subst e;exact (kindAt_map hw.here).trans hkd.symm
  ·exact kindAt_of_heap (hw.far b' e)⟩
 have hquiet:∀b',(∀(id:Nat),g.ι[id]?≠some (some b'))→Quiet g w g w1 b':=fun b' h=>⟨hw.far b' (fun e=>h id (e▸hi)),fun _ h=>h,h⟩
 have hother:∀id',id'≠id→(H.set id ⟨ob.T,cs',ob.ver+1⟩)[id']? = H[id']?:=fun id' h=>by rw [zqj (Ne.symm h)]
 have hthis:(H.set id ⟨ob.T,cs',ob.ver+1⟩)[id]? = some ⟨ob.T,cs',ob.ver+1⟩:=by simp [hlt]
 have hcell:∀id' j bb,cellOwnAt g w1 (H.set id ⟨ob.T,cs',ob.ver+1⟩) id' j bb→cellOwnAt g w H id' j bb:=by
  rintro id' j bb ⟨o,c,b0,v,h1,h2,h3,h4,h5,h6⟩
  by_cases e:id'=id
  ·subst e
   rw [hi] at h4;cases h4
   have:=cell_kind h5
   rw [kindAt_map hw.here] at this;cases this
  ·rw [hother id' e] at h1
   have hne:b0≠b:=fun e'=>e (hh.inj id' id b (e'▸h4) hi)
   exact ⟨o,c,b0,v,h1,h2,h3,h4,(cell?_of_heap (hw.far b0 hne) j).symm.trans h5,h6⟩
 refine inv.go hw.os hw.tape hw.output (by rw [hw.size];omega) hkeep (fun _ _ h=>.inl h) (fun b' hb h0 _=>⟨hw.far b' (fun e=>inv.iFar hi (e▸hb) (e▸h0)),fun _ h=>h⟩)
  ⟨fun id' o h=>?_,fun id' b' o o' hi' h1 h2 hv=>?_⟩ (fun t i b' h=>hquiet b' (inv.rel.own_lt h).2) ?_ (fun id' j bb h=>.inl (hcell id' j bb h)) (fun _ _ h=>h)
 ·by_cases e:id'=id
  ·subst e;rw [hid] at h;cases h;exact ⟨_,hthis,by simp⟩
  ·exact ⟨o,(hother id' e).trans h,zqn _⟩
 ·by_cases e:id'=id
  ·subst e;rw [hid] at h1;cases h1;rw [hthis] at h2;cases h2;simp at hv
  ·rw [hother id' e] at h2
   exact (hw.far b' (fun e'=>e (hh.inj id' id b (e'▸hi') hi)))
 ·refine ⟨by simp [hh.len],hh.inj,fun id' b' o h1 h2=>?_,fun id' b' o h1 h2 hk1=>?_,fun b' o h=>?_⟩
  ·by_cases e:id'=id
   ·subst e
    rw [hi] at h2;cases h2
    rw [hthis] at h1;cases h1
    exact .inr (hm hkeep)
   ·rw [hother id' e] at h1
    exact hh.fullKeep hkeep (hw.far b' (fun e'=>e (hh.inj id' id b (e'▸h2) hi))) h1 h2
  ·by_cases e:id'=id
   ·subst e
    rw [hi] at h2;cases h2
    rw [kindAt_map hw.here] at hk1;cases hk1
   ·rw [hother id' e] at h1
    obtain ⟨vs,k1,k2,k3⟩:=hh.obj id' b' o h1 h2 ((hkeep.kind id' b' h2).symm.trans hk1)
    refine ⟨vs,(hw.far b' (fun e'=>e (hh.inj id' id b (e'▸h2) hi))).trans k1,k2,fun j c hj=>?_⟩
    obtain ⟨v,k4,k5⟩:=k3 j c hj
    refine ⟨v,k4,k5.mono hkeep fun b'' h1 h2=>?_⟩
    obtain ⟨n,cs,e',_,_,hf⟩:=k5.own h1 h2
    exact hquiet b'' hf.obj
  ·obtain ⟨h1,vs,e,fr,h2,h3⟩:=hh.imm b' o h
   exact ⟨h1,vs,e,fr,(hw.far b' (fun e'=>h1 id (e'▸hi))).trans h2,h3⟩
/-! ### keys -/
def leafP:PV→Prop
 | .bool _=>True
 | .int _ _=>True
 | .str _=>True
 | _=>False
theorem leafP_val {c:PV} (hc:leafP c) {u v:Value} (hu:V g w u c) (hv:V g w v c):u=v:=by
 cases c <;> first | exact hc.elim | (cases hu;cases hv;rfl)
theorem leafP_same {c:PV} (hc:leafP c) {u:Value} (hu:V g w u c) (n:Nat):Instr.sameBits n u u=true:=by
 cases c <;> first | exact hc.elim | (cases hu;cases n <;> simp [Instr.sameBits,strV,(MapKept.bytes_beq _ _).2 rfl])
theorem leafs_fs {fit:Nat→List PV→Prop} (hf:∀t xs,fit t xs→∀c∈xs,leafP c):∀(fs:List (Nat×Nat)) (off:Nat) (xs:List PV),FitFs fit tt fs off xs→∀c∈xs,leafP c
 | [],_,xs,h=>by
  simp only [FitFs] at h;subst h;intro c hc;cases hc
 | (t,o)::r,off,xs,h=>by
  simp only [FitFs] at h
  obtain ⟨rfl,h⟩:=h
  split at h
  ·rename_i i hi
   obtain ⟨⟨h1,h2⟩,h3⟩:=h
   intro c hc
   rw [←List.take_append_drop i.sz xs] at hc
   rcases List.mem_append.1 hc with hc | hc
   ·exact hf _ _ h2 c hc
   ·exact leafs_fs hf r _ _ h3 c hc
  ·exact h.elim
theorem leafs_as {fit:List PV→Prop} (hf:∀xs,fit xs→∀c∈xs,leafP c) {sz:Nat}:∀(n:Nat) (xs:List PV),FitAs fit sz n xs→∀c∈xs,leafP c
 | 0,xs,h=>by
  simp only [FitAs] at h;subst h;intro c hc;cases hc
 | n+1,xs,h=>by
  simp only [FitAs] at h
  obtain ⟨⟨h1,h2⟩,h3⟩:=h
  intro c hc
  rw [←List.take_append_drop sz xs] at hc
  rcases List.mem_append.1 hc with hc | hc
  ·exact hf _ h2 c hc
  ·exact leafs_as hf n _ h3 c hc
theorem leafs_fit:∀(d T:Nat) (xs:List PV),FitP tt d T xs→∀c∈xs,leafP c
 | 0,_,_,h=>h.elim
 | d+1,T,xs,h=>by
  simp only [FitP] at h
  split at h
  ·rename_i i hi
   split at h
   ·obtain ⟨b,rfl⟩:=h;intro c hc;simp at hc;subst hc;trivial
   ·obtain ⟨b,rfl⟩:=h;intro c hc;simp at hc;subst hc;trivial
   ·obtain ⟨b,rfl⟩:=h;intro c hc;simp at hc;subst hc;trivial
   ·exact leafs_fs (fun t xs=>leafs_fit d t xs) _ _ _ h
   ·split at h
    ·exact leafs_as (fun xs=>leafs_fit d _ xs) _ _ h.2
    ·exact h.elim
   ·exact h.elim
  ·exact h.elim
def ChkRuns (P:Program) (tt:TT) (g:Gh) (w:World) (d:Nat):Prop :=
 ∀(em:Bool) (m T:Nat) (i:TI) (xs:List PV),tt.get T=some i→FitP tt d T xs→d≤m →
  (isAggT i=true→∀us:Array Value,us.size=xs.length→(∀(j:Nat) (c:PV),xs[j]? = some c→V g w (us.getD j undef) c)→(Instr.checkKey em m T (.agg us)).run P w=.ok () w) ∧
  (isAggT i=false→∃x,xs=[x]∧∀u,V g w u x→(Instr.checkKey em m T u).run P w=.ok () w)
theorem chkPart (hT:ttOk P tt=true) {d m:Nat} (ih:ChkRuns P tt g w d) (hm:d≤m) {us:Array Value} {XS:List PV} (hu:us.size=XS.length)
  (hU:∀(j:Nat) (c:PV),XS[j]? = some c→V g w (us.getD j undef) c) (em:Bool) {ft fo:Nat} {fi:TI} (hfi:tt.get ft=some fi) {xs:List PV} (ex:XS.drop fo=xs) (sx:fi.sz≤xs.length) (fx:FitP tt d ft (xs.take fi.sz)) (lx:fo≤XS.length) :
  ∃u,(part ft us fo).run P w=.ok u w∧(Instr.checkKey em m ft u).run P w=.ok () w:=by
 have hlx:fo+fi.sz≤XS.length:=by rw [←ex,List.length_drop] at sx;omega
 obtain ⟨p1,p2⟩:=ih em m ft fi (xs.take fi.sz) hfi fx hm
 cases ha:isAggT fi with
 | true =>
  obtain ⟨us',a1,a2,a3⟩:=run_part_agg (tis hT hfi) hu hU hlx ha
  rw [ex] at a3
  exact ⟨_,a1,p1 ha us' (by rw [a2,zqr];omega) a3⟩
 | false =>
  obtain ⟨x,q1,q3⟩:=p2 ha
  have gx:XS[fo]? = some x:=by
   have:(xs.take fi.sz)[0]? = some x:=by rw [q1];rfl
   rw [zqs] at this
   split at this
   ·rw [←ex,zqt] at this;simpa using this
   ·cases this
  have hp:=(tis hT hfi).pos
  exact ⟨_,run_part_one (tis hT hfi) (by omega) ha,q3 _ (hU _ _ gx)⟩
theorem chkFields (hT:ttOk P tt=true) {d m:Nat} (ih:ChkRuns P tt g w d) (hm:d≤m) {us:Array Value} {XS:List PV} (hu:us.size=XS.length)
  (hU:∀(j:Nat) (c:PV),XS[j]? = some c→V g w (us.getD j undef) c) (em:Bool) :
  ∀(gs:List Field) (fs:List (Nat×Nat)) (off:Nat) (xs:List PV),fieldsOk gs fs=true→XS.drop off=xs→off≤XS.length→FitFs (FitP tt d) tt fs off xs →
   ∀ f ∈ gs, f.name ≠ "_" ∧ ∃ u, (part f.type us f.offset).run P w = .ok u w ∧ (Instr.checkKey em m f.type u).run P w = .ok () w
 | [],[],off,xs,_,_,_,hx=>fun f hf=>by cases hf
 | f::gs,(ft,fo)::fs,off,xs,hf,ex,lx,hx=>by
  simp only [fieldsOk,zqb] at hf
  obtain ⟨⟨⟨h1,h2⟩,h3⟩,h4⟩:=hf
  have h1:=of_decide_eq_true h1
  have h2:=of_decide_eq_true h2
  have h3 : f.name ≠ "_" := by simpa using h3
  simp only [FitFs] at hx
  obtain ⟨rfl,hx⟩:=hx
  split at hx
  ·rename_i fi hfi
   obtain ⟨⟨sx,fx⟩,rx⟩:=hx
   have hlx:fo+fi.sz≤XS.length:=by rw [←ex,List.length_drop] at sx;omega
   intro f' hf'
   rcases List.mem_cons.1 hf' with rfl | hf'
   ·rw [h1,h2];exact ⟨h3,chkPart hT ih hm hu hU em hfi ex sx fx lx⟩
   ·exact chkFields hT ih hm hu hU em gs fs (fo+fi.sz) (xs.drop fi.sz) h4 (by rw [←ex,List.drop_drop]) hlx rx f' hf'
  ·exact hx.elim
 | [],_::_,_,_,h,_,_,_=>by cases h
 | _::_,[],_,_,h,_,_,_=>by cases h
theorem chkItems (hT:ttOk P tt=true) {d m e:Nat} {ei:TI} (he:tt.get e=some ei) (ih:ChkRuns P tt g w d) (hm:d≤m) {us:Array Value} {XS:List PV} (hu:us.size=XS.length)
  (hU:∀(j:Nat) (c:PV),XS[j]? = some c→V g w (us.getD j undef) c) (em:Bool) :
  ∀(n k:Nat) (xs:List PV),XS.drop (k*ei.sz)=xs→k*ei.sz≤XS.length→FitAs (FitP tt d e) ei.sz n xs →
   ∀j∈List.range' k n,∃u,(part e us (j*ei.sz)).run P w=.ok u w∧(Instr.checkKey em m e u).run P w=.ok () w
 | 0,k,xs,_,_,_=>fun j hj=>by simp at hj
 | n+1,k,xs,ex,lx,hx=>by
  simp only [FitAs] at hx
  obtain ⟨⟨sx,fx⟩,rx⟩:=hx
  have hlx:k*ei.sz+ei.sz≤XS.length:=by rw [←ex,List.length_drop] at sx;omega
  intro j hj
  rw [List.range'_succ] at hj
  rcases List.mem_cons.1 hj with rfl | hj
  ·exact chkPart hT ih hm hu hU em he ex sx fx lx
  ·exact chkItems hT he ih hm hu hU em n (k+1) (xs.drop ei.sz) (by rw [←ex,List.drop_drop,Nat.succ_mul]) (by rw [Nat.succ_mul];exact hlx) rx j hj
theorem chkRuns (hT:ttOk P tt=true):∀d,ChkRuns P tt g w d
 | 0=>fun _ m T i xs _ hx _=>hx.elim
 | d+1=>fun em m T i xs hi hx hm=>by
  obtain ⟨m,rfl⟩:∃k,m=k+1:=⟨m - 1,by omega⟩
  have ih:=chkRuns hT d
  simp only [FitP,hi] at hx
  refine ⟨fun ha us hu hU=>?_,fun ha=>?_⟩
  ·cases hk:i.k <;> simp only [hk] at hx <;> simp [isAggT,hk] at ha
   case strct fs =>
    obtain ⟨gs,h1,h2,h3⟩:=(tis hT hi).strct hk
    have hF:=chkFields hT ih (Nat.le_of_succ_le_succ hm) hu hU em gs.toList fs 0 xs h2 rfl (Nat.zero_le _) hx
    rw [Instr.checkKey]
    simp only [Sem.run_bind,run_underlying h1,Result.andThen_ok]
    rw [←Array.forIn_toList]
    generalize gs.toList=L at hF
    induction L with
    | nil=>simp
    | cons f L ihL =>
     obtain ⟨hn,u,p1,p2⟩:=hF f (by simp)
     simp only [List.forIn_cons,Sem.run_bind,hn,ne_eq,not_false_eq_true,if_true,Result.andThen_ok,p1,p2,Sem.run_pure]
     exact ihL (fun y hy=>hF y (by simp [hy]))
   case arr n e =>
    cases he:tt.get e with
    | none=>rw [he] at hx;exact hx.elim
    | some ei =>
     rw [he] at hx
     obtain ⟨ti,z,k1,k2,_⟩:=(tis hT he).ex
     have hF:=chkItems hT he ih (Nat.le_of_succ_le_succ hm) hu hU em n 0 xs (by simp) (by simp) hx.2
     rw [Instr.checkKey]
     simp only [Sem.run_bind,run_underlying ((tis hT hi).arr hk),Result.andThen_ok]
     simp only [Std.Legacy.Range.forIn_eq_forIn_range',Std.Legacy.Range.size,Nat.sub_zero,Nat.add_one_sub_one,Nat.div_one]
     generalize List.range' 0 n=is at hF
     induction is with
     | nil=>simp
     | cons j is ihL =>
      obtain ⟨u,p1,p2⟩:=hF j (by simp)
      simp only [List.forIn_cons,Sem.run_bind,(tis hT he).run_sizeOf w,Result.andThen_ok,p1,p2,Sem.run_pure]
      exact ihL (fun y hy=>hF y (by simp [hy]))
  ·cases hk:i.k <;> simp only [hk] at hx <;> simp [isAggT,hk] at ha
   case bool =>
    obtain ⟨b,rfl⟩:=hx
    refine ⟨_,rfl,fun u hu=>?_⟩
    cases hu
    rw [Instr.checkKey];simp [run_underlying ((tis hT hi).bool hk)]
   case int k =>
    obtain ⟨b,rfl⟩:=hx
    refine ⟨_,rfl,fun u hu=>?_⟩
    cases hu
    rw [Instr.checkKey];simp [run_underlying ((tis hT hi).int hk)]
   case str =>
    obtain ⟨b,rfl⟩:=hx
    refine ⟨_,rfl,fun u hu=>?_⟩
    cases hu
    rw [Instr.checkKey];simp [run_underlying ((tis hT hi).str hk),strV]
theorem keyFit_chk (hT:ttOk P tt=true) {kt:Nat} {k:PV} (hk:keyFit tt kt k) {v:Value} (hv:V g w v k) (em:Bool):(Instr.checkKey em 10000 kt v).run P w=.ok () w:=by
 unfold keyFit at hk
 split at hk
 ·rename_i i hi
  split at hk
  ·rename_i ha
   split at hk
   ·rename_i xs
    cases hv with
    | agg vs cs h1 h2=>exact (chkRuns hT 6 em 10000 kt i xs hi hk (by omega)).1 ha vs h1 h2
   ·exact hk.elim
  ·rename_i ha
   obtain ⟨x,e1,e2⟩:=(chkRuns (g:=g) (w:=w) hT 6 em 10000 kt i [k] hi hk (by omega)).2 ha
   cases e1
   exact e2 v hv
 ·exact hk.elim
theorem keyFit_eq (hT:ttOk P tt=true) {kt:Nat} {k k':PV} (hk:keyFit tt kt k) (hk':keyFit tt kt k') {v v':Value} (hv:V g w v k) (hv':V g w v' k') :
  ∃b,(Op.equal kt v v').run P w=.ok b w∧(b=true↔k=k'):=by
 unfold keyFit at hk hk'
 split at hk
 ·rename_i i hi
  simp only [hi] at hk'
  split at hk
  ·rename_i ha
   simp only [ha] at hk'
   split at hk
   ·rename_i xs
    split at hk'
    ·rename_i ys
     cases hv with
     | agg us cs h1 h2 =>
      cases hv' with
      | agg vs ds h3 h4 =>
       obtain ⟨b,e1,e2⟩:=(eqRuns (g:=g) (w:=w) hT 6 Op.maxDepth kt i xs ys hi hk hk' (by decide)).1 ha us vs h1 h3 h2 h4
       exact ⟨b,e1,e2.trans ⟨fun h=>by rw [h],fun h=>by cases h;rfl⟩⟩
    ·exact hk'.elim
   ·exact hk.elim
  ·rename_i ha
   simp only [ha] at hk'
   obtain ⟨x,y,e1,e2,e3⟩:=(eqRuns (g:=g) (w:=w) hT 6 Op.maxDepth kt i [k] [k'] hi hk hk' (by decide)).2 ha
   cases e1;cases e2
   obtain ⟨b,e4,e5⟩:=e3 v v' hv hv'
   exact ⟨b,e4,e5.trans ⟨fun h=>by cases h;rfl,fun h=>by rw [h]⟩⟩
 ·exact hk.elim
theorem keyFit_now (hT:ttOk P tt=true) {kt:Nat} {i:TI} (hi:tt.get kt=some i) (ha:isAggT i=false) {k:PV} (hk:keyFit tt kt k) :
  ∃d,P.underlying kt=some d∧∀(k':PV),keyFit tt kt k'→∀(v v':Value),V g w v k→V g w v' k'→∃b,Instr.sameNow d v v'=some b∧(b=true↔k=k'):=by
 unfold keyFit at hk
 simp only [hi,ha] at hk
 have hf:∀k',keyFit tt kt k'→FitP tt 6 kt [k']:=fun k' h=>by unfold keyFit at h;simp only [hi,ha] at h;exact h
 simp only [FitP,hi] at hk
 cases hkk:i.k <;> simp only [hkk] at hk <;> simp [isAggT,hkk] at ha
 case bool =>
  obtain ⟨b,hb⟩:=hk;cases hb
  refine ⟨_,(tis hT hi).bool hkk,fun k' h' v v' hv hv'=>?_⟩
  have h':=hf k' h'
  simp only [FitP,hi,hkk] at h'
  obtain ⟨c,hc⟩:=h';cases hc
  cases hv;cases hv'
  exact ⟨_,rfl,by simp⟩
 case int q =>
  obtain ⟨b,hb⟩:=hk;cases hb
  refine ⟨_,(tis hT hi).int hkk,fun k' h' v v' hv hv'=>?_⟩
  have h':=hf k' h'
  simp only [FitP,hi,hkk] at h'
  obtain ⟨c,hc⟩:=h';cases hc
  cases hv;cases hv'
  exact ⟨b==c,by simp [Instr.sameNow],by simp⟩
 case str =>
  obtain ⟨b,hb⟩:=hk;cases hb
  refine ⟨_,(tis hT hi).str hkk,fun k' h' v v' hv hv'=>?_⟩
  have h':=hf k' h'
  simp only [FitP,hi,hkk] at h'
  obtain ⟨c,hc⟩:=h';cases hc
  cases hv;cases hv'
  exact ⟨_,rfl,(MapKept.bytes_beq _ _).trans ⟨fun h=>by cases h;rfl,fun h=>by cases h;rfl⟩⟩
def FindOk (g:Gh) (w:World) (es:List MapEntry) (cs:List PV) (k:PV) (i:Nat) (K:Option (Nat×PV)→Prop) (r:Option (Nat×Value)):Prop:=match r with
 | none=>K none
 | some (j,v)=>∃n p e,j=i+n∧es[n]? = some e∧v=e.val∧V g w v p∧V g w e.key k∧cs[2*n]? = some k∧cs[2*n+1]? = some p∧K (some (j,p))
theorem FindOk.cons {es:List MapEntry} {cs:List PV} {k:PV} {i:Nat} {K:Option (Nat×PV)→Prop} {r:Option (Nat×Value)} (h:FindOk g w es cs k (i+1) K r) (e:MapEntry) (k' v':PV):FindOk g w (e::es) (k'::v'::cs) k i K r:=by
 unfold FindOk at h ⊢
 split
 ·exact h
 ·obtain ⟨n,p,e,h1,h2,h3,h4,h5,h6,h7,h8⟩:=h
  exact ⟨n+1,p,e,by omega,by simpa using h2,h3,h4,h5,by rw [show 2*(n+1)=2*n+1+1 by omega];simpa using h6,by rw [show 2*(n+1)+1=(2*n+1)+1+1 by omega];simpa using h7,h8⟩
def EntsOk (g:Gh) (w:World):List MapEntry→List PV→Prop
 | [],[]=>True
 | e::es,k::v::cs=>V g w e.key k∧V g w e.val v∧EntsOk g w es cs
 | _,_=>False
theorem entsOk_of:∀(es:List MapEntry) (cs:List PV),cs.length=2*es.length→(∀(i:Nat) (e:MapEntry),es[i]? = some e→∃k v,cs[2*i]? = some k∧cs[2*i+1]? = some v∧V g w e.key k∧V g w e.val v)→EntsOk g w es cs
 | [],[],_,_=>trivial
 | [],_::_,h,_=>by simp at h
 | e::es,[],h,_=>by simp at h
 | e::es,[_],h,_=>by simp at h;omega
 | e::es,k::v::cs,h,hh=>by
  obtain ⟨k',v',h1,h2,h3,h4⟩:=hh 0 e rfl
  have h1:k=k':=by simpa using h1
  have h2:v=v':=by simpa using h2
  subst h1;subst h2
  refine ⟨h3,h4,entsOk_of es cs (by simp at h;omega) fun i e' hi=>?_⟩
  obtain ⟨k',v',a1,a2,a3⟩:=hh (i+1) e' (by simpa using hi)
  exact ⟨k',v',by rw [show 2*(i+1)=2*i+1+1 by omega] at a1;simpa using a1,by rw [show 2*(i+1)+1=(2*i+1)+1+1 by omega] at a2;simpa using a2,a3⟩
theorem findAsk_ok (hT:ttOk P tt=true) {kt:Nat} {k:PV} (hk:keyFit tt kt k) {kv:Value} (hv:V g w kv k) {K:Option (Nat×PV)→Prop} :
  ∀(es:List MapEntry) (cs:List PV) (i:Nat),keysFit tt kt cs→EntsOk g w es cs→mapFind k i cs K→∃r,(Instr.findAsking kt kv es i).run P w=.ok r w∧FindOk g w es cs k i K r
 | [],[],i,_,_,hm=>⟨none,rfl,hm⟩
 | e::es,k'::v::cs,i,hf,he,hm=>by
  obtain ⟨h1,h2,h3⟩:=he
  simp only [keysFit] at hf
  obtain ⟨b,e1,e2⟩:=keyFit_eq hT hk hf.1 hv h1
  simp only [mapFind] at hm
  by_cases hkk:k=k'
  ·subst hkk
   have hb:b=true:=e2.2 rfl
   subst hb
   refine ⟨some (i,e.val),by simp [Instr.findAsking,e1],0,v,e,rfl,rfl,rfl,h2,h1,rfl,rfl,hm.1 rfl⟩
  ·have hb:b=false:=by
    cases b with
    | false=>rfl
    | true=>exact absurd (e2.1 rfl) hkk
   subst hb
   obtain ⟨r,r1,r2⟩:=findAsk_ok hT hk hv es cs (i+1) hf.2 h3 (hm.2 hkk)
   exact ⟨r,by simp [Instr.findAsking,e1,r1],r2.cons e k' v⟩
 | [],_::_,_,_,he,_=>he.elim
 | _::_,[],_,_,he,_=>he.elim
 | _::_,[_],_,_,he,_=>he.elim
theorem findNow_ok {kt:Nat} {k:PV} {kv:Value} {d:TypeDesc} (hs:∀(k':PV),keyFit tt kt k'→∀(v':Value),V g w v' k'→∃b,Instr.sameNow d kv v'=some b∧(b=true↔k=k')) {K:Option (Nat×PV)→Prop} :
  ∀(es:List MapEntry) (cs:List PV) (i:Nat),keysFit tt kt cs→EntsOk g w es cs→mapFind k i cs K→∃r,Instr.findNow d kv es i=some r∧FindOk g w es cs k i K r
 | [],[],i,_,_,hm=>⟨none,rfl,hm⟩
 | e::es,k'::v::cs,i,hf,he,hm=>by
  obtain ⟨h1,h2,h3⟩:=he
  simp only [keysFit] at hf
  obtain ⟨b,e1,e2⟩:=hs k' hf.1 _ h1
  simp only [mapFind] at hm
  by_cases hkk:k=k'
  ·subst hkk
   have hb:b=true:=e2.2 rfl
   subst hb
   refine ⟨some (i,e.val),by simp [Instr.findNow,e1],0,v,e,rfl,rfl,rfl,h2,h1,rfl,rfl,hm.1 rfl⟩
  ·have hb:b=false:=by
    cases b with
    | false=>rfl
    | true=>exact absurd (e2.1 rfl) hkk
   subst hb
   obtain ⟨r,r1,r2⟩:=findNow_ok hs es cs (i+1) hf.2 h3 (hm.2 hkk)
   exact ⟨r,by simp [Instr.findNow,e1,r1],r2.cons e k' v⟩
 | [],_::_,_,_,he,_=>he.elim
 | _::_,[],_,_,he,_=>he.elim
 | _::_,[_],_,_,he,_=>he.elim
theorem findKey_ok (hT:ttOk P tt=true) {kt:Nat} {k:PV} (hk:keyFit tt kt k) {kv:Value} (hv:V g w kv k) {K:Option (Nat×PV)→Prop} {es:List MapEntry} {cs:List PV} (hf:keysFit tt kt cs)
  (he:EntsOk g w es cs) (hm:mapFind k 0 cs K):∃r,(Instr.findKey kt kv es).run P w=.ok r w∧FindOk g w es cs k 0 K r:=by
 have hk0:=hk
 unfold keyFit at hk0
 split at hk0
 ·rename_i i hi
  cases ha:isAggT i with
  | true =>
   have hwide:(match P.underlying kt with | some (.array _ _) | some (.struct _)=>true | _=>false)=true:=by
    simp only [ha] at hk0
    split at hk0
    ·simp only [FitP,hi] at hk0
     cases hkk:i.k <;> simp only [hkk] at hk0 <;> simp [isAggT,hkk] at ha
     case strct fs=>obtain ⟨gs,h1,_⟩:=(tis hT hi).strct hkk;rw [h1]
     case arr n e=>rw [(tis hT hi).arr hkk]
    ·exact hk0.elim
   rw [run_findKey_eq w hwide]
   exact findAsk_ok hT hk hv es cs 0 hf he hm
  | false =>
   obtain ⟨d,h1,h2⟩:=keyFit_now (g:=g) (w:=w) hT hi ha hk
   obtain ⟨r,r1,r2⟩:=findNow_ok (d:=d) (fun k' hk' v' hv'=>h2 k' hk' kv v' hv hv') es cs 0 hf he hm
   exact ⟨r,MapKept.run_findKey h1 r1,r2⟩
 ·exact hk0.elim
theorem keyStays_ok {kt:Nat} {k:PV} (hk:keyFit tt kt k) {u v:Value} (hu:V g w u k) (hv:V g w v k):(Instr.keyThatStays u v).run P w=.ok v w:=by
 have hs:Instr.sameBits 10000 u v=true:=by
  unfold keyFit at hk
  split at hk
  ·rename_i i hi
   split at hk
   ·split at hk
    ·rename_i xs
     cases hu with
     | agg us cs h1 h2 =>
      cases hv with
      | agg vs ds h3 h4 =>
       have hl:=leafs_fit 6 kt xs hk
       have:us=vs:=by
        apply Array.ext (by rw [h1,h3])
        intro j hj hj'
        have hlt:j<xs.length:=by omega
        have hc:xs[j]? = some xs[j]:=zqc hlt
        have a1:=h2 j _ hc
        have a2:=h4 j _ hc
        rw [Array.getD_eq_getD_getElem?,Array.getElem?_eq_getElem hj] at a1
        rw [Array.getD_eq_getD_getElem?,Array.getElem?_eq_getElem hj'] at a2
        exact leafP_val (hl _ (List.getElem_mem hlt)) a1 a2
       subst this
       rw [show (10000:Nat)=9999+1 from rfl,Instr.sameBits]
       simp only [beq_self_eq_true,zq5]
       rw [List.all_eq_true]
       rintro ⟨x,y⟩ hxy
       obtain ⟨j,hj,he⟩:=List.mem_iff_getElem.1 hxy
       simp only [List.getElem_zip,Prod.mk.injEq] at he
       obtain ⟨rfl,rfl⟩:=he
       have hj':j<us.size:=by simpa using hj
       have hlt:j<xs.length:=by omega
       have a1:=h2 j _ (zqc hlt)
       rw [Array.getD_eq_getD_getElem?,Array.getElem?_eq_getElem hj'] at a1
       simp only [Array.getElem_toList]
       exact leafP_same (hl _ (List.getElem_mem hlt)) a1 _
    ·exact hk.elim
   ·have hl:=leafs_fit 6 kt [k] hk k (by simp)
    have:=leafP_val hl hu hv
    subst this
    exact leafP_same hl hu _
  ·exact hk.elim
 simp [Instr.keyThatStays,hs]
/-! ### the operations -/
theorem op_makeMap {T:Nat} {o:Oper} {K:KK} (ho:o.op=.makeMap T none) (inv:Inv P g0 w0 H0 F0 N g w a E H) (hq:QRel a g w q) (hp:pOp P tt imm E q H o K) :
  OpS P g0 w0 H0 F0 N a w o K:=by
 simp only [pOp,ho] at hp
 intro next Q' hn
 refine wp_value (w':=w.alloc (.map #[] 0)) (v:=.map (some w.heap.size)) ?_ (hn _ _ _ _ _ _ _ _ (Post.ofV (inv.pushMap (Pushes.alloc w _)) (.mref _ _ (by rw [←inv.rel.h.len];simp) (kindAt_map (Pushes.alloc w _).new)) hq.slots) hp)
 simp [execOp,ho,Instr.makeMap,newObj,Sem.run]
theorem mapR_ents {b:Nat} {ob:PObj} (h:MapR g w b ob):∃(es:Array MapEntry) (clock:Nat),w.heap[b]? = some (.map es clock)∧EntsOk g w es.toList ob.cs:=by
 obtain ⟨es,clock,h1,h2,h3,_⟩:=h
 refine ⟨es,clock,h1,entsOk_of _ _ (by simpa using h2) fun i e hi=>?_⟩
 obtain ⟨k,v,a1,a2,a3,a4,_⟩:=h3 i e (by simpa using hi)
 exact ⟨k,v,a1,a2,a3,a4⟩
theorem post_pair (inv:Inv P g0 w0 H0 F0 N g w a E H) (hq:QRel a g w q) {v:Value} {p:PV} (hv:V g w v p) (b:Bool):Post P g0 w0 H0 F0 N a g w E q H (.tuple #[v,.bool b]) (.tup [dem p,.bool b]) none:=by
 have hno:∀i bb,¬ownAt (.tuple #[v,.bool b]) (.tup [dem p,.bool b]) i bb:=by
  rintro i bb ⟨c,h1,h2,_⟩
  match i,h1 with
  | 0,h1=>simp at h1;subst h1;rw [dem_own] at h2;cases h2
  | 1,h1=>simp at h1;subst h1;cases h2
  | _+2,h1=>simp at h1
 refine ⟨inv,⟨_,rfl,rfl,fun j c hj=>?_⟩,fun i bb h=>absurd h (hno i bb),fun i _ bb h=>absurd h (hno i bb),hq,fun _ h=>by cases h⟩
 match j,hj with
 | 0,hj=>simp at hj;subst hj;exact .inl hv.dem
 | 1,hj=>simp at hj;subst hj;exact .inl (.bool b)
 | _+2,hj=>simp at hj
theorem key_V (inv:Inv P g0 w0 H0 F0 N g w a E H) {kt:Nat} {k:Operand} (hkf:keyFit tt kt (opnd E k)):V g w (a.eval k) (opnd E k):=by
 have h:=opnd_VC inv.rel k
 generalize opnd E k=pk at h hkf
 unfold keyFit at hkf
 split at hkf
 ·split at hkf
  ·split at hkf
   ·exact VC.V' h (by simp) rfl
   ·exact hkf.elim
  ·have hl:=leafs_fit 6 kt [pk] hkf pk (by simp)
   cases pk <;> first | exact hl.elim | exact VC.V' h (by simp) rfl
 ·exact hkf.elim
theorem op_lookup {T:Nat} {m k:Operand} {cok:Bool} {o:Oper} {K:KK} (hT:ttOk P tt=true) (ho:o.op=.lookup T m k cok) (inv:Inv P g0 w0 H0 F0 N g w a E H) (hq:QRel a g w q) (hp:pOp P tt imm E q H o K) :
  OpS P g0 w0 H0 F0 N a w o K:=by
 simp only [pOp,ho] at hp
 split at hp
 ·rename_i id hm
  obtain ⟨b,hvb,hib,hkd⟩:=(opnd_V inv hm (by simp) rfl).inv_mref
  split at hp
  ·rename_i ob hob
   obtain ⟨es,clock,hbm,hents⟩:=mapR_ents (inv.rel.h.mapR hob hib hkd)
   split at hp
   ·rename_i i hi
    split at hp
    ·rename_i kt et hk
     have hu:=(tis hT hi).map hk
     split at hp
     ·rename_i ei hei
      obtain ⟨⟨hkf,hks⟩,hp⟩:=hp
      have hkv:=key_V inv hkf
      obtain ⟨r,r1,r2⟩:=findKey_ok hT hkf hkv hks hents hp
      cases r with
      | none =>
       have hr:∀z,(zeroValue et).run P w=.ok z w→(execOp a.eval o).run P w=.ok (.value (if cok then .tuple #[z,.bool false] else z)) w:=fun z z1=>by
        simp only [execOp,ho,hvb,Instr.lookup]
        simp [run_underlying hu,run_getObj_mapP hbm,keyFit_chk hT hkf hkv,r1,z1]
       cases cok with
       | true =>
        have r2:zeroOf ei (fun z=>K (.tup [dem z,.bool false]) none E q H):=r2
        obtain ⟨z,p,z1,z2,z3⟩:=(tis hT hei).run_zeroV (g:=g) w r2
        exact fun next Q' hn=>wp_value (hr z z1) (hn _ _ _ _ _ _ _ _ (post_pair inv hq z2 false) z3)
       | false =>
        have r2:zeroOf ei (fun z=>frc (dem z) fun z=>K z none E q H):=r2
        obtain ⟨z,p,z1,z2,z3⟩:=(tis hT hei).run_zeroV (g:=g) w r2
        rw [frc_eq] at z3
        exact OpS.val inv hq (hr z z1) z2.dem z3
      | some x =>
       obtain ⟨j,v⟩:=x
       obtain ⟨n,p,e,_,_,hev,hvp,_,_,_,h8⟩:=r2
       have hr:(execOp a.eval o).run P w=.ok (.value (if cok then .tuple #[v,.bool true] else v)) w:=by
        simp only [execOp,ho,hvb,Instr.lookup]
        simp [run_underlying hu,run_getObj_mapP hbm,keyFit_chk hT hkf hkv,r1]
       cases cok with
       | true=>exact fun next Q' hn=>wp_value hr (hn _ _ _ _ _ _ _ _ (post_pair inv hq hvp true) h8)
       | false =>
        simp only [frc_eq] at h8
        exact OpS.val inv hq hr hvp.dem h8
     ·exact hp.elim
    ·exact hp.elim
   ·exact hp.elim
  ·exact hp.elim
 ·exact hp.elim
theorem writes_setMap {b:Nat} {o o':Obj} (h:w.heap[b]? = some o):Writes w { w with heap:=w.heap.setIfInBounds b o' } b o':=by
 obtain ⟨h1,h2⟩:=MapKept.heap_set (o':=o') h
 exact ⟨h1,h2,by simp,rfl,rfl,rfl⟩
theorem mapR_modify {b n:Nat} {ob:PObj} {es:Array MapEntry} {clock:Nat} {e:MapEntry} {k v:PV} {kv vv:Value} (h:MapR g w b ob) (hb:w.heap[b]? = some (.map es clock)) (he:es[n]? = some e) (hk:ob.cs[2*n]? = some k)
  (hp:∃p,ob.cs[2*n+1]? = some p) (hkv:V g w kv k) (hvv:V g w vv v) {w1:World} (hw:Writes w w1 b (.map (es.modify n fun e=>{ e with key:=kv,val:=vv }) clock)) (hkeep:Keeps g w g w1) :
  MapR g w1 b ⟨ob.T,setCells (2*n+1) [v] ob.cs,ob.ver+1⟩:=by
 obtain ⟨es',clock',h1,h2,h3,h4⟩:=h
 rw [hb] at h1;cases h1
 obtain ⟨p,hp⟩:=hp
 have hlt:2*n+1+[v].length≤ob.cs.length:=by have:=(zq1.1 hp).1;simp;omega
 have hget:=setCells_get (2*n+1) [v] ob.cs hlt
 have hmod:∀(i:Nat) (e':MapEntry),(es.modify n fun e=>{ e with key:=kv,val:=vv })[i]? = some e'→∃e0,es[i]? = some e0∧e'.born=e0.born∧((i=n∧e'.key=kv∧e'.val=vv)∨(i≠n∧e'=e0)):=fun i e' hi=>by
  rw [Array.getElem?_modify] at hi
  by_cases hin:n=i
  ·subst hin
   rw [zqp rfl,he] at hi
   simp at hi
   subst hi
   exact ⟨e,he,rfl,.inl ⟨rfl,rfl,rfl⟩⟩
  ·rw [zqo hin] at hi
   exact ⟨e',hi,rfl,.inr ⟨fun h=>hin h.symm,rfl⟩⟩
 refine ⟨_,_,hw.here,by rw [setCells_length _ _ _ hlt];simpa using h2,fun i e' hi=>?_,fun i j e' f' hij hi hj=>?_⟩
 ·obtain ⟨e0,g1,g2,g3⟩:=hmod i e' hi
  obtain ⟨k',v',a1,a2,a3,a4,a5⟩:=h3 i e0 g1
  rcases g3 with ⟨rfl,g3,g4⟩ | ⟨g3,rfl⟩
  ·refine ⟨k,v,?_,?_,by rw [g3];exact hkv.mono hkeep,by rw [g4];exact hvv.mono hkeep,by rw [g2];exact a5⟩
   ·show (setCells _ _ _)[_]? = _
    rw [hget,zqo (by simp;omega)];exact hk
   ·show (setCells _ _ _)[_]? = _
    rw [hget,zqp (by simp)];simp
  ·refine ⟨k',v',?_,?_,a3.mono hkeep,a4.mono hkeep,a5⟩
   ·show (setCells _ _ _)[_]? = _
    rw [hget,zqo (by simp;omega)];exact a1
   ·show (setCells _ _ _)[_]? = _
    rw [hget,zqo (by simp;omega)];exact a2
 ·obtain ⟨e0,g1,g2,_⟩:=hmod i e' hi
  obtain ⟨f0,g4,g5,_⟩:=hmod j f' hj
  rw [g2,g5]
  exact h4 i j e0 f0 hij g1 g4
theorem mapR_push {b:Nat} {ob:PObj} {es:Array MapEntry} {clock:Nat} {k v:PV} {kv vv:Value} (h:MapR g w b ob) (hb:w.heap[b]? = some (.map es clock))
  (hkv:V g w kv k) (hvv:V g w vv v) {w1:World} (hw:Writes w w1 b (.map (es.push { key:=kv,val:=vv,born:=clock }) (clock+1))) (hkeep:Keeps g w g w1) :
  MapR g w1 b ⟨ob.T,ob.cs++[k,v],ob.ver+1⟩:=by
 obtain ⟨es',clock',h1,h2,h3,h4⟩:=h
 rw [hb] at h1;cases h1
 have hcase:∀(i:Nat) (e':MapEntry),(es.push { key:=kv,val:=vv,born:=clock })[i]? = some e'→(i<es.size∧es[i]? = some e')∨(i=es.size∧e'={ key:=kv,val:=vv,born:=clock }):=fun i e' hi=>by
  rw [Array.getElem?_push] at hi
  split at hi
  ·rename_i h;cases hi;exact .inr ⟨h,rfl⟩
  ·exact .inl ⟨(Array.getElem?_eq_some_iff.1 hi).1,hi⟩
 refine ⟨_,_,hw.here,by simp;omega,fun i e' hi=>?_,fun i j e' f' hij hi hj=>?_⟩
 ·rcases hcase i e' hi with ⟨hl,hi⟩ | ⟨rfl,rfl⟩
  ·obtain ⟨k',v',a1,a2,a3,a4,a5⟩:=h3 i e' hi
   exact ⟨k',v',by show (ob.cs++_)[_]? = _;rw [zq2 (by omega)];exact a1,by show (ob.cs++_)[_]? = _;rw [zq2 (by omega)];exact a2,a3.mono hkeep,a4.mono hkeep,by omega⟩
  ·refine ⟨k,v,?_,?_,hkv.mono hkeep,hvv.mono hkeep,Nat.lt_succ_self _⟩
   ·show (ob.cs++_)[_]? = _
    rw [zqi (by omega),h2];simp
   ·show (ob.cs++_)[_]? = _
    rw [zqi (by omega),h2,show 2*es.size+1 - 2*es.size=1 by omega];rfl
 ·rcases hcase i e' hi with ⟨hl,hi⟩ | ⟨rfl,rfl⟩
  ·rcases hcase j f' hj with ⟨hl',hj⟩ | ⟨rfl,rfl⟩
   ·exact h4 i j e' f' hij hi hj
   ·obtain ⟨_,_,_,_,_,_,a5⟩:=h3 i e' hi
    exact a5
  ·rcases hcase j f' hj with ⟨hl',hj⟩ | ⟨rfl,rfl⟩
   ·omega
   ·omega
theorem op_mapUpdate {T:Nat} {m k x:Operand} {o:Oper} {K:KK} (hT:ttOk P tt=true) (ho:o.op=.mapUpdate T m k x) (inv:Inv P g0 w0 H0 F0 N g w a E H) (hq:QRel a g w q) (hp:pOp P tt imm E q H o K) :
  OpS P g0 w0 H0 F0 N a w o K:=by
 simp only [pOp,ho] at hp
 split at hp
 ·rename_i id hm
  obtain ⟨b,hvb,hib,hkd⟩:=(opnd_V inv hm (by simp) rfl).inv_mref
  split at hp
  ·rename_i ob hob
   have hmr:=inv.rel.h.mapR hob hib hkd
   obtain ⟨es,clock,hbm,hents⟩:=mapR_ents hmr
   split at hp
   ·rename_i i hi
    split at hp
    ·rename_i kt et hk
     have hu:=(tis hT hi).map hk
     obtain ⟨⟨hkf,hks⟩,hp⟩:=hp
     obtain ⟨hnu,hp⟩:=frcd_eq hp
     have hkv:=key_V inv hkf
     have hxv:V g w (a.eval x) (dem (opnd E x)):=(opnd_VC inv.rel x).dem
     obtain ⟨r,r1,r2⟩:=findKey_ok hT hkf hkv hks hents hp
     cases r with
     | none =>
      have r2:K .undef none E (qslots q) (setH id ob (ob.cs++[opnd E k,dem (opnd E x)]) H):=r2
      have hw:=writes_setMap (o':=.map (es.push { key:=a.eval k,val:=a.eval x,born:=clock }) (clock+1)) hbm
      intro next Q' hn
      refine wp_skip (w':={ w with heap:=w.heap.setIfInBounds b (.map (es.push { key:=a.eval k,val:=a.eval x,born:=clock }) (clock+1)) }) ?_
       (hn _ _ _ _ _ _ _ _ (Post.ofV (inv.storeMap hob hib hkd hw (fun hkeep=>mapR_push hmr hbm hkv hxv hw hkeep)) (.undef _) hq.slots) r2)
      simp only [execOp,ho,hvb,Instr.mapUpdate]
      simp [run_underlying hu,run_getObj_mapP hbm,keyFit_chk hT hkf hkv,r1,MapKept.run_setObj_map _ hbm]
     | some y =>
      obtain ⟨j,v⟩:=y
      obtain ⟨n,p,e,hj,hen,hev,hvp,hek,hck,hcp,r2⟩:=r2
      obtain rfl:j=n:=by omega
      have r2:K .undef none E (qslots q) (setH id ob (setCells (2*j+1) [dem (opnd E x)] ob.cs) H):=r2
      have hen:es[j]? = some e:=by simpa using hen
      have hw:=writes_setMap (o':=.map (es.modify j fun e=>{ e with key:=a.eval k,val:=a.eval x }) clock) hbm
      intro next Q' hn
      refine wp_skip (w':={ w with heap:=w.heap.setIfInBounds b (.map (es.modify j fun e=>{ e with key:=a.eval k,val:=a.eval x }) clock) }) ?_
       (hn _ _ _ _ _ _ _ _ (Post.ofV (inv.storeMap hob hib hkd hw (fun hkeep=>mapR_modify hmr hbm hen hck ⟨p,hcp⟩ hkv hxv hw hkeep)) (.undef _) hq.slots) r2)
      simp only [execOp,ho,hvb,Instr.mapUpdate]
      simp [run_underlying hu,run_getObj_mapP hbm,keyFit_chk hT hkf hkv,r1,hen,keyStays_ok hkf hek hkv,MapKept.run_setObj_map _ hbm]
    ·exact hp.elim
   ·exact hp.elim
  ·exact hp.elim
 ·exact hp.elim
end
end Ps
/- PSem, part 15: calls; every operation; regions. -/
namespace Ps
open Go
section
variable {P : Program} {tt : TT} {imm : List Nat} {g0 : Gh} {w0 : World} {H0 : PH} {F0 : Nat → Prop} {N : Nat} {g : Gh} {w : World} {a : Act} {E : Env} {H : PH} {q : Q}
theorem args0_get:∀(l:List PV) (i t:Nat),Env.get (args0 i l) t=if i≤t then l.getD (t - i) .undef else .undef
 | [],i,t=>by simp [args0,Env.get]
 | p::l,i,t=>by
  rw [args0,Env.get_cons,args0_get l (i+1) t]
  by_cases h:i=t
  ·subst h;simp
  ·rw [zqo h]
   by_cases h2:i≤t
   ·rw [zqp (by omega),zqp h2,show t - i=(t - (i+1))+1 by omega];simp
   ·rw [zqo (by omega),zqo h2]
theorem Rel.args (hh:RelH P g w H) (hcc:∀id j id' j' b,cellOwnAt g w H id j b→cellOwnAt g w H id' j' b→id=id'∧j=j') {vs:Array Value} {ps:List PV} (hs:vs.size=ps.length)
  (hv:∀(j:Nat) (c:PV),ps[j]? = some c→V g w (vs.getD j undef) c):Rel P g w (valOf vs) (args0 0 ps) H:=by
 have hV:∀t,V g w (valOf vs t) (Env.get (args0 0 ps) t):=fun t=>by
  rw [args0_get]
  simp only [Nat.zero_le,if_true,Nat.sub_zero]
  cases h:ps[t]? with
  | none=>rw [List.getD_eq_getElem?_getD,h];exact .undef _
  | some c=>rw [List.getD_eq_getElem?_getD,h];exact hv t c h
 exact ⟨hh,fun t=>(hV t).vc,fun t i t' i' b h=>absurd h (no_own (hV t) i b),fun t i b h=>absurd h (no_own (hV t) i b),hcc⟩
theorem op_call {c:Call} {x:Operand} {o:Oper} {K:KK} (ho:o.op=.call c) (hc:c.callee=.value x) (inv:Inv P g0 w0 H0 F0 N g w a E H) (hq:QRel a g w q) (hp:pOp P tt imm E q H o K) :
  OpS P g0 w0 H0 F0 N a w o K:=by
 simp only [pOp,ho,hc] at hp
 split at hp
 ·rename_i f ps qs hx
  have hvx:=opnd_V inv hx (by simp) rfl
  obtain ⟨first,caps,e1,e2,e3,e4,e5⟩:=hvx.inv_func
  obtain ⟨vs,h1,h2,hp⟩:=frcs_spec (fun x _=>opnd_VC inv.rel x) hp
  have hp:=hp.h
  unfold CK at hp
  have hl:vs.length=c.args.size:=by rw [h1,Array.length_toList]
  have hsz:(first++c.args.map a.eval++caps).size=(ps++vs++qs).length:=by simp [e2,e3,h1]
  have hrel:Rel P g w (valOf (first++c.args.map a.eval++caps)) (args0 0 (ps++vs++qs)) H:=by
   refine Rel.args inv.rel.h inv.rel.cc hsz fun j p hj=>?_
   rw [Array.getD_eq_getD_getElem?]
   rcases Nat.lt_or_ge j ps.length with hj1 | hj1
   ·rw [List.append_assoc,zq2 hj1] at hj
    have:=e4 j p hj
    rw [Array.getD_eq_getD_getElem?] at this
    rw [Array.append_assoc,Array.getElem?_append_left (by omega)];exact this
   ·rcases Nat.lt_or_ge j (ps.length+vs.length) with hj2 | hj2
    ·rw [zq2 (by simpa using hj2),zqi hj1] at hj
     obtain ⟨z,hz,hv⟩:=h2 _ p hj
     rw [Array.getElem?_toList] at hz
     rw [Array.getElem?_append_left (by simp [e2];omega),Array.getElem?_append_right (by omega),e2]
     simp [hz,hv]
    ·rw [zqi (by simpa using hj2)] at hj
     have:=e5 _ p hj
     rw [Array.getD_eq_getD_getElem?] at this
     rw [Array.getElem?_append_right (by simp [e2];omega)]
     rw [show j - (first++c.args.map a.eval).size=j - (ps++vs).length by simp [e2,h1]]
     exact this
  have hcall:=hp g w _ hsz hrel
  have hexec:(execOp a.eval o).run P w=(callFunc f (first++c.args.map a.eval++caps)).run P w:=by
   simp [execOp,ho,resolve,hc,e1,Deferred.ofValue,invoke]
  intro next Q' hn
  have fin:∀v r H' g' w',K r none E (qslots q) H'→Rel P g' w' (one v) [(0,r)] H'→Step g w H (cellOwn g w H) g' w' H'→(∀i b,ownAt v r i b→w.heap.size≤b∨cellOwn g w H b) →
    (∀b,cellOwn g' w' H' b→w.heap.size≤b∨cellOwn g w H b)→next (a.put o.dst v) w':=fun v r H' g' w' hk hr hs k1 k2=>by
   obtain ⟨i1,i2,i3,i4⟩:=inv.call hr hs k1 k2
   exact hn g' w' v r none E (qslots q) H' ⟨i1,i2,i3,i4,hq.slots,fun _ h=>by cases h⟩ hk
  unfold Oper.wp
  rw [hexec]
  rcases hcall with ⟨h1,h2⟩ | ⟨v,w',h1,h2⟩
  ·rw [h1,Oper.upon_enter]
   refine h2.mono ?_
   rintro e w' ⟨v,r,H',g',rfl,hk,hr,hs,k1,k2⟩
   exact fin v r H' g' w' hk hr hs k1 k2
  ·rw [h1,Oper.upon_value]
   obtain ⟨v',r,H',g',hv,hk,hr,hs,k1,k2⟩:=h2
   cases hv
   exact fin v r H' g' w' hk hr hs k1 k2
 ·exact hp.elim
theorem pOp_sound {o:Oper} {K:KK} (hT:ttOk P tt=true) (hd:6≤P.depth) (inv:Inv P g0 w0 H0 F0 N g w a E H) (hq:QRel a g w q) (hp:pOp P tt imm E q H o K) :
  OpS P g0 w0 H0 F0 N a w o K:=by
 have hp0:=hp
 unfold pOp at hp
 split at hp
 ·exact op_move ‹_› inv hq hp0
 ·exact op_assign ‹_› inv hq hp0
 ·exact op_pick ‹_› inv hq hp0
 ·exact op_alloc hT ‹_› inv hq hp0
 ·exact op_box ‹_› inv hq hp0
 ·exact op_build hT ‹_› inv hq hp0
 ·exact op_buildSlice hT ‹_› inv hq hp0
 ·exact op_load hT ‹_› inv hq hp0
 ·exact op_store hT ‹_› inv hq hp0
 ·exact op_nilCheck ‹_› inv hq hp0
 ·exact op_bin hT hd ‹_› inv hq hp0
 ·exact op_un ‹_› inv hq hp0
 ·exact op_convert2 hT ‹_› inv hq hp0
 ·exact op_toArr hT ‹_› inv hq hp0
 ·exact op_makeFunc ‹_› inv hq hp0
 ·exact op_makeSlice hT ‹_› inv hq hp0
 ·exact op_slice hT ‹_› inv hq hp0
 ·exact op_fieldAddr hT ‹_› inv hq hp0
 ·exact op_field hT ‹_› inv hq hp0
 ·exact op_indexAddr hT ‹_› inv hq hp0
 ·exact op_index hT ‹_› inv hq hp0
 ·exact op_extract ‹_› inv hq hp0
 ·exact op_makeMap ‹_› inv hq hp0
 ·exact op_lookup hT ‹_› inv hq hp0
 ·exact op_mapUpdate hT ‹_› inv hq hp0
 ·rename_i c ho
  split at hp
  ·exact op_len hT ho ‹_› inv hq hp0
  ·exact op_append hT ho ‹_› inv hq hp0
  ·exact op_cap hT ho ‹_› inv hq hp0
  ·exact op_copy hT ho ‹_› inv hq hp0
  ·exact op_min ho ‹_› inv hq hp0
  ·exact op_max ho ‹_› inv hq hp0
  ·exact hp.elim
  ·exact hp.elim
  ·exact op_call ho ‹_› inv hq hp0
 ·exact hp.elim
theorem vals_bool {a:Act} {t:Nat} {b:Bool} (h:vals a t=.bool b):a.tmps[t]? = some (.bool b):=by
 unfold vals at h
 rw [Array.getD_eq_getD_getElem?] at h
 cases ht:a.tmps[t]? with
 | none=>rw [ht] at h;cases h
 | some v=>rw [ht] at h;exact zqm some h
theorem guard_ok (inv:Inv P g0 w0 H0 F0 N g w a E H) {ops:Array Oper} {o:Oper} {A B:Prop} (hp:pGuard ops.toList E o.guard A B) :
  (Region.wanted o (yielded ops a.tmps)=true∧A)∨(Region.wanted o (yielded ops a.tmps)=false∧B):=by
 unfold pGuard at hp
 unfold Region.wanted
 split at hp
 ·rename_i hg
  rw [hg];exact .inl ⟨rfl,hp⟩
 ·rename_i j want hg
  rw [hg]
  split at hp
  ·rename_i o' ho'
   split at hp
   ·rename_i t ht
    split at hp
    ·rename_i b hb
     have hv:=inv.rel.e t
     rw [hb] at hv
     have hv:=vals_bool hv.bool
     rw [Array.getElem?_toList] at ho'
     have hy:yielded ops a.tmps j=some b:=by simp [yielded,ho',ht,hv]
     simp only [hy]
     cases b <;> cases want <;> first | exact .inl ⟨by decide,hp⟩ | exact .inr ⟨by decide,hp⟩
    ·rename_i hb
     have hv:=inv.rel.e t
     rw [hb] at hv
     obtain ⟨vs,hvs,_⟩:=hv
     rw [Array.getElem?_toList] at ho'
     have hy:yielded ops a.tmps j=none:=by
      have hvs:a.tmps.getD t undef=.tuple vs:=hvs
      rw [Array.getD_eq_getD_getElem?] at hvs
      unfold yielded
      simp only [ho',ht,Option.bind_some]
      cases hx:a.tmps[t]? with
      | none=>rfl
      | some x=>rw [hx] at hvs;simp only [Option.getD_some] at hvs;rw [hvs]
     simp only [hy]
     exact .inr ⟨by cases want <;> rfl,hp⟩
    ·exact hp.elim
   ·exact hp.elim
  ·exact hp.elim
theorem pOps_sound (hT:ttOk P tt=true) (hd:6≤P.depth) {ops:Array Oper} {K:Env→PH→Prop} {Q':Exit→Act→World→Prop}
  (hk:∀g w a E H,Inv P g0 w0 H0 F0 N g w a E H→K E H→Q' .normal a w) :
  ∀(rest:List Oper) (g:Gh) (w:World) (a:Act) (E:Env) (q:Q) (H:PH),Inv P g0 w0 H0 F0 N g w a E H→QRel a g w q→pOps P tt imm N ops.toList rest E q H K→wpList P ops Q' rest a w
 | [],g,w,a,E,q,H,inv,hq,hp=>hk _ _ _ _ _ inv hp
 | o::rest,g,w,a,E,q,H,inv,hq,hp=>by
  unfold pOps at hp
  unfold wpList
  rcases guard_ok inv hp with ⟨h1,h2⟩ | ⟨h1,h2⟩
  ·rw [zqp h1]
   refine .inl (pOp_sound hT hd inv hq h2 _ _ fun g' w' v p s E' q' H' hpost hk'=>?_)
   obtain ⟨E2,q2,i2,hq2,hk2⟩:=hpost.next hk'
   exact pOps_sound hT hd hk rest _ _ _ _ _ _ i2 hq2 hk2
  ·rw [zqo (by simp [h1])]
   have hpost:Post P g0 w0 H0 F0 N a g w E q H undef (.tup []) none:=⟨inv,⟨#[],rfl,rfl,fun j c hj=>by simp at hj⟩,fun i b ⟨c,hc,_⟩=>by simp at hc,fun i i' b ⟨c,hc,_⟩=>by simp at hc,hq,fun _ h=>by cases h⟩
   obtain ⟨E2,q2,i2,hq2,hk2⟩:=hpost.next h2
   exact pOps_sound hT hd hk rest _ _ _ _ _ _ i2 hq2 hk2
end
end Ps
/- PSem, part 16: an operation among others: what it does not look at stays. -/
namespace Ps
open Go
section
variable {P : Program} {tt : TT} {imm : List Nat} {g0 : Gh} {w0 : World} {H0 : PH} {F0 : Nat → Prop} {N : Nat} {g : Gh} {w : World} {a : Act} {E : Env} {H : PH} {q : Q}
theorem dem_dem (p:PV):dem (dem p)=dem p:=by cases p <;> rfl
theorem ownAt_dem {v:Value} {p:PV} {i b:Nat} (h:ownAt v (dem p) i b):False:=by
 cases p <;> first | (cases h.2.1;done) | (obtain ⟨_,h,_⟩:=h;cases h)
theorem dmt_dmt (p:PV):dmt (dmt p)=dmt p:=by
 cases p with
 | tup cs =>
  show PV.tup ((cs.map dem).map dem)=PV.tup (cs.map dem)
  rw [List.map_map]
  congr 1
  exact List.map_congr_left fun c _=>dem_dem c
 | _=>exact rfl
theorem ownAt_dmt {v:Value} {p:PV} {i b:Nat} (h:ownAt v (dmt p) i b):False:=by
 cases p with
 | tup cs =>
  obtain ⟨c,h1,h2,_⟩:=h
  rw [List.getElem?_map,Option.map_eq_some_iff] at h1
  obtain ⟨d,_,rfl⟩:=h1
  rw [dem_own] at h2;cases h2
 | bool b=>exact ownAt_dem (p:=.bool b) h
 | int k n=>exact ownAt_dem (p:=.int k n) h
 | str s=>exact ownAt_dem (p:=.str s) h
 | ptr o=>exact ownAt_dem (p:=.ptr o) h
 | elem cs=>exact ownAt_dem (p:=.elem cs) h
 | slice n cs o=>exact ownAt_dem (p:=.slice n cs o) h
 | sref a b c d=>exact ownAt_dem (p:=.sref a b c d) h
 | mref a=>exact ownAt_dem (p:=.mref a) h
 | rref a b c=>exact ownAt_dem (p:=.rref a b c) h
 | func f a b=>exact ownAt_dem (p:=.func f a b) h
 | nilF=>exact ownAt_dem (p:=.nilF) h
 | agg cs=>exact ownAt_dem (p:=.agg cs) h
 | undef=>exact ownAt_dem (p:=.undef) h
 | nilS=>exact ownAt_dem (p:=.nilS) h
theorem VC.dmt {v:Value} {p:PV} (h:VC P g w v p):VC P g w v (dmt p):=by
 cases p with
 | tup cs =>
  obtain ⟨vs,h1,h2,h3⟩:=h
  refine ⟨vs,h1,by simpa using h2,fun j c hj=>?_⟩
  rw [List.getElem?_map,Option.map_eq_some_iff] at hj
  obtain ⟨d,hd,rfl⟩:=hj
  exact .inl (h3 j d hd).dem
 | _=>exact (VC.dem h).vc
theorem Inv.subd {E':Env} (inv:Inv P g0 w0 H0 F0 N g w a E H) (h:∀t,E'.get t=E.get t∨E'.get t=dmt (E.get t)∨E'.get t=.undef):Inv P g0 w0 H0 F0 N g w a E' H:=by
 have hsub:∀t i b,ownAt (vals a t) (E'.get t) i b→ownAt (vals a t) (E.get t) i b:=fun t i b ho=>by
  rcases h t with e | e | e
  ·rw [e] at ho;exact ho
  ·rw [e] at ho;exact (ownAt_dmt ho).elim
  ·rw [e] at ho;cases ho.2.1
 refine ⟨⟨inv.rel.h,fun t=>?_,fun t i t' i' b h h'=>inv.rel.ss t i t' i' b (hsub _ _ _ h) (hsub _ _ _ h'),fun t i b h=>inv.rel.sc t i b (hsub _ _ _ h),inv.rel.cc⟩,
  inv.size,inv.defers,inv.step,fun t i b h=>inv.own t i b (hsub _ _ _ h),inv.cown⟩
 rcases h t with e | e | e
 ·rw [e];exact inv.rel.e t
 ·rw [e];exact (inv.rel.e t).dmt
 ·rw [e];exact (V.undef _).vc
theorem Inv.sub {E':Env} (inv:Inv P g0 w0 H0 F0 N g w a E H) (h:∀t,E'.get t=E.get t∨E'.get t=.undef):Inv P g0 w0 H0 F0 N g w a E' H :=
 inv.subd fun t=>(h t).imp id .inr
def Fr (g:Gh) (w:World) (a:Act) (E:Env) (H:PH):Nat→Prop:=fun b=>(∃t i,ownAt (vals a t) (E.get t) i b)∨cellOwn g w H b
theorem Inv.rebase {E':Env} (inv:Inv P g0 w0 H0 F0 N g w a E H) (h:∀t,E'.get t=E.get t∨E'.get t=dmt (E.get t)∨E'.get t=.undef):Inv P g w H (Fr g w a E' H) N g w a E' H:=by
 have i2:=inv.subd h
 exact ⟨i2.rel,inv.size,inv.defers,⟨Same.refl _ _ _,rfl,rfl,rfl,zqn _,Keeps.refl _ _,fun _ _ h=>.inl h,fun b _ _ _=>⟨rfl,fun o h=>h⟩,fun _ h=>h⟩,fun t i b h=>.inr (.inl ⟨t,i,h⟩),fun b h=>.inr (.inr h)⟩
theorem Post.frame {E' E2 E3:Env} {g':Gh} {w':World} {H':PH} {q2:Q} {v:Value} {p:PV} {s:Option Src} (inv:Inv P g0 w0 H0 F0 N g w a E H)
  (h:∀t,E'.get t=E.get t∨E'.get t=dmt (E.get t)∨E'.get t=.undef)
  (h3:∀t,(E3.get t=E.get t∧∀i b,¬ownAt (vals a t) (E'.get t) i b)∨E3.get t=dmt (E.get t))
  (post:Post P g w H (Fr g w a E' H) N a g' w' E2 q2 H' v p s):Post P g0 w0 H0 F0 N a g' w' E3 q2 H' v p s:=by
 have inv3:Inv P g0 w0 H0 F0 N g w a E3 H:=inv.subd fun t=>by
  rcases h3 t with h | h
  ·exact .inl h.1
  ·exact .inr (.inl h)
 have hsub:∀t i b,ownAt (vals a t) (E'.get t) i b→ownAt (vals a t) (E.get t) i b:=fun t i b ho=>by
  rcases h t with e | e | e
  ·rw [e] at ho;exact ho
  ·rw [e] at ho;exact (ownAt_dmt ho).elim
  ·rw [e] at ho;cases ho.2.1
 have h3own:∀t i b,ownAt (vals a t) (E3.get t) i b→ownAt (vals a t) (E.get t) i b∧∀i' b',¬ownAt (vals a t) (E'.get t) i' b':=fun t i b ho=>by
  rcases h3 t with e | e
  ·rw [e.1] at ho;exact ⟨ho,e.2⟩
  ·rw [e] at ho;exact (ownAt_dmt ho).elim
 have hnF:∀t i b,ownAt (vals a t) (E3.get t) i b→b<w.heap.size∧(∀(id:Nat),g.ι[id]?≠some (some b))∧¬Fr g w a E' H b:=fun t i b ho=>by
  obtain ⟨o1,o2⟩:=h3own t i b ho
  refine ⟨(inv.rel.own_lt o1).1,(inv.rel.own_lt o1).2,fun hF=>?_⟩
  rcases hF with ⟨t',i',hF⟩ | hF
  ·have:=(inv.rel.ss t i t' i' b o1 (hsub _ _ _ hF)).1
   subst this
   exact o2 _ _ hF
  ·exact inv.rel.sc t i b o1 hF
 have hno:∀b,(w.heap.size≤b∨Fr g w a E' H b)→∀t i,¬ownAt (vals a t) (E3.get t) i b:=fun b hb t i ho=>by
  obtain ⟨n1,_,n3⟩:=hnF t i b ho
  rcases hb with hb | hb
  ·omega
  ·exact n3 hb
 have hbase:∀b,(w.heap.size≤b∨Fr g w a E' H b)→w0.heap.size≤b∨F0 b:=fun b hb=>by
  rcases hb with hb | ⟨t,i,hb⟩ | hb
  ·exact .inl (Nat.le_trans inv.step.size hb)
  ·exact inv.own t i b (hsub _ _ _ hb)
  ·exact inv.cown b hb
 have st:=post.inv.step
 refine ⟨inv3.go st.os st.tape st.output st.size st.keeps st.ι (fun b hb h1 h2=>?_) st.fr (fun t i b ho=>?_) post.inv.rel.h (fun id j b hc=>?_) (fun id _ h=>st.nil id h),post.vc,fun i b ho=>?_,post.inj,post.qr,post.src⟩
 ·refine st.far b (Nat.lt_of_lt_of_le hb inv.step.size) (fun id hi=>inv.iFar hi hb h1) fun hF=>?_
  rcases hbase b (.inr hF) with h | h
  ·omega
  ·exact h2 h
 ·obtain ⟨n1,n2,n3⟩:=hnF t i b ho
  obtain ⟨f1,f2⟩:=st.far b n1 n2 n3
  exact ⟨f1,f2,fun id hi=>by
   rcases st.ι id b hi with hi | hi
   ·exact n2 id hi
   ·omega⟩
 ·have hb:=post.inv.cown b ⟨id,j,hc⟩
  exact .inr ⟨hno b hb,fun id' j' h'=>post.inv.rel.cc id' j' id j b h' hc,hbase b hb⟩
 ·obtain ⟨o1,o2,o3⟩:=post.ow i b ho
  exact ⟨hno b o3,o2,hbase b o3⟩
end
end Ps
/- PSem, part 17: a region that draws its order. -/
namespace Ps
open Go
/-! ### who waits for whom -/
theorem orL_get:∀(x y:List Bool) (j:Nat),(orL x y).getD j false=(x.getD j false||y.getD j false)
 | [],y,j=>by simp [orL]
 | a::x,[],j=>by simp [orL]
 | a::x,b::y,0=>by simp [orL]
 | a::x,b::y,j+1=>by
  have:=orL_get x y j
  simp only [List.getD_eq_getElem?_getD] at this
  simpa [orL] using this
theorem unitL_get:∀(n j:Nat),(unitL n).getD j false=true→j=n
 | 0,0,_=>rfl
 | 0,j+1,h=>by simp [unitL] at h
 | n+1,0,h=>by simp [unitL] at h
 | n+1,j+1,h=>by
  have:=unitL_get n j (by simpa [unitL] using h)
  omega
theorem edgeL_get {acc:List (List Bool)} {j:Nat}:∀{es:List Edge},(edgeL acc es).getD j false=true→∃e∈es,Region.binds .any e=true∧(j=e.on∨(acc.getD e.on []).getD j false=true)
 | [],h=>by simp [edgeL] at h
 | e::r,h=>by
  unfold edgeL at h
  split at h
  ·rename_i hb
   rw [orL_get,orL_get,Bool.or_eq_true,Bool.or_eq_true] at h
   rcases h with (h | h) | h
   ·exact ⟨e,List.mem_cons_self,hb,.inl (unitL_get _ _ h)⟩
   ·exact ⟨e,List.mem_cons_self,hb,.inr h⟩
   ·obtain ⟨e',h1,h2⟩:=edgeL_get h;exact ⟨e',List.mem_cons_of_mem _ h1,h2⟩
  ·obtain ⟨e',h1,h2⟩:=edgeL_get h;exact ⟨e',List.mem_cons_of_mem _ h1,h2⟩
theorem getD_app {acc:List (List Bool)} {x:List Bool} {i:Nat} (h:i<acc.length):(acc++[x]).getD i []=acc.getD i []:=by
 simp [List.getD_eq_getElem?_getD,zq2 h]
theorem getD_app_eq {acc:List (List Bool)} {x:List Bool}:(acc++[x]).getD acc.length []=x:=by
 simp [List.getD_eq_getElem?_getD]
theorem getD_out {acc:List (List Bool)} {i:Nat} (h:acc.length≤i):acc.getD i []=[]:=by
 simp [List.getD_eq_getElem?_getD,List.getElem?_eq_none h]
def Wok (ops:List Oper) (L:Nat→Prop) (acc:List (List Bool)):Prop :=
 ∀i j o,ops[i]? = some o→W acc i j=true→(∀e∈o.after.toList,Region.binds .any e=true→L e.on)→L j
theorem ancs_ok {ops:List Oper} {L:Nat→Prop} (hc:∀i o,ops[i]? = some o→L i→∀e∈o.after.toList,Region.binds .any e=true→L e.on) :
  ∀(rest:List Oper) (acc:List (List Bool)),(∀k,rest[k]? = ops[acc.length+k]?)→acc.length≤ops.length→Wok ops L acc→Wok ops L (ancs rest acc)
 | [],acc,_,_,h=>h
 | o::rest,acc,hr,hl,h=>by
  have h0:ops[acc.length]? = some o:=by simpa using (hr 0).symm
  have hlt:=(zq1.1 h0).1
  refine ancs_ok hc rest _ (fun k=>?_) (by simp;omega) ?_
  ·have:=hr (k+1)
   simp only [List.getElem?_cons_succ] at this
   rw [this];congr 1;simp;omega
  ·intro i j oi hoi hw he
   unfold W at hw
   rcases Nat.lt_or_ge i acc.length with hi | hi
   ·rw [getD_app hi] at hw
    exact h i j oi hoi hw he
   ·by_cases hi':i=acc.length
    ·subst hi'
     rw [h0] at hoi;cases hoi
     have hw:(edgeL acc o.after.toList).getD j false=true:=by
      rw [getD_app_eq] at hw;exact hw
     obtain ⟨e,e1,e2,e3⟩:=edgeL_get hw
     have hLe:=he e e1 e2
     rcases e3 with rfl | e3
     ·exact hLe
     ·cases hoe:ops[e.on]? with
      | none =>
       have:acc.length≤e.on:=Nat.le_trans hl (List.getElem?_eq_none_iff.1 hoe)
       rw [getD_out this] at e3
       simp at e3
      | some oe=>exact h e.on j oe hoe e3 (hc _ _ hoe hLe)
    ·rw [getD_out (by simp;omega)] at hw
     simp at hw
theorem waits {ops:List Oper} {L:Nat→Prop} (hc:∀i o,ops[i]? = some o→L i→∀e∈o.after.toList,Region.binds .any e=true→L e.on) {i j:Nat} {o:Oper} (ho:ops[i]? = some o)
  (hw:W (ancs ops []) i j=true) (he:∀e∈o.after.toList,Region.binds .any e=true→L e.on):L j :=
 ancs_ok hc ops [] (by simp) (by simp) (fun i j o _ h=>by simp [W] at h) i j o ho hw he
/-! ### small laws -/
theorem allN_spec {p:Nat→Bool}:∀{n:Nat},allN p n=true→∀j,j<n→p j=true
 | 0,_,j,h=>by omega
 | n+1,h,j,hj=>by
  simp only [allN,zqb] at h
  by_cases e:j=n
  ·subst e;exact h.1
  ·exact allN_spec h.2 j (by omega)
theorem cnt_mono {p p':Nat→Bool}:∀{n:Nat},(∀j,j<n→p j=true→p' j=true)→cnt p n≤cnt p' n
 | 0,_=>zqn _
 | n+1,h=>by
  have ih:=cnt_mono (n:=n) fun j hj=>h j (by omega)
  have:=h n (by omega)
  simp only [cnt]
  cases hp:p n <;> cases hp':p' n <;> simp_all <;> omega
theorem cnt_congr {p p':Nat→Bool} {n:Nat} (h:∀j,j<n→p j=p' j):cnt p n=cnt p' n :=
 Nat.le_antisymm (cnt_mono fun j hj e=>by rw [←h j hj];exact e) (cnt_mono fun j hj e=>by rw [h j hj];exact e)
theorem cnt_put {p p':Nat→Bool} {i:Nat} (h0:p i=false) (h1:p' i=true) (hs:∀j,j≠i→p' j=p j):∀{n:Nat},i<n→cnt p' n=cnt p n+1
 | 0,h=>by omega
 | n+1,h=>by
  simp only [cnt]
  by_cases e:i=n
  ·subst e
   rw [h0,h1,cnt_congr (p:=p') (p':=p) fun j hj=>hs j (by omega)]
   simp
  ·rw [cnt_put h0 h1 hs (n:=n) (by omega),hs n (Ne.symm e)]
   omega
theorem demE_get (E:Env):∀(l:List Nat) (t:Nat),(demE E l).get t=if t∈l then dmt (E.get t) else E.get t
 | [],t=>by simp [demE]
 | s::l,t=>by
  rw [demE,Env.get_cons,demE_get E l t]
  by_cases h:s=t
  ·subst h;simp
  ·rw [zqo h];simp [Ne.symm h]
theorem stepO_get (D:Draw) (i:Nat) (o:Oper) (v:PV) (E:Env) (t:Nat):(stepO D i o v E).get t=if o.dst=some t then v else if t∈D.consOf i then dmt (E.get t) else E.get t:=by
 unfold stepO putE
 cases h:o.dst with
 | none=>simp [demE_get]
 | some d =>
  rw [Env.get_cons,demE_get]
  by_cases e:d=t
  ·simp [e]
  ·simp [e]
theorem restrR_get (E:Env):∀(l:List Nat) (t:Nat),(restrR E l).get t=if t∈l then dmt (E.get t) else .undef
 | [],t=>by simp [restrR,Env.get]
 | s::l,t=>by
  rw [restrR,Env.get_cons,restrR_get E l t]
  by_cases h:s=t
  ·subst h;simp
  ·rw [zqo h];simp [Ne.symm h]
theorem restrC_get (E E':Env):∀(l:List Nat) (t:Nat),(restrC E l E').get t=if t∈l then E.get t else E'.get t
 | [],t=>by simp [restrC]
 | s::l,t=>by
  rw [restrC,Env.get_cons,restrC_get E E' l t]
  by_cases h:s=t
  ·subst h;simp
  ·rw [zqo h];simp [Ne.symm h]
theorem restrC_congr {E1 E2:Env}:∀(l:List Nat) {E':Env},(∀t∈l,E1.get t=E2.get t)→restrC E1 l E'=restrC E2 l E'
 | [],_,_=>rfl
 | s::l,_,h=>by rw [restrC,restrC,h s List.mem_cons_self,restrC_congr l fun t ht=>h t (List.mem_cons_of_mem _ ht)]
theorem restrR_congr {E1 E2:Env}:∀(l:List Nat),(∀t∈l,dmt (E1.get t)=dmt (E2.get t))→restrR E1 l=restrR E2 l
 | [],_=>rfl
 | s::l,h=>by rw [restrR,restrR,h s List.mem_cons_self,restrR_congr l fun t ht=>h t (List.mem_cons_of_mem _ ht)]
def ovl (ops:List Oper) (D:Draw) (V:Nat→PV) (E0:Env) (L:Nat→Bool):Nat→Env
 | 0=>E0
 | m+1=>match L m with
  | true=>match ops[m]? with
   | some o=>stepO D m o (V m) (ovl ops D V E0 L m)
   | none=>ovl ops D V E0 L m
  | false=>ovl ops D V E0 L m
section
variable {ops : List Oper} {D : Draw} {V : Nat → PV} {E0 : Env}
theorem touch_not {m t:Nat} {o:Oper} (ho:ops[m]? = some o) (h:touch ops D m t=false):o.dst≠some t∧t ∉ D.consOf m:=by
 simp only [touch,dstIs,ho,Option.bind_some,Bool.or_eq_false_iff] at h
 refine ⟨fun e=>?_,fun e=>?_⟩
 ·rw [e] at h;simp at h
 ·have:=h.2;simp at this;exact this e
theorem ovl_cmp {L L':Nat→Bool} {t:Nat}:∀(m:Nat),(∀j,j<m→touch ops D j t=true→L j=L' j)→(ovl ops D V E0 L m).get t=(ovl ops D V E0 L' m).get t
 | 0,_=>rfl
 | m+1,h=>by
  have ih:=ovl_cmp (L:=L) (L':=L') (t:=t) m fun j hj=>h j (by omega)
  have hm:=h m (by omega)
  simp only [ovl]
  cases ho:ops[m]? with
  | none=>cases L m <;> cases L' m <;> exact ih
  | some o =>
   cases htm:touch ops D m t with
   | true =>
    rw [←hm htm]
    cases L m
    ·exact ih
    ·simp only [stepO_get,ih]
   | false =>
    obtain ⟨k1,k2⟩:=touch_not ho htm
    have hst:∀E,(stepO D m o (V m) E).get t=E.get t:=fun E=>by rw [stepO_get,zqo k1,zqo k2]
    cases L m <;> cases L' m <;> simp only [hst,ih]
theorem ovl_cmp_dem {L L':Nat→Bool} {t:Nat}:∀(m:Nat),(∀j,j<m→dstIs ops j t=true→L j=L' j)→dmt ((ovl ops D V E0 L m).get t)=dmt ((ovl ops D V E0 L' m).get t)
 | 0,_=>rfl
 | m+1,h=>by
  have ih:=ovl_cmp_dem (L:=L) (L':=L') (t:=t) m fun j hj=>h j (by omega)
  have hm:=h m (by omega)
  simp only [ovl]
  cases ho:ops[m]? with
  | none=>cases L m <;> cases L' m <;> exact ih
  | some o =>
   cases htm:dstIs ops m t with
   | true =>
    have he:o.dst=some t:=by
     unfold dstIs at htm
     rw [ho] at htm
     simp only [Option.bind_some] at htm
     cases hd:o.dst with
     | none=>rw [hd] at htm;cases htm
     | some d=>rw [hd] at htm;rw [zqg htm]
    rw [←hm htm]
    cases L m
    ·exact ih
    ·simp only [stepO_get,he,if_true]
   | false =>
    have he:o.dst≠some t:=fun e=>by
     unfold dstIs at htm
     rw [ho] at htm
     simp [e] at htm
    have hst:∀E,dmt ((stepO D m o (V m) E).get t)=dmt (E.get t):=fun E=>by
     rw [stepO_get,zqo he]
     split
     ·exact dmt_dmt _
     ·rfl
    cases L m <;> cases L' m <;> simp only [hst,ih]
theorem ovl_prefix (i:Nat):∀(m:Nat),ovl ops D V E0 (fun j=>Nat.blt j i) m=ovl ops D V E0 (fun _=>true) (min m i)
 | 0=>by simp [ovl]
 | m+1=>by
  simp only [ovl,ovl_prefix i m]
  cases h:Nat.blt m i with
  | true =>
   have hl:m<i:=by simpa [Nat.blt_eq] using h
   rw [Nat.min_eq_left (by omega),Nat.min_eq_left (by omega)]
   simp only [ovl]
  | false =>
   have hl:¬m<i:=by
    intro hl
    have h2:Nat.blt m i=true:=by simpa [Nat.blt_eq] using hl
    rw [h2] at h;cases h
   rw [Nat.min_eq_right (by omega),Nat.min_eq_right (by omega)]
end
end Ps
/- PSem, part 18: a region that draws its order: every order ends alike. -/
namespace Ps
open Go
section
variable {P : Program} {tt : TT} {imm : List Nat} {g0 : Gh} {w0 : World} {H0 : PH} {F0 : Nat → Prop} {N : Nat}
theorem pHs_spec {Hs:List PH} {p:PH→PH→Prop} {d:Nat}:∀{m lo:Nat},pHs Hs p d lo m→∀k,lo≤k→k≤lo+m→p (hk Hs k) (hk Hs (k+d))
 | 0,lo,h,k,h1,h2=>by
  have:k=lo:=by omega
  subst this;exact h
 | m+1,lo,h,k,h1,h2=>by
  by_cases e:k=lo
  ·subst e;exact h.1
  ·exact pHs_spec h.2 k (by omega) (by omega)
theorem pDr_V {ops:List Oper} {D:Draw} {Hs:List PH} {K:Env→Prop}:∀(rest:List Oper) (i:Nat) (E:Env) (L0:Env),(∀k o,rest[k]? = some o→ops[i+k]? = some o)→pDr P tt imm ops D Hs i rest E K →
  ∃V:Nat→PV,∀V0:Nat→PV,(∀j,i≤j→V0 j=V j)→E=ovl ops D V0 L0 (fun _=>true) i →
   (∀j o,i≤j→j<i+rest.length→ops[j]? = some o→pHs Hs (Obl P tt imm ops D j o (ovl ops D V0 L0 (fun _=>true) j) (V0 j)) (dOf (D.isImp j)) (D.winOf j).1 ((D.winOf j).2 - (D.winOf j).1)) ∧
   K (ovl ops D V0 L0 (fun _=>true) (i+rest.length))
 | [],i,E,L0,hr,hp=>⟨fun _=>.undef,fun V0 _ hE=>⟨fun j o hj hlt ho=>by
   have:j<i+0:=hlt
   omega,by rw [hE] at hp;exact hp⟩⟩
 | o::rest,i,E,L0,hr,hp=>by
  have h0:ops[i]? = some o:=by simpa using hr 0 o rfl
  obtain ⟨v,h1,h2⟩:=hp
  obtain ⟨V,hV⟩:=pDr_V rest (i+1) _ L0 (fun k o' ho'=>by
   have:=hr (k+1) o' (by simpa using ho')
   rw [←this];congr 1;omega) h2
  refine ⟨fun j=>if j=i then v else V j,fun V0 hV0 hE=>?_⟩
  have hvi:V0 i=v:=by rw [hV0 i (zqn _)];simp
  obtain ⟨k1,k2⟩:=hV V0 (fun j hj=>by rw [hV0 j (by omega)];exact zqo (by omega)) (by simp only [ovl,h0,hvi,hE])
  refine ⟨fun j o' hj hlt ho'=>?_,by rw [show i+(o::rest).length=i+1+rest.length by simp;omega];exact k2⟩
  by_cases e:j=i
  ·subst e
   rw [h0] at ho';cases ho'
   rw [hvi,←hE];exact h1
  ·exact k1 j o' (by omega) (by have:j<i+(rest.length+1):=hlt;omega) ho'
theorem qOf_mem {ops:List Oper} {i:Nat}:∀{l:List (Nat×Nat×Src)} {p:Nat×Src},p∈qOf ops i l→∃j,(j,i,p.2)∈l∧(ops[j]?).bind (·.dst)=some p.1
 | [],p,h=>by cases h
 | (j,i',s)::r,p,h=>by
  unfold qOf at h
  split at h
  ·rename_i hb
   have hb:=zqg hb
   subst hb
   split at h
   ·rename_i t ht
    rcases List.mem_cons.1 h with rfl | h
    ·exact ⟨j,List.mem_cons_self,ht⟩
    ·obtain ⟨j',h1,h2⟩:=qOf_mem h;exact ⟨j',List.mem_cons_of_mem _ h1,h2⟩
   ·obtain ⟨j',h1,h2⟩:=qOf_mem h;exact ⟨j',List.mem_cons_of_mem _ h1,h2⟩
  ·obtain ⟨j',h1,h2⟩:=qOf_mem h;exact ⟨j',List.mem_cons_of_mem _ h1,h2⟩
theorem pSrcs_mem {j:Nat} {s:Option Src}:∀{l:List (Nat×Nat×Src)},pSrcs j s l→∀i x,(j,i,x)∈l→s=some x
 | [],_,i,x,h=>by cases h
 | (j',i',y)::r,hp,i,x,h=>by
  unfold pSrcs at hp
  split at hp
  ·rcases List.mem_cons.1 h with h | h
   ·cases h;exact hp.1
   ·exact pSrcs_mem hp.2 i x h
  ·rename_i hb
   rcases List.mem_cons.1 h with h | h
   ·cases h;simp at hb
   ·exact pSrcs_mem hp i x h
theorem pVers_mem {D:Draw} {Hs:List PH}:∀{l:List (Nat×Nat×Src)},pVers D Hs l→∀j i id off,(j,i,Src.cell id off)∈l→∀k,(D.winOf j).1≤k→k<(D.winOf i).2→sameVer id (hk Hs k) (hk Hs (k+1))
 | [],_,j,i,id,off,h=>by cases h
 | (j',i',y)::r,hp,j,i,id,off,h=>by
  rcases List.mem_cons.1 h with h | h
  ·cases h;exact hp.1
  ·exact pVers_mem hp.2 j i id off h
structure DSt (P:Program) (g0:Gh) (w0:World) (H0:PH) (F0:Nat→Prop) (N:Nat) (ops:List Oper) (D:Draw) (V:Nat→PV) (E0:Env) (Hs:List PH) (L:Nat→Bool) (g:Gh) (w:World) (a:Act):Prop where
 inv:Inv P g0 w0 H0 F0 N g w a (ovl ops D V E0 L ops.length) (hk Hs (cnt (fun j=>D.isImp j&&L j) ops.length))
 src:∀j i s t,(j,i,s)∈D.fs→L j=true→L i=false→(ops[j]?).bind (·.dst)=some t→SrcIs a g w (vals a t) s
 res:∀i r,(i,r)∈D.res→L i=false→g.ι[D.base+r]? = some none
theorem getO_mem:∀{l:List (Nat×Nat)} {i r:Nat},getO l i=some r→(i,r)∈l
 | [],_,_,h=>by cases h
 | (a,x)::l,i,r,h=>by
  unfold getO at h
  split at h
  ·rename_i hb
   cases h
   rw [zqg hb];exact List.mem_cons_self
  ·exact List.mem_cons_of_mem _ (getO_mem h)
theorem ord_spec {A:List (List Bool)} {i j:Nat} (h:ord A i j=true):i=j∨(j<i∧W A i j=true)∨(i<j∧W A j i=true):=by
 simp only [ord,Bool.or_eq_true,zqb,Nat.blt_eq] at h
 rcases h with (h | h) | h
 ·exact .inl (zqg h)
 ·exact .inr (.inl h)
 ·exact .inr (.inr h)
theorem dstIs_eq {ops:List Oper} {j t:Nat}:dstIs ops j t=true↔(ops[j]?).bind (·.dst)=some t:=by
 unfold dstIs
 cases (ops[j]?).bind (·.dst) with
 | none=>simp
 | some d=>simp
theorem allN_imp {p q:Nat→Bool} {n:Nat} (h:allN (fun j=>!p j||q j) n=true) {j:Nat} (hj:j<n) (hp:p j=true):q j=true:=by
 have:=allN_spec h j hj
 rw [hp] at this;simpa using this
structure OpOk (N:Nat) (ops:List Oper) (D:Draw) (i:Nat) (o:Oper):Prop where
 back:∀e∈o.after.toList,Region.binds .any e=true→e.on<i
 dst:∀d,o.dst=some d→d<N∧∀j,j<ops.length→touch ops D j d=true→ord (ancs ops []) i j=true
 cons:∀t∈D.consOf i,∀j,j<ops.length→touch ops D j t=true→ord (ancs ops []) i j=true
 reads:∀t∈opReads ops o,∀j,j<ops.length→dstIs ops j t=true→ord (ancs ops []) i j=true
 imp:D.isImp i=true→∀j,j<ops.length→D.isImp j=true→ord (ancs ops []) i j=true
 lo:(D.winOf i).1≤cnt (fun j=>D.isImp j&&W (ancs ops []) i j) ops.length
 hi:cnt (fun j=>D.isImp j&&(!Nat.beq j i&&!W (ancs ops []) j i)) ops.length≤(D.winOf i).2
 look:∀s,D.lookOf i=some s→o.op=.move (.tmp s)∧D.consOf i=[]∧∀j,j<ops.length→touch ops D j s=true→ord (ancs ops []) i j=true
theorem opOk_spec {ops:List Oper} {D:Draw} {i:Nat} {o:Oper} (h:opOk N ops.length ops (ancs ops []) D i o=true):OpOk N ops D i o:=by
 simp only [opOk,zqb] at h
 obtain ⟨⟨⟨⟨⟨⟨⟨h1,h2⟩,h3⟩,h4⟩,h5⟩,h6⟩,h7⟩,h8⟩:=h
 refine ⟨fun e he hb=>?_,fun d hd=>?_,fun t ht j hj hp=>?_,fun t ht j hj hp=>?_,fun hi j hj hp=>?_,zqh h6,zqh h7,fun s hs=>?_⟩
 ·have:=List.all_eq_true.1 h1 e he
  rw [hb] at this
  simpa [Nat.blt_eq] using this
 ·rw [hd] at h2
  simp only [zqb,Nat.blt_eq] at h2
  exact ⟨h2.1,fun j hj hp=>allN_imp h2.2 hj hp⟩
 ·exact allN_imp (List.all_eq_true.1 h3 t ht) hj hp
 ·exact allN_imp (List.all_eq_true.1 h4 t ht) hj hp
 ·rw [hi] at h5
  exact allN_imp (by simpa using h5) hj hp
 ·rw [hs] at h8
  simp only [zqb] at h8
  obtain ⟨⟨k1,k2⟩,k3⟩:=h8
  refine ⟨?_,by simpa using k2,fun j hj hp=>allN_imp k3 hj hp⟩
  split at k1
  ·rename_i x hx
   have:=zqg k1
   subst this
   exact hx
  ·cases k1
section
variable {ops : List Oper} {D : Draw} {V : Nat → PV} {E0 : Env} {Hs : List PH} {L : Nat → Bool}
def Closed (ops:List Oper) (L:Nat→Bool):Prop:=∀i o,ops[i]? = some o→L i=true→∀e∈o.after.toList,Region.binds .any e=true→L e.on=true
theorem blt_self (i : Nat) : Nat.blt i i = false := by
  cases h : Nat.blt i i with
  | false => rfl
  | true => have : i < i := by simpa [Nat.blt_eq] using h
            omega
theorem ord_side (hc : Closed ops L) {i j : Nat} {o : Oper} (ho : ops[i]? = some o) (hi : L i = false) (hr : ∀ e ∈ o.after.toList, Region.binds .any e = true → L e.on = true) (hj : j < ops.length)
    (h : ord (ancs ops []) i j = true) : L j = Nat.blt j i := by
  rcases ord_spec h with rfl | ⟨h1, h2⟩ | ⟨h1, h2⟩
  · rw [hi, blt_self]
  · have := waits (L := fun j => L j = true) hc ho h2 hr
    rw [this]; symm; simpa [Nat.blt_eq] using h1
  · have hnb : Nat.blt j i = false := by
      cases hb : Nat.blt j i with
      | false => rfl
      | true => have : j < i := by simpa [Nat.blt_eq] using hb
                omega
    rw [hnb]
    cases hl : L j with
    | false => rfl
    | true =>
      have := waits (L := fun j => L j = true) hc (zqc hj) h2 (hc j _ (zqc hj) hl)
      rw [hi] at this; cases this
theorem W_not (hc:Closed ops L) {i j:Nat} (hi:L i=false) (hj:j<ops.length) (hl:L j=true):W (ancs ops []) j i=false:=by
 cases h:W (ancs ops []) j i with
 | false=>rfl
 | true =>
  have:=waits (L:=fun j=>L j=true) hc (zqc hj) h (hc j _ (zqc hj) hl)
  rw [hi] at this;cases this
structure FsOk (ops:List Oper) (j i:Nat) (s:Src):Prop where
 lj:j<ops.length
 li:i<ops.length
 w:W (ancs ops []) i j=true
 dst:∃t,(ops[j]?).bind (·.dst)=some t∧(∀j',j'<ops.length→(ops[j']?).bind (·.dst)=some t→j'=j∨W (ancs ops []) j j'=true∨W (ancs ops []) j' i=true∨j'=i) ∧
  ∀s',s=.slot s'→s'≠t∧∀j',j'<ops.length→(ops[j']?).bind (·.dst)=some s'→W (ancs ops []) j j'=true∨W (ancs ops []) j' i=true∨j'=i
theorem fsOk_spec {j i:Nat} {s:Src} (h:fsOk ops.length ops (ancs ops []) (j,i,s)=true):FsOk ops j i s:=by
 simp only [fsOk,zqb,Nat.blt_eq] at h
 obtain ⟨⟨⟨h1,h2⟩,h3⟩,h4⟩:=h
 refine ⟨h1,h2,h3,?_⟩
 split at h4
 ·rename_i t ht
  rw [zqb] at h4
  refine ⟨t,ht,fun j' hj' hd=>?_,fun s' hs=>?_⟩
  ·have:=allN_spec h4.1 j' hj'
   rw [dstIs_eq.2 hd] at this
   simp only [Bool.not_true,zq7,Bool.or_eq_true] at this
   rcases this with ((h | h) | h) | h
   ·exact .inl (zqg h)
   ·exact .inr (.inl h)
   ·exact .inr (.inr (.inl h))
   ·exact .inr (.inr (.inr (zqg h)))
  ·subst hs
   have h5:=h4.2
   simp only [zqb] at h5
   refine ⟨fun e=>?_,fun j' hj' hd=>?_⟩
   ·rw [e] at h5;simp at h5
   ·have:=allN_spec h5.2 j' hj'
    rw [dstIs_eq.2 hd] at this
    simp only [Bool.not_true,zq7,Bool.or_eq_true] at this
    rcases this with (h | h) | h
    ·exact .inl h
    ·exact .inr (.inl h)
    ·exact .inr (.inr (zqg h))
 ·cases h4
theorem beq_ne {i j:Nat} (h:i≠j):Nat.beq i j=false:=by
 cases hb:Nat.beq i j with
 | false=>rfl
 | true=>exact absurd (zqg hb) h
def setL (L:Nat→Bool) (i:Nat):Nat→Bool:=fun j=>if j=i then true else L j
theorem Closed.set (hc:Closed ops L) {i:Nat} {o:Oper} (ho:ops[i]? = some o) (hr:∀e∈o.after.toList,Region.binds .any e=true→L e.on=true):Closed ops (setL L i):=by
 intro j oj hoj hl e he hb
 unfold setL at hl ⊢
 split
 ·rfl
 ·split at hl
  ·rename_i hji
   subst hji
   rw [ho] at hoj;cases hoj
   exact hr e he hb
  ·exact hc j oj hoj hl e he hb
theorem cnt_lo (hc:Closed ops L) {i:Nat} {o:Oper} (ho:ops[i]? = some o) (hr:∀e∈o.after.toList,Region.binds .any e=true→L e.on=true) :
  cnt (fun j=>D.isImp j&&W (ancs ops []) i j) ops.length≤cnt (fun j=>D.isImp j&&L j) ops.length:=cnt_mono fun j hj h=>by
 rw [zqb] at h ⊢
 exact ⟨h.1,waits (L:=fun j=>L j=true) hc ho h.2 hr⟩
theorem cnt_hi (hc:Closed ops L) {i:Nat} (hi:L i=false) :
  cnt (fun j=>D.isImp j&&L j) ops.length≤cnt (fun j=>D.isImp j&&(!Nat.beq j i&&!W (ancs ops []) j i)) ops.length:=cnt_mono fun j hj h=>by
 rw [zqb] at h ⊢
 refine ⟨h.1,?_⟩
 rw [W_not hc hi hj h.2]
 have:j≠i:=fun e=>by rw [e,hi] at h;cases h.2
 rw [beq_ne this];rfl
theorem dstep0 (hT:ttOk P tt=true) (hd:6≤P.depth) {arr:Array Oper} {Q':Exit→Act→World→Prop}
  {m:Nat} (hfm:∀j i s,(j,i,s)∈D.fs→j<m∧i<m) (hok:∀i o,arr.toList[i]? = some o→i<m→OpOk N arr.toList D i o) (hfs:∀j i s,(j,i,s)∈D.fs→FsOk arr.toList j i s) (hver:pVers D Hs D.fs) (hrok:resOk D=true) (hr0:∀i r,(i,r)∈D.res→g0.ι[D.base+r]?≠some none)
  {g:Gh} {w:World} {a:Act} (st:DSt P g0 w0 H0 F0 N arr.toList D V E0 Hs L g w a) (hc:Closed arr.toList L) {i:Nat} {o:Oper} (ho:arr.toList[i]? = some o) (hmi:i<m) (hi:L i=false)
  (hr:∀e∈o.after.toList,Region.binds .any e=true→L e.on=true)
  (hob:Obl P tt imm arr.toList D i o (ovl arr.toList D V E0 (fun _=>true) i) (V i) (hk Hs (cnt (fun j=>D.isImp j&&L j) arr.toList.length)) (hk Hs (cnt (fun j=>D.isImp j&&L j) arr.toList.length+dOf (D.isImp i)))) {K:Act→World→Prop}
  (hk':∀g' w' a',DSt P g0 w0 H0 F0 N arr.toList D V E0 Hs (setL L i) g' w' a'→K a' w'):wpOp P arr Q' i K a w:=by
 generalize hops:arr.toList=ops at *
 have hin:i<ops.length:=(zq1.1 ho).1
 have ok:=hok i o ho hmi
 have hmin:min ops.length i=i:=Nat.min_eq_right (Nat.le_of_lt hin)
 have hcons:∀t∈D.consOf i,(ovl ops D V E0 L ops.length).get t=(ovl ops D V E0 (fun _=>true) i).get t:=fun t ht=>by
  rw [ovl_cmp (L':=fun j=>Nat.blt j i) _ fun j hj htj=>ord_side hc ho hi hr hj (ok.cons t ht j hj htj),ovl_prefix,hmin]
 have hreads:∀t∈opReads ops o,dmt ((ovl ops D V E0 L ops.length).get t)=dmt ((ovl ops D V E0 (fun _=>true) i).get t):=fun t ht=>by
  rw [ovl_cmp_dem (L':=fun j=>Nat.blt j i) _ fun j hj htj=>ord_side hc ho hi hr hj (ok.reads t ht j hj htj),ovl_prefix,hmin]
 have hrestr:restr ops D i o (ovl ops D V E0 (fun _=>true) i)=restr ops D i o (ovl ops D V E0 L ops.length):=by
  unfold restr
  rw [restrR_congr _ hreads,restrC_congr _ hcons]
 unfold Obl at hob
 rw [hrestr] at hob
 generalize hE:ovl ops D V E0 L ops.length=EL at *
 generalize hkk:cnt (fun j=>D.isImp j&&L j) ops.length=k at *
 have hkL:cnt (fun j=>D.isImp j&&setL L i j) ops.length=k+dOf (D.isImp i):=by
  cases him:D.isImp i with
  | true =>
   rw [←hkk]
   exact cnt_put (i:=i) (by rw [hi,zq3]) (by rw [him];simp [setL]) (fun j hj=>by simp [setL,hj]) hin
  | false =>
   rw [←hkk]
   exact cnt_congr fun j hj=>by
    by_cases e:j=i
    ·subst e;rw [him];rfl
    ·simp [setL,e]
 have hinv:Inv P g0 w0 H0 F0 N g w a EL (hk Hs k):=by have:=st.inv;rw [hE,hkk] at this;exact this
 have hq:QRel a g w (qOf ops i D.fs):=fun p hp=>by
  obtain ⟨j,h1,h2⟩:=qOf_mem hp
  exact st.src j i p.2 p.1 h1 (waits (L:=fun j=>L j=true) hc ho (hfs _ _ _ h1).w hr) hi h2
 have hR:∀t,(restr ops D i o EL).get t=EL.get t∨(restr ops D i o EL).get t=dmt (EL.get t)∨(restr ops D i o EL).get t=.undef:=fun t=>by
  unfold restr
  rw [restrC_get]
  by_cases h:t∈D.consOf i
  ·rw [zqp h];exact .inl rfl
  ·rw [zqo h,restrR_get]
   by_cases h2:t∈opReads ops o
   ·rw [zqp h2];exact .inr (.inl rfl)
   ·rw [zqo h2];exact .inr (.inr rfl)
 have hR3:∀t,((demE EL (D.consOf i)).get t=EL.get t∧∀i' b,¬ownAt (vals a t) ((restr ops D i o EL).get t) i' b)∨(demE EL (D.consOf i)).get t=dmt (EL.get t):=fun t=>by
  rw [demE_get]
  unfold restr
  rw [restrC_get]
  by_cases h:t∈D.consOf i
  ·rw [zqp h];exact .inr rfl
  ·rw [zqo h,zqo h,restrR_get]
   refine .inl ⟨rfl,fun i' b hb=>?_⟩
   split at hb
   ·exact ownAt_dmt hb
   ·cases hb.2.1
 have hget:∀t,(ovl ops D V E0 (setL L i) ops.length).get t=(stepO D i o (V i) EL).get t:=fun t=>by
  rw [stepO_get,←hE]
  by_cases ht:touch ops D i t=true
  ·have hside:∀j,j<ops.length→touch ops D j t=true→ord (ancs ops []) i j=true:=fun j hj htj=>by
    simp only [touch,Bool.or_eq_true] at ht
    rcases ht with ht | ht
    ·have hdst:o.dst=some t:=by have:=dstIs_eq.1 ht;rw [ho] at this;exact this
     exact (ok.dst t hdst).2 j hj htj
    ·exact ok.cons t (by simpa using ht) j hj htj
   have e1:(ovl ops D V E0 L ops.length).get t=(ovl ops D V E0 (fun _=>true) i).get t:=by
    rw [ovl_cmp (L':=fun j=>Nat.blt j i) _ fun j hj htj=>ord_side hc ho hi hr hj (hside j hj htj),ovl_prefix,hmin]
   have e2:(ovl ops D V E0 (setL L i) ops.length).get t=(ovl ops D V E0 (fun _=>true) (i+1)).get t:=by
    rw [ovl_cmp (L':=fun j=>Nat.blt j (i+1)) _ fun j hj htj=>?_,ovl_prefix,Nat.min_eq_right (by omega)]
    unfold setL
    by_cases e:j=i
    ·subst e;rw [zqp rfl];symm;simp [Nat.blt_eq]
    ·rw [zqo e,ord_side hc ho hi hr hj (hside j hj htj)]
     have:(Nat.blt j i=true)↔(Nat.blt j (i+1)=true):=by simp only [Nat.blt_eq];omega
     exact Bool.eq_iff_iff.2 this
   rw [e2,e1]
   simp only [ovl,ho,stepO_get]
  ·have ht:touch ops D i t=false:=by simpa using ht
   obtain ⟨k1,k2⟩:=touch_not ho ht
   rw [zqo k1,zqo k2]
   refine ovl_cmp _ fun j hj htj=>?_
   unfold setL
   by_cases e:j=i
   ·subst e;rw [ht] at htj;cases htj
   ·rw [zqo e]
 have hcset:=hc.set ho hr
 have hput:∀(g':Gh) (w':World) (v:Value) (s:Option Src),Post P g0 w0 H0 F0 N a g' w' (demE EL (D.consOf i)) [] (hk Hs (k+dOf (D.isImp i))) v (V i) s→pSrcs i s D.fs →
   (∀(id b:Nat),g.ι[id]? = some (some b)→g'.ι[id]? = some (some b))→Same g w (hk Hs k) w' (hk Hs (k+dOf (D.isImp i)))→(∀i' r,(i',r)∈D.res→setL L i i'=false→g'.ι[D.base+r]? = some none)→K (a.put o.dst v) w':=fun g' w' v s hpost hsr hι hsame hnil=>by
  refine hk' g' w' _ ⟨?_,fun j i' x t hm hj hi' ht=>?_,hnil⟩
  ·rw [hkL]
   have:∃E' q',Inv P g0 w0 H0 F0 N g' w' (a.put o.dst v) E' (hk Hs (k+dOf (D.isImp i)))∧QRel (a.put o.dst v) g' w' q'∧E'=stepO D i o (V i) EL:=by
    refine hpost.next (K:=fun E' _=>E'=stepO D i o (V i) EL) ?_
    unfold pPut stepO putE
    cases hdst:o.dst with
    | none=>rfl
    | some d =>
     have:Nat.blt d N=true:=by simpa [Nat.blt_eq] using (ok.dst d hdst).1
     simp only [this]
   obtain ⟨E',q',h1,_,rfl⟩:=this
   exact h1.sub fun t=>.inl (hget t)
  ·have hf:=hfs j i' x hm
   obtain ⟨t',ht',hw1,hw2⟩:=hf.dst
   rw [ht] at ht';cases ht'
   have hi'n:i'≠i:=fun e=>by subst e;simp [setL] at hi'
   have hLi':L i'=false:=by simpa [setL,hi'n] using hi'
   have hvput:∀d,vals (a.put o.dst v) d=if o.dst=some d then v else vals a d:=fun d=>by
    cases hdst:o.dst with
    | none=>simp [Act.put]
    | some d' =>
     rw [vals_put a d' d v (by rw [hinv.size];exact (ok.dst d' hdst).1)]
     by_cases e:d=d'
     ·subst e;simp
     ·rw [zqo e,zqo (by simp;exact fun h=>e h.symm)]
   by_cases hji:j=i
   ·subst hji
    have hdst:o.dst=some t:=by rw [ho] at ht;exact ht
    have hs:=hpost.src x (pSrcs_mem hsr i' x hm)
    rw [hvput,zqp hdst]
    cases x with
    | slot s' =>
     have hne:=(hw2 s' rfl).1
     show v=vals _ s'
     rw [hvput,zqo (by rw [hdst];simp;exact fun h=>hne h.symm)]
     exact hs
    | cell id off=>exact hs
   ·have hLj:L j=true:=by simpa [setL,hji] using hj
    have hold:=st.src j i' x t hm hLj hLi' ht
    have hni:∀d,(ops[i]?).bind (·.dst)=some d→(W (ancs ops []) j i=true∨W (ancs ops []) i i'=true∨i=i')→False:=fun d hd h=>by
     rcases h with h | h | h
     ·have:=W_not hc hi hf.lj hLj;rw [this] at h;cases h
     ·have:=waits (L:=fun j=>L j=true) hc ho h hr;rw [hLi'] at this;cases this
     ·exact hi'n h.symm
    have hnt:o.dst≠some t:=fun e=>by
     have hd:(ops[i]?).bind (·.dst)=some t:=by rw [ho];exact e
     rcases hw1 i hin hd with h | h
     ·exact hji h.symm
     ·exact hni t hd h
    rw [hvput,zqo hnt]
    cases x with
    | slot s' =>
     have hns:o.dst≠some s':=fun e=>by
      have hd:(ops[i]?).bind (·.dst)=some s':=by rw [ho];exact e
      exact hni s' hd ((hw2 s' rfl).2 i hin hd)
     show vals a t=vals _ s'
     rw [hvput,zqo hns];exact hold
    | cell id off =>
     obtain ⟨b,h1,h2⟩:=hold
     refine ⟨b,hι id b h1,?_⟩
     rw [←h2]
     have hsv:sameVer id (hk Hs k) (hk Hs (k+dOf (D.isImp i))):=by
      cases him:D.isImp i with
      | false =>
       obtain ⟨o1,ho1⟩:=hinv.rel.h.ex h1
       exact ⟨o1,o1,ho1,ho1,rfl⟩
      | true =>
       have hoj:=zqc hf.lj
       have hoi':=zqc hf.li
       refine pVers_mem hver j i' id off hm k ?_ ?_
       ·rw [←hkk];exact Nat.le_trans (hok j _ hoj (hfm _ _ _ hm).1).lo (cnt_lo hc hoj (hc j _ hoj hLj))
       ·have:=Nat.le_trans (cnt_hi (D:=D) hcset hi') (hok i' _ hoi' (hfm _ _ _ hm).2).hi
        rw [hkL,him] at this
        exact this
     obtain ⟨o1,o2,k1,k2,k3⟩:=hsv
     exact cell?_of_heap (hsame.same id b o1 o2 h1 k1 k2 k3) off
 have harr:arr[i]? = some o:=by rw [←Array.getElem?_toList,hops];exact ho
 unfold wpOp
 rw [harr]
 have hreb:=hinv.rebase hR
 rw [←hops] at hob hreb
 have hLs:∀i',setL L i i'=false→L i'=false:=fun i' h=>by
  by_cases e:i'=i
  ·subst e;simp [setL] at h
  ·simpa [setL,e] using h
 rcases guard_ok hreb hob with ⟨h1,h2⟩ | ⟨h1,h2⟩
 ·simp only [h1,if_true]
  unfold pOpR at h2
  split at h2
  ·split at h2
   rotate_left
   ·rename_i s hlk
    obtain ⟨hop,hcn,hord⟩:=ok.look s hlk
    have hEs:EL.get s=(ovl ops D V E0 (fun _=>true) i).get s:=by
     rw [←hE,ovl_cmp (L':=fun j=>Nat.blt j i) _ fun j hj htj=>ord_side hc ho hi hr hj (hord j hj htj),ovl_prefix,hmin]
    rw [hops,←hEs] at h2
    split at h2
    ·rename_i n cs e hown
     obtain ⟨e1,e2,e3⟩:=h2
     have hv:Ps.V g w (vals a s) (.slice n cs none):=by
      have:=hinv.rel.e s;rw [hown] at this;exact this.slice
     have hrun:(execOp a.eval o).run P w=.ok (.value (a.eval (.tmp s))) w:=by simp [execOp,hop]
     refine .inl (wp_value hrun (hput g w _ (some (.slot s)) ?_ e3 (fun _ _ h=>h) (by rw [e2];exact Same.refl _ _ _) (fun i' r hm hl=>st.res i' r hm (hLs i' hl))))
     rw [e1,e2,hcn]
     exact ⟨hinv,hv.vc,fun i b h=>absurd h (no_own hv i b),fun i _ b h=>absurd h (no_own hv i b),QRel.nil,fun y hy=>by cases hy;rfl⟩
    ·exact h2.elim
   rw [show restr arr.toList D i o (ovl arr.toList D V E0 (fun _=>true) i)=restr arr.toList D i o EL by rw [hops];exact hrestr] at h2
   have hq':QRel a g w (qOf arr.toList i D.fs):=by rw [hops];exact hq
   refine .inl (pOp_sound hT hd hreb hq' h2 _ _ fun g' w' v p s E' q' H' hpost hkk'=>?_)
   obtain ⟨rfl,rfl,hsr⟩:=hkk'
   rw [hops] at hpost
   have hpost2:=Post.frame hinv hR hR3 hpost
   exact hput g' w' v s ⟨hpost2.inv,hpost2.vc,hpost2.ow,hpost2.inj,QRel.nil,hpost2.src⟩ hsr hpost.inv.step.keeps.ι hpost.inv.step.fr (fun i' r hm hl=>hpost.inv.step.nil _ (st.res i' r hm (hLs i' hl)))
  ·rename_i r hrr
   have hmem:=getO_mem hrr
   split at h2
   ·rename_i T hop
    split at h2
    ·rename_i ti hti
     obtain ⟨⟨e1,e2,e3⟩,e4⟩:=h2
     obtain ⟨z,z1,z2,z3⟩:=(tis hT hti).run_zero w
     obtain ⟨z4,z5⟩:=zeqs_V (g:=g) (w:=w) z2
     have hinv3:Inv P g0 w0 H0 F0 N g w a (demE EL (D.consOf i)) (hk Hs k):=hinv.subd fun t=>by
      rcases hR3 t with h | h
      ·exact .inl h.1
      ·exact .inr (.inl h)
     have hnone:=st.res i r hmem hi
     have hf:=hinv3.fill (Pushes.alloc w (.cells z.cells T (0,0))) (by rw [←z4,Array.length_toList]) (fun j c hj=>by
      obtain ⟨v,k1,k2⟩:=z5 j c hj
      rw [Array.getElem?_toList] at k1
      exact ⟨v,k1,k2⟩) e4 hnone (hr0 i r hmem)
     have hlt:D.base+r<g.ι.length:=(zq1.1 hnone).1
     refine .inl (wp_value (w':=w.alloc (.cells z.cells T (0,0))) (v:=.pointer (some ⟨w.heap.size,0,none⟩)) ?_ (hput ⟨g.ι.set (D.base+r) (some w.heap.size),g.I⟩ _ _ none ?_ e3 (fun id b h=>?_) ?_ fun i' r' hm hl=>?_))
     ·simp [execOp,hop,Instr.alloc,z1,newVar,newRow]
     ·rw [e1,e2]
      exact Post.ofV hf (.ptr _ _ _ (by rw [List.getElem?_set_self hlt]) (kindAt_cells (Pushes.alloc w _).new)) QRel.nil
     ·show (g.ι.set (D.base+r) (some w.heap.size))[id]? = some (some b)
      rw [zqj (fun e=>by rw [←e,hnone] at h;cases h)];exact h
     ·rw [e2]
      exact ⟨fun _ o h=>⟨o,h,zqn _⟩,fun id b o o' hib h1 h2 _=>((Pushes.alloc w _).old (hinv.rel.h.lt hib))⟩
     ·have hne:r'≠r:=fun e=>by
       subst e
       have:=List.all_eq_true.1 hrok _ hmem
       simp only [zqb] at this
       have:=List.all_eq_true.1 this.2 _ hm
       simp only [Bool.or_eq_true,Bool.not_eq_true'] at this
       rcases this with h | h
       ·have:i'=i:=zqg h
        subst this;simp [setL] at hl
       ·simp at h
      show (g.ι.set (D.base+r) (some w.heap.size))[D.base+r']? = some none
      rw [zqj (by omega)]
      exact st.res i' r' hm (hLs i' hl)
    ·exact h2.elim
   ·exact h2.elim
 ·simp only [h1]
  obtain ⟨e1,e2,e3⟩:=h2
  have hinv3:Inv P g0 w0 H0 F0 N g w a (demE EL (D.consOf i)) (hk Hs k):=hinv.subd fun t=>by
   rcases hR3 t with h | h
   ·exact .inl h.1
   ·exact .inr (.inl h)
  refine hput g w undef none ?_ e3 (fun _ _ h=>h) (by rw [e2];exact Same.refl _ _ _) (fun i' r hm hl=>st.res i' r hm (hLs i' hl))
  rw [e1,e2]
  exact ⟨hinv3,⟨#[],rfl,rfl,fun j c hj=>by simp at hj⟩,fun i b ⟨c,hc,_⟩=>by simp at hc,fun i i' b ⟨c,hc,_⟩=>by simp at hc,QRel.nil,fun _ h=>by cases h⟩
theorem dstep (hT:ttOk P tt=true) (hd:6≤P.depth) {arr:Array Oper} {Q':Exit→Act→World→Prop}
  {m:Nat} (hfm:∀j i s,(j,i,s)∈D.fs→j<m∧i<m) (hok:∀i o,arr.toList[i]? = some o→i<m→OpOk N arr.toList D i o) (hfs:∀j i s,(j,i,s)∈D.fs→FsOk arr.toList j i s) (hver:pVers D Hs D.fs) (hrok:resOk D=true) (hr0:∀i r,(i,r)∈D.res→g0.ι[D.base+r]?≠some none)
  (hobl:∀j o,arr.toList[j]? = some o→j<m→pHs Hs (Obl P tt imm arr.toList D j o (ovl arr.toList D V E0 (fun _=>true) j) (V j)) (dOf (D.isImp j)) (D.winOf j).1 ((D.winOf j).2 - (D.winOf j).1))
  {g:Gh} {w:World} {a:Act} (st:DSt P g0 w0 H0 F0 N arr.toList D V E0 Hs L g w a) (hc:Closed arr.toList L) {i:Nat} {o:Oper} (ho:arr.toList[i]? = some o) (hmi:i<m) (hi:L i=false)
  (hr:∀e∈o.after.toList,Region.binds .any e=true→L e.on=true) {K:Act→World→Prop}
  (hk':∀g' w' a',DSt P g0 w0 H0 F0 N arr.toList D V E0 Hs (setL L i) g' w' a'→K a' w'):wpOp P arr Q' i K a w:=by
 have ok:=hok i o ho hmi
 have hlo:=Nat.le_trans ok.lo (cnt_lo (D:=D) hc ho hr)
 have hhi:=Nat.le_trans (cnt_hi (D:=D) hc hi) ok.hi
 exact dstep0 hT hd hfm hok hfs hver hrok hr0 st hc ho hmi hi hr (pHs_spec (hobl i o ho hmi) _ hlo (by omega)) hk'
theorem ovl_V {V':Nat→PV} {L':Nat→Bool}:∀m,(∀j,j<m→L' j=true→V j=V' j)→ovl ops D V E0 L' m=ovl ops D V' E0 L' m
 | 0,_=>rfl
 | m+1,h=>by
  have ih:=ovl_V (V':=V') (L':=L') m fun j hj=>h j (by omega)
  simp only [ovl,ih]
  cases hl:L' m with
  | false=>rfl
  | true =>
   have:=h m (Nat.lt_succ_self m) hl
   simp only [this]
theorem ovl_D {D':Draw} {L':Nat→Bool} (hD:D.cons=D'.cons):∀m,ovl ops D V E0 L' m=ovl ops D' V E0 L' m
 | 0=>rfl
 | m+1=>by
  have ih:=ovl_D (D':=D') (L':=L') hD m
  have hs:∀o v E,stepO D m o v E=stepO D' m o v E:=fun o v E=>by unfold stepO Draw.consOf;rw [hD]
  simp only [ovl,ih,hs]
theorem dputX (hfs0:D.fs=[]) (hok:∀i o,ops[i]? = some o→OpOk N ops D i o) (hc:Closed ops L) {i:Nat} {o:Oper} (ho:ops[i]? = some o) (hi:L i=false)
  (hr:∀e∈o.after.toList,Region.binds .any e=true→L e.on=true) {g':Gh} {w':World} {a:Act} {v:Value} {s:Option Src} {Hp:PH}
  (hpost:Post P g0 w0 H0 F0 N a g' w' (demE (ovl ops D V E0 L ops.length) (D.consOf i)) [] Hp v (V i) s)
  (hHp:hk Hs (cnt (fun j=>D.isImp j&&setL L i j) ops.length)=Hp)
  (hnil:∀i' r,(i',r)∈D.res→setL L i i'=false→g'.ι[D.base+r]? = some none):DSt P g0 w0 H0 F0 N ops D V E0 Hs (setL L i) g' w' (a.put o.dst v):=by
 have hin:i<ops.length:=(zq1.1 ho).1
 have ok:=hok i o ho
 have hmin:min ops.length i=i:=Nat.min_eq_right (Nat.le_of_lt hin)
 generalize hE:ovl ops D V E0 L ops.length=EL at *
 have hget:∀t,(ovl ops D V E0 (setL L i) ops.length).get t=(stepO D i o (V i) EL).get t:=fun t=>by
  rw [stepO_get,←hE]
  by_cases ht:touch ops D i t=true
  ·have hside:∀j,j<ops.length→touch ops D j t=true→ord (ancs ops []) i j=true:=fun j hj htj=>by
    simp only [touch,Bool.or_eq_true] at ht
    rcases ht with ht | ht
    ·have hdst:o.dst=some t:=by have:=dstIs_eq.1 ht;rw [ho] at this;exact this
     exact (ok.dst t hdst).2 j hj htj
    ·exact ok.cons t (by simpa using ht) j hj htj
   have e1:(ovl ops D V E0 L ops.length).get t=(ovl ops D V E0 (fun _=>true) i).get t:=by
    rw [ovl_cmp (L':=fun j=>Nat.blt j i) _ fun j hj htj=>ord_side hc ho hi hr hj (hside j hj htj),ovl_prefix,hmin]
   have e2:(ovl ops D V E0 (setL L i) ops.length).get t=(ovl ops D V E0 (fun _=>true) (i+1)).get t:=by
    rw [ovl_cmp (L':=fun j=>Nat.blt j (i+1)) _ fun j hj htj=>?_,ovl_prefix,Nat.min_eq_right (by omega)]
    unfold setL
    by_cases e:j=i
    ·subst e;rw [zqp rfl];symm;simp [Nat.blt_eq]
    ·rw [zqo e,ord_side hc ho hi hr hj (hside j hj htj)]
     have:(Nat.blt j i=true)↔(Nat.blt j (i+1)=true):=by simp only [Nat.blt_eq];omega
     exact Bool.eq_iff_iff.2 this
   rw [e2,e1]
   simp only [ovl,ho,stepO_get]
  ·have ht:touch ops D i t=false:=by simpa using ht
   obtain ⟨k1,k2⟩:=touch_not ho ht
   rw [zqo k1,zqo k2]
   refine ovl_cmp _ fun j hj htj=>?_
   unfold setL
   by_cases e:j=i
   ·subst e;rw [ht] at htj;cases htj
   ·rw [zqo e]
 refine ⟨?_,(fun j i' x t hm=>by rw [hfs0] at hm;cases hm),hnil⟩
 rw [hHp]
 have:∃E' q',Inv P g0 w0 H0 F0 N g' w' (a.put o.dst v) E' Hp∧QRel (a.put o.dst v) g' w' q'∧E'=stepO D i o (V i) EL:=by
  refine hpost.next (K:=fun E' _=>E'=stepO D i o (V i) EL) ?_
  unfold pPut stepO putE
  cases hdst:o.dst with
  | none=>rfl
  | some d =>
   have:Nat.blt d N=true:=by simpa [Nat.blt_eq] using (ok.dst d hdst).1
   simp only [this]
 obtain ⟨E',q',h1,_,rfl⟩:=this
 exact h1.sub fun t=>.inl (hget t)
theorem dstepX (hT:ttOk P tt=true) (hd:6≤P.depth) {arr:Array Oper} {Q':Exit→Act→World→Prop} (hfs0:D.fs=[]) (hok:∀i o,arr.toList[i]? = some o→OpOk N arr.toList D i o) {C:PV→PH→Prop}
  {g:Gh} {w:World} {a:Act} (st:DSt P g0 w0 H0 F0 N arr.toList D V E0 Hs L g w a) (hc:Closed arr.toList L) {i:Nat} {o:Oper} (ho:arr.toList[i]? = some o) (hi:L i=false)
  (hr:∀e∈o.after.toList,Region.binds .any e=true→L e.on=true) (hgd:o.guard=none)
  (hx:pOp P tt imm (restr arr.toList D i o (ovl arr.toList D V E0 (fun _=>true) i)) [] (hk Hs (cnt (fun j=>D.isImp j&&L j) arr.toList.length)) o fun p _ _ _ H2=>C p H2) {K:Act→World→Prop}
  (hk':∀p H2,C p H2→∀g' w' v,(∀(V':Nat→PV) (Hs':List PH),(∀j,L j=true→V' j=V j)→V' i=p→hk Hs' (cnt (fun j=>D.isImp j&&setL L i j) arr.toList.length)=H2 →
   DSt P g0 w0 H0 F0 N arr.toList D V' E0 Hs' (setL L i) g' w' (a.put o.dst v))→K (a.put o.dst v) w'):wpOp P arr Q' i K a w:=by
 generalize hops:arr.toList=ops at *
 have hin:i<ops.length:=(zq1.1 ho).1
 have ok:=hok i o ho
 have hmin:min ops.length i=i:=Nat.min_eq_right (Nat.le_of_lt hin)
 have hcons:∀t∈D.consOf i,(ovl ops D V E0 L ops.length).get t=(ovl ops D V E0 (fun _=>true) i).get t:=fun t ht=>by
  rw [ovl_cmp (L':=fun j=>Nat.blt j i) _ fun j hj htj=>ord_side hc ho hi hr hj (ok.cons t ht j hj htj),ovl_prefix,hmin]
 have hreads:∀t∈opReads ops o,dmt ((ovl ops D V E0 L ops.length).get t)=dmt ((ovl ops D V E0 (fun _=>true) i).get t):=fun t ht=>by
  rw [ovl_cmp_dem (L':=fun j=>Nat.blt j i) _ fun j hj htj=>ord_side hc ho hi hr hj (ok.reads t ht j hj htj),ovl_prefix,hmin]
 have hrestr:restr ops D i o (ovl ops D V E0 (fun _=>true) i)=restr ops D i o (ovl ops D V E0 L ops.length):=by
  unfold restr
  rw [restrR_congr _ hreads,restrC_congr _ hcons]
 rw [hrestr] at hx
 have hVL:∀V':Nat→PV,(∀j,L j=true→V' j=V j)→ovl ops D V' E0 L ops.length=ovl ops D V E0 L ops.length:=fun V' h=>ovl_V _ fun j _ hj=>h j hj
 have hinv:Inv P g0 w0 H0 F0 N g w a (ovl ops D V E0 L ops.length) (hk Hs (cnt (fun j=>D.isImp j&&L j) ops.length)):=st.inv
 generalize hE:ovl ops D V E0 L ops.length=EL at *
 generalize hkk:cnt (fun j=>D.isImp j&&L j) ops.length=k at *
 have hR:∀t,(restr ops D i o EL).get t=EL.get t∨(restr ops D i o EL).get t=dmt (EL.get t)∨(restr ops D i o EL).get t=.undef:=fun t=>by
  unfold restr
  rw [restrC_get]
  by_cases h:t∈D.consOf i
  ·rw [zqp h];exact .inl rfl
  ·rw [zqo h,restrR_get]
   by_cases h2:t∈opReads ops o
   ·rw [zqp h2];exact .inr (.inl rfl)
   ·rw [zqo h2];exact .inr (.inr rfl)
 have hR3:∀t,((demE EL (D.consOf i)).get t=EL.get t∧∀i' b,¬ownAt (vals a t) ((restr ops D i o EL).get t) i' b)∨(demE EL (D.consOf i)).get t=dmt (EL.get t):=fun t=>by
  rw [demE_get]
  unfold restr
  rw [restrC_get]
  by_cases h:t∈D.consOf i
  ·rw [zqp h];exact .inr rfl
  ·rw [zqo h,zqo h,restrR_get]
   refine .inl ⟨rfl,fun i' b hb=>?_⟩
   split at hb
   ·exact ownAt_dmt hb
   ·cases hb.2.1
 have harr:arr[i]? = some o:=by rw [←Array.getElem?_toList,hops];exact ho
 unfold wpOp
 rw [harr]
 have hreb:=hinv.rebase hR
 have hLs:∀i',setL L i i'=false→L i'=false:=fun i' h=>by
  by_cases e:i'=i
  ·subst e;simp [setL] at h
  ·simpa [setL,e] using h
 have hob:pGuard arr.toList (restr ops D i o EL) o.guard (pOp P tt imm (restr ops D i o EL) [] (hk Hs k) o fun p _ _ _ H2=>C p H2) False:=by rw [hgd];exact hx
 rcases guard_ok hreb hob with ⟨h1,h2⟩ | ⟨_,h2⟩
 ·simp only [h1,if_true]
  refine .inl (pOp_sound hT hd hreb QRel.nil h2 _ _ fun g' w' v p s E' q' H' hpost hC=>?_)
  have hpost2:=Post.frame hinv hR hR3 hpost
  refine hk' p H' hC g' w' v fun V' Hs' hV hVi hH=>?_
  have hEV:=hVL V' hV
  refine dputX hfs0 hok hc ho hi hr (Hp:=H') (s:=s) ?_ hH (fun i' r hm hl=>hpost.inv.step.nil _ (st.res i' r hm (hLs i' hl)))
  rw [hEV,hVi]
  exact ⟨hpost2.inv,hpost2.vc,hpost2.ow,hpost2.inj,QRel.nil,hpost2.src⟩
 ·exact h2.elim
theorem exists_ready {arr:Array Oper} {listed:Array Bool} (hb:∀i o,arr.toList[i]? = some o→∀e∈o.after.toList,Region.binds .any e=true→e.on<i) (hs:listed.size=arr.size) :
  ∀(n:Nat),n<arr.size→listed.getD n true=false→Region.ready .any arr listed≠[]:=by
 intro n
 induction n using Nat.strongRecOn with
 | _ n ih =>
  intro hn hl he
  by_cases h:∃m,m<n∧listed.getD m true=false
  ·obtain ⟨m,hm,hl'⟩:=h
   exact ih m hm (by omega) hl' he
  ·have hmem:n∈Region.ready .any arr listed:=mem_ready.2 ⟨hl,arr[n],Array.getElem?_eq_getElem hn,fun e he hbd=>by
    have hlt:=hb n arr[n] (by rw [Array.getElem?_toList,Array.getElem?_eq_getElem hn]) e (by simpa using he) hbd
    have hsz:e.on<listed.size:=by omega
    cases hle:listed.getD e.on true with
    | false=>exact absurd ⟨e.on,hlt,hle⟩ h
    | true=>simpa [Array.getD_eq_getD_getElem?,Array.getElem?_eq_getElem hsz] using hle⟩
   rw [he] at hmem;cases hmem
def Lof (listed:Array Bool) (j:Nat):Bool:=listed.getD j false
theorem Lof_set {listed:Array Bool} {i:Nat} (h:i<listed.size):Lof (listed.setIfInBounds i true)=setL (Lof listed) i:=by
 funext j
 unfold Lof setL
 by_cases e:j=i
 ·subst e;simp [h]
 ·rw [zqo e,getD_set_ne false (Ne.symm e)]
theorem draw_any (hT:ttOk P tt=true) (hd:6≤P.depth) {arr:Array Oper} {Q':Exit→Act→World→Prop}
  (hok:∀i o,arr.toList[i]? = some o→OpOk N arr.toList D i o) (hfs:∀j i s,(j,i,s)∈D.fs→FsOk arr.toList j i s) (hver:pVers D Hs D.fs) (hrok:resOk D=true) (hr0:∀i r,(i,r)∈D.res→g0.ι[D.base+r]?≠some none)
  (hobl:∀j o,arr.toList[j]? = some o→pHs Hs (Obl P tt imm arr.toList D j o (ovl arr.toList D V E0 (fun _=>true) j) (V j)) (dOf (D.isImp j)) (D.winOf j).1 ((D.winOf j).2 - (D.winOf j).1))
  (hq:∀g w a,Inv P g0 w0 H0 F0 N g w a (ovl arr.toList D V E0 (fun _=>true) arr.toList.length) (hk Hs (cnt D.isImp arr.toList.length))→Q' .normal a w) :
  ∀(fuel:Nat) (listed:Array Bool) (g:Gh) (w:World) (a:Act),listed.size=arr.size→Closed arr.toList (Lof listed)→cnt (fun j=>!Lof listed j) arr.size=fuel →
   DSt P g0 w0 H0 F0 N arr.toList D V E0 Hs (Lof listed) g w a→wpAny P .any arr Q' fuel listed a w:=by
 have hall:∀(listed:Array Bool) (g:Gh) (w:World) (a:Act),listed.size=arr.size→(∀j,j<arr.size→Lof listed j=true)→DSt P g0 w0 H0 F0 N arr.toList D V E0 Hs (Lof listed) g w a→Q' .normal a w:=fun listed g w a hs hl st=>by
  refine hq g w a ?_
  have:=st.inv
  rw [cnt_congr (p:=fun j=>D.isImp j&&Lof listed j) (p':=D.isImp) fun j hj=>by rw [hl j (by simpa using hj),zq6]] at this
  exact this.sub fun t=>.inl (ovl_cmp _ fun j hj _=>(hl j (by simpa using hj)).symm)
 have hback:∀i o,arr.toList[i]? = some o→∀e∈o.after.toList,Region.binds .any e=true→e.on<i:=fun i o ho=>(hok i o ho).back
 have hun:∀(listed:Array Bool) (j:Nat),listed.size=arr.size→j<arr.size→listed.getD j true=listed.getD j false:=fun listed j hs hj=>by
  simp [Array.getD_eq_getD_getElem?,Array.getElem?_eq_getElem (show j<listed.size by omega)]
 intro fuel
 induction fuel with
 | zero =>
  intro listed g w a hs hc hf st
  have hl:∀j,j<arr.size→Lof listed j=true:=fun j hj=>by
   cases h:Lof listed j with
   | true=>rfl
   | false =>
    have h1:cnt (fun j'=>Nat.beq j' j) arr.size≤cnt (fun j=>!Lof listed j) arr.size:=cnt_mono fun j' hj' e=>by
     rw [zqg e,h];rfl
    have h2:cnt (fun j'=>Nat.beq j' j) arr.size=cnt (fun _=>false) arr.size+1:=cnt_put (i:=j) rfl (by simp) (fun j' e=>beq_ne e) hj
    omega
  refine ⟨?_,hall listed g w a hs hl st⟩
  cases hr:Region.ready .any arr listed with
  | nil=>rfl
  | cons i r =>
   have hm:i∈Region.ready .any arr listed:=by rw [hr];exact List.mem_cons_self
   obtain ⟨h1,o,ho,_⟩:=mem_ready.1 hm
   have hi:=(Array.getElem?_eq_some_iff.1 ho).1
   rw [hun listed i hs hi] at h1
   have:=hl i hi
   unfold Lof at this
   rw [h1] at this;cases this
 | succ fuel ih =>
  intro listed g w a hs hc hf st
  refine ⟨fun hr=>?_,fun i hi=>?_⟩
  ·refine hall listed g w a hs (fun j hj=>?_) st
   cases h:Lof listed j with
   | true=>rfl
   | false=>exact absurd hr (exists_ready hback hs j hj (by rw [hun listed j hs hj];exact h))
  ·obtain ⟨h1,o,ho,hr⟩:=mem_ready.1 hi
   have hi':=(Array.getElem?_eq_some_iff.1 ho).1
   rw [hun listed i hs hi'] at h1
   have hr':∀e∈o.after.toList,Region.binds .any e=true→Lof listed e.on=true:=fun e he hb=>hr e (by simpa using he) hb
   have ho':arr.toList[i]? = some o:=by rw [Array.getElem?_toList];exact ho
   refine dstep (m:=arr.toList.length) hT hd (fun j i s hm=>⟨(hfs j i s hm).lj,(hfs j i s hm).li⟩) (fun i o h _=>hok i o h) hfs hver hrok hr0 (fun j o h _=>hobl j o h) st hc ho' (by simpa using hi') h1 hr' fun g' w' a' st'=>?_
   rw [←Lof_set (by omega)] at st'
   refine ih _ g' w' a' (by simpa using hs) (by rw [Lof_set (by omega)];exact hc.set ho' hr') ?_ st'
   rw [Lof_set (by omega)]
   have:=cnt_put (p:=fun j=>!setL (Lof listed) i j) (p':=fun j=>!Lof listed j) (i:=i) (by simp [setL]) (by simp only [h1,Lof];rfl) (fun j hj=>by simp [setL,hj]) hi'
   omega
theorem draw_any2 (x:Nat) (hT:ttOk P tt=true) (hd:6≤P.depth) {D:Draw} {V:Nat→PV} {E0:Env} {Hs:List PH} {arr:Array Oper} {Q':Exit→Act→World→Prop}
  (hok:∀i o,arr.toList[i]? = some o→OpOk N arr.toList D i o) (hfs:∀j i s,(j,i,s)∈D.fs→FsOk arr.toList j i s) (hver:pVers D Hs D.fs) (hrok:resOk D=true) (hr0:∀i r,(i,r)∈D.res→g0.ι[D.base+r]?≠some none)
  (hobl:∀j o,arr.toList[j]? = some o→x<j→pHs Hs (Obl P tt imm arr.toList D j o (ovl arr.toList D V E0 (fun _=>true) j) (V j)) (dOf (D.isImp j)) (D.winOf j).1 ((D.winOf j).2 - (D.winOf j).1))
  (hq:∀g w a,Inv P g0 w0 H0 F0 N g w a (ovl arr.toList D V E0 (fun _=>true) arr.toList.length) (hk Hs (cnt D.isImp arr.toList.length))→Q' .normal a w) :
  ∀(fuel:Nat) (listed:Array Bool) (g:Gh) (w:World) (a:Act),listed.size=arr.size→Closed arr.toList (Lof listed)→(∀j,j≤x→Lof listed j=true)→cnt (fun j=>!Lof listed j) arr.size=fuel →
   DSt P g0 w0 H0 F0 N arr.toList D V E0 Hs (Lof listed) g w a→wpAny P .any arr Q' fuel listed a w:=by
 have hall:∀(listed:Array Bool) (g:Gh) (w:World) (a:Act),listed.size=arr.size→(∀j,j<arr.size→Lof listed j=true)→DSt P g0 w0 H0 F0 N arr.toList D V E0 Hs (Lof listed) g w a→Q' .normal a w:=fun listed g w a hs hl st=>by
  refine hq g w a ?_
  have:=st.inv
  rw [cnt_congr (p:=fun j=>D.isImp j&&Lof listed j) (p':=D.isImp) fun j hj=>by rw [hl j (by simpa using hj),zq6]] at this
  exact this.sub fun t=>.inl (ovl_cmp _ fun j hj _=>(hl j (by simpa using hj)).symm)
 have hback:∀i o,arr.toList[i]? = some o→∀e∈o.after.toList,Region.binds .any e=true→e.on<i:=fun i o ho=>(hok i o ho).back
 have hun:∀(listed:Array Bool) (j:Nat),listed.size=arr.size→j<arr.size→listed.getD j true=listed.getD j false:=fun listed j hs hj=>by
  simp [Array.getD_eq_getD_getElem?,Array.getElem?_eq_getElem (show j<listed.size by omega)]
 intro fuel
 induction fuel with
 | zero =>
  intro listed g w a hs hc hlx hf st
  have hl:∀j,j<arr.size→Lof listed j=true:=fun j hj=>by
   cases h:Lof listed j with
   | true=>rfl
   | false =>
    have h1:cnt (fun j'=>Nat.beq j' j) arr.size≤cnt (fun j=>!Lof listed j) arr.size:=cnt_mono fun j' hj' e=>by
     rw [zqg e,h];rfl
    have h2:cnt (fun j'=>Nat.beq j' j) arr.size=cnt (fun _=>false) arr.size+1:=cnt_put (i:=j) rfl (by simp) (fun j' e=>beq_ne e) hj
    omega
  refine ⟨?_,hall listed g w a hs hl st⟩
  cases hr:Region.ready .any arr listed with
  | nil=>rfl
  | cons i r =>
   have hm:i∈Region.ready .any arr listed:=by rw [hr];exact List.mem_cons_self
   obtain ⟨h1,o,ho,_⟩:=mem_ready.1 hm
   have hi:=(Array.getElem?_eq_some_iff.1 ho).1
   rw [hun listed i hs hi] at h1
   have:=hl i hi
   unfold Lof at this
   rw [h1] at this;cases this
 | succ fuel ih =>
  intro listed g w a hs hc hlx hf st
  refine ⟨fun hr=>?_,fun i hi=>?_⟩
  ·refine hall listed g w a hs (fun j hj=>?_) st
   cases h:Lof listed j with
   | true=>rfl
   | false=>exact absurd hr (exists_ready hback hs j hj (by rw [hun listed j hs hj];exact h))
  ·obtain ⟨h1,o,ho,hr⟩:=mem_ready.1 hi
   have hi':=(Array.getElem?_eq_some_iff.1 ho).1
   rw [hun listed i hs hi'] at h1
   have hr':∀e∈o.after.toList,Region.binds .any e=true→Lof listed e.on=true:=fun e he hb=>hr e (by simpa using he) hb
   have ho':arr.toList[i]? = some o:=by rw [Array.getElem?_toList];exact ho
   have hix:x<i:=by
    rcases Nat.lt_or_ge x i with c | c
    ·exact c
    ·have:=hlx i c
     unfold Lof at this
     rw [h1] at this;cases this
   have ok:=hok i o ho'
   have hlo:=Nat.le_trans ok.lo (cnt_lo (D:=D) hc ho' hr')
   have hhi:=Nat.le_trans (cnt_hi (D:=D) hc h1) ok.hi
   refine dstep0 (m:=arr.toList.length) hT hd (fun j i s hm=>⟨(hfs j i s hm).lj,(hfs j i s hm).li⟩) (fun i o h _=>hok i o h) hfs hver hrok hr0 st hc ho' (by simpa using hi') h1 hr' (pHs_spec (hobl i o ho' hix) _ hlo (by omega)) fun g' w' a' st'=>?_
   rw [←Lof_set (by omega)] at st'
   refine ih _ g' w' a' (by simpa using hs) (by rw [Lof_set (by omega)];exact hc.set ho' hr') (fun j hj=>by rw [Lof_set (by omega)];unfold setL;split;rfl;exact hlx j hj) ?_ st'
   rw [Lof_set (by omega)]
   have:=cnt_put (p:=fun j=>!setL (Lof listed) i j) (p':=fun j=>!Lof listed j) (i:=i) (by simp [setL]) (by simp only [h1,Lof];rfl) (fun j hj=>by simp [setL,hj]) hi'
   omega
theorem drawX_any (hT:ttOk P tt=true) (hd:6≤P.depth) {D:Draw} {V:Nat→PV} {E0:Env} {X:PH} {arr:Array Oper} {Q':Exit→Act→World→Prop} {x:Nat} {ox:Oper} {C:PV→PH→Prop} (hfs0:D.fs=[])
  (hok:∀i o,arr.toList[i]? = some o→OpOk N arr.toList D i o) (hrok:resOk D=true) (hr0:∀i r,(i,r)∈D.res→g0.ι[D.base+r]?≠some none)
  (hox:arr.toList[x]? = some ox) (hgx:ox.guard=none) (himpx:D.isImp x=true)
  (hanc:∀j,j<x→W (ancs arr.toList []) x j=true)
  (himp:∀j,j<arr.toList.length→j≠x→D.isImp j=true→W (ancs arr.toList []) j x=true)
  (hpre:∀j o,arr.toList[j]? = some o→W (ancs arr.toList []) j x=false→j≠x→Obl P tt imm arr.toList D j o (ovl arr.toList D V E0 (fun _=>true) j) (V j) X X)
  (hx:pOp P tt imm (restr arr.toList D x ox (ovl arr.toList D V E0 (fun _=>true) x)) [] X ox fun p _ _ _ H2=>C p H2)
  (hpost:∀p H2,C p H2→∃(V':Nat→PV) (Hs':List PH),(∀j o,arr.toList[j]? = some o→W (ancs arr.toList []) j x=false→j≠x→V' j=V j)∧V' x=p∧hk Hs' 1=H2 ∧
   (∀j o,arr.toList[j]? = some o→x<j→pHs Hs' (Obl P tt imm arr.toList D j o (ovl arr.toList D V' E0 (fun _=>true) j) (V' j)) (dOf (D.isImp j)) (D.winOf j).1 ((D.winOf j).2 - (D.winOf j).1)) ∧
   ∀g w a,Inv P g0 w0 H0 F0 N g w a (ovl arr.toList D V' E0 (fun _=>true) arr.toList.length) (hk Hs' (cnt D.isImp arr.toList.length))→Q' .normal a w) :
  ∀(fuel:Nat) (listed:Array Bool) (g:Gh) (w:World) (a:Act),listed.size=arr.size→Closed arr.toList (Lof listed)→(∀j,Lof listed j=true→j<arr.size)→Lof listed x=false→cnt (fun j=>!Lof listed j) arr.size=fuel →
   DSt P g0 w0 H0 F0 N arr.toList D V E0 [X] (Lof listed) g w a→wpAny P .any arr Q' fuel listed a w:=by
 have hback:∀i o,arr.toList[i]? = some o→∀e∈o.after.toList,Region.binds .any e=true→e.on<i:=fun i o ho=>(hok i o ho).back
 have hun:∀(listed:Array Bool) (j:Nat),listed.size=arr.size→j<arr.size→listed.getD j true=listed.getD j false:=fun listed j hs hj=>by
  simp [Array.getD_eq_getD_getElem?,Array.getElem?_eq_getElem (show j<listed.size by omega)]
 have hxs:x<arr.size:=by have:=(zq1.1 hox).1;simpa using this
 intro fuel
 induction fuel with
 | zero =>
  intro listed g w a hs hc hls hlx hf st
  have h1:cnt (fun j'=>Nat.beq j' x) arr.size≤cnt (fun j=>!Lof listed j) arr.size:=cnt_mono fun j' hj' e=>by
   rw [zqg e,hlx];rfl
  have h2:cnt (fun j'=>Nat.beq j' x) arr.size=cnt (fun _=>false) arr.size+1:=cnt_put (i:=x) rfl (by simp) (fun j' e=>beq_ne e) hxs
  omega
 | succ fuel ih =>
  intro listed g w a hs hc hls hlx hf st
  refine ⟨fun hr=>absurd hr (exists_ready hback hs x hxs (by rw [hun listed x hs hxs];exact hlx)),fun i hi=>?_⟩
  obtain ⟨h1,o,ho,hr⟩:=mem_ready.1 hi
  have hi':=(Array.getElem?_eq_some_iff.1 ho).1
  rw [hun listed i hs hi'] at h1
  have hr':∀e∈o.after.toList,Region.binds .any e=true→Lof listed e.on=true:=fun e he hb=>hr e (by simpa using he) hb
  have ho':arr.toList[i]? = some o:=by rw [Array.getElem?_toList];exact ho
  have hcount:cnt (fun j=>D.isImp j&&Lof listed j) arr.toList.length=0:=by
   rw [cnt_congr (p':=fun _=>false) fun j hj=>?_]
   ·generalize arr.toList.length=n
    induction n with
    | zero=>rfl
    | succ n ih=>simp only [cnt,ih]
   ·cases hji:D.isImp j with
    | false=>rfl
    | true =>
     cases hjl:Lof listed j with
     | false=>rfl
     | true =>
      by_cases e:j=x
      ·subst e;rw [hlx] at hjl;cases hjl
      ·have hw:=himp j hj e hji
       have:=W_not hc hlx hj hjl
       rw [this] at hw;cases hw
  have hcnt:cnt (fun j=>!Lof (listed.setIfInBounds i true) j) arr.size=fuel:=by
   rw [Lof_set (by omega)]
   have:=cnt_put (p:=fun j=>!setL (Lof listed) i j) (p':=fun j=>!Lof listed j) (i:=i) (by simp [setL]) (by simp only [h1,Lof];rfl) (fun j hj=>by simp [setL,hj]) hi'
   omega
  have hsz:(listed.setIfInBounds i true).size=arr.size:=by simpa using hs
  have hcl:Closed arr.toList (Lof (listed.setIfInBounds i true)):=by rw [Lof_set (by omega)];exact hc.set ho' hr'
  by_cases hix:i=x
  ·subst hix
   rw [hox] at ho';cases ho'
   have hx':=hx
   rw [show X=hk [X] (cnt (fun j=>D.isImp j&&Lof listed j) arr.toList.length) by rw [hcount];rfl] at hx'
   refine dstepX hT hd hfs0 hok st hc hox h1 hr' hgx hx' fun p H2 hC g' w' v hst=>?_
   obtain ⟨V',Hs',hV,hVx,hH,hob,hq⟩:=hpost p H2 hC
   have hcs:cnt (fun j=>D.isImp j&&setL (Lof listed) i j) arr.toList.length=1:=by
    have:=cnt_put (p:=fun j=>D.isImp j&&Lof listed j) (p':=fun j=>D.isImp j&&setL (Lof listed) i j) (i:=i) (n:=arr.toList.length) (by rw [show Lof listed i=false from h1,zq3]) (by rw [himpx];simp [setL]) (fun j hj=>by simp [setL,hj]) (by simpa using hi')
    rw [hcount] at this
    exact this
   have st':=hst V' Hs' (fun j hj=>by
    have hja:j<arr.toList.length:=by simpa using hls j hj
    have hne:j≠i:=fun e=>by subst e;rw [show Lof listed j=false from h1] at hj;cases hj
    exact hV j _ (zqc hja) (W_not hc h1 hja hj) hne) hVx (by rw [hcs];exact hH)
   rw [←Lof_set (by omega)] at st'
   refine draw_any2 i hT hd hok (fun j i s hm=>by rw [hfs0] at hm;cases hm) (by rw [hfs0];trivial) hrok hr0 hob hq fuel _ g' w' _ hsz hcl (fun j hj=>?_) hcnt st'
   rw [Lof_set (by omega)]
   unfold setL
   split
   ·rfl
   ·exact waits (L:=fun j=>Lof listed j=true) hc hox (hanc j (by omega)) hr'
  ·have hW:W (ancs arr.toList []) i x=false:=by
    cases hw:W (ancs arr.toList []) i x with
    | false=>rfl
    | true =>
     have:=waits (L:=fun j=>Lof listed j=true) hc ho' hw hr'
     rw [hlx] at this;cases this
   have hni:D.isImp i=false:=by
    cases h:D.isImp i with
    | false=>rfl
    | true=>have:=himp i (by simpa using hi') hix h;rw [hW] at this;cases this
   refine dstep0 (tt:=tt) (imm:=imm) (m:=arr.toList.length) hT hd (fun j i s hm=>by rw [hfs0] at hm;cases hm) (fun i o h _=>hok i o h) (fun j i s hm=>by rw [hfs0] at hm;cases hm) (by rw [hfs0];trivial) hrok hr0 st hc ho' (by simpa using hi') h1 hr' ?_ fun g' w' a' st'=>?_
   ·rw [hcount,hni]
    exact hpre i o ho' hW hix
   ·rw [←Lof_set (by omega)] at st'
    refine ih _ g' w' a' hsz hcl (fun j hj=>?_) ?_ hcnt st'
    ·rw [Lof_set (by omega)] at hj
     unfold setL at hj
     split at hj
     ·omega
     ·exact hls j hj
    ·rw [Lof_set (by omega)]
     unfold setL
     rw [zqo (fun e=>hix e.symm)]
     exact hlx
end
theorem draw_start {D:Draw} {E:Env} {H:PH} {Hs:List PH} {g:Gh} {w:World} {a:Act} (inv:Inv P g0 w0 H0 F0 N g w a E H) (h2:startOk D H Hs) (hrok:resOk D=true) :
  ∃g1,Inv P g0 w0 H0 F0 N g1 w a E (hk Hs 0)∧(∀i r,(i,r)∈D.res→g1.ι[D.base+r]? = some none)∧∀i r,(i,r)∈D.res→g0.ι[D.base+r]?≠some none:=by
 have hrl:∀i r,(i,r)∈D.res→r<D.robs.length:=fun i r hm=>by
  have:=List.all_eq_true.1 hrok _ hm
  simp only [zqb,Nat.blt_eq] at this
  exact this.1.1
 unfold startOk at h2
 split at h2
 ·rename_i hr
  rw [h2]
  refine ⟨g,inv,fun i r hm=>?_,fun i r hm=>?_⟩
  ·have:=hrl i r hm
   rw [hr] at this;simp at this
  ·have:=hrl i r hm
   rw [hr] at this;simp at this
 ·obtain ⟨h2,hb⟩:=h2
  have hlen:=inv.rel.h.len
  rw [h2]
  refine ⟨_,inv.reserve D.robs,fun i r hm=>?_,fun i r hm h=>?_⟩
  ·have:=hrl i r hm
   show (g.ι++D.robs.map fun _=>none)[D.base+r]? = some none
   rw [zqi (by omega),List.getElem?_map,zqc (by omega)]
   rfl
  ·have:=(zq1.1 (inv.step.nil _ h)).1
   omega
theorem draw_sound0 (hm:P.follows .mixedOrders=true) (hT:ttOk P tt=true) (hd:6≤P.depth) {id:Nat} {arr:Array Oper} {E:Env} {H:PH} {K:Env→PH→Prop} {Q':Exit→Act→World→Prop}
  {g:Gh} {w:World} {a:Act} (inv:Inv P g0 w0 H0 F0 N g w a E H) (hp:∃(D:Draw) (Hs:List PH),drawOk N arr.toList D=true∧startOk D H Hs∧pVers D Hs D.fs∧pDr P tt imm arr.toList D Hs 0 arr.toList E fun E'=>K E' (hk Hs (cnt D.isImp arr.toList.length))) (hk':∀g w a E H,Inv P g0 w0 H0 F0 N g w a E H→K E H→Q' .normal a w) :
  (Code.region id arr true).wp P Q' a w:=by
 obtain ⟨D,Hs,h1,h2,h3,h4⟩:=hp
 simp only [drawOk,zqb] at h1
 obtain ⟨⟨h1,hfs⟩,hrok⟩:=h1
 have hstart:=draw_start inv h2 hrok
 obtain ⟨g1,inv,hres,hr0⟩:=hstart
 obtain ⟨V,hV⟩:=pDr_V arr.toList 0 E E (fun k o h=>by simpa using h) h4
 obtain ⟨k1,k2⟩:=hV V (fun _ _=>rfl) rfl
 refine wp_region_any hm (draw_any (g0:=g0) (w0:=w0) (H0:=H0) (F0:=F0) (N:=N) (D:=D) (V:=V) (E0:=E) (Hs:=Hs) hT hd (fun i o ho=>?_) (fun j i s hm=>fsOk_spec (List.all_eq_true.1 hfs _ hm)) h3 hrok hr0 (fun j o ho=>k1 j o (Nat.zero_le _) (by rw [Nat.zero_add];exact (zq1.1 ho).1) ho) (fun g w a inv=>?_) arr.size _ g1 _ a (by simp) ?_ ?_ ?_)
 ·have:=allN_spec h1 i (zq1.1 ho).1
  rw [ho] at this
  exact opOk_spec this
 ·rw [Nat.zero_add] at k2
  exact hk' _ _ _ _ _ inv k2
 ·intro i o ho hl
  simp [Lof,Array.getD_eq_getD_getElem?,Array.getElem?_replicate] at hl
  split at hl <;> simp at hl
 ·have:∀n,cnt (fun j=>!Lof (Array.replicate arr.size false) j) n=n:=fun n=>by
   induction n with
   | zero=>rfl
   | succ n ih =>
    have:Lof (Array.replicate arr.size false) n=false:=by
     simp [Lof,Array.getD_eq_getD_getElem?,Array.getElem?_replicate]
     split <;> rfl
    simp only [cnt,ih,this]
    rfl
  exact this _
 ·have hL:∀j,Lof (Array.replicate arr.size false) j=false:=fun j=>by
   simp [Lof,Array.getD_eq_getD_getElem?,Array.getElem?_replicate]
   split <;> rfl
  refine ⟨?_,(fun j i s t hm hj=>by rw [hL] at hj;cases hj),fun i r hm _=>hres i r hm⟩
  have hc0:cnt (fun j=>D.isImp j&&Lof (Array.replicate arr.size false) j) arr.toList.length=0:=by
   rw [cnt_congr (p':=fun _=>false) fun j _=>by rw [hL,zq3]]
   generalize arr.toList.length=n
   induction n with
   | zero=>rfl
   | succ n ih=>simp only [cnt,ih]
  rw [hc0]
  have hov:∀n,ovl arr.toList D V E (Lof (Array.replicate arr.size false)) n=E:=fun n=>by
   induction n with
   | zero=>rfl
   | succ n ih=>simp only [ovl,hL,ih]
  rw [hov]
  exact inv.go rfl rfl rfl (zqn _) ⟨fun _ _ h=>h,fun _ _ h=>⟨h,rfl⟩,fun _ _ _=>rfl⟩ (fun _ _ h=>.inl h) (fun _ _ _ _=>⟨rfl,fun _ h=>h⟩) ⟨fun _ o h=>⟨o,h,zqn _⟩,fun _ _ _ _ _ h h' _=>rfl⟩
   (fun t i b h=>⟨rfl,fun _ h=>h,(inv.rel.own_lt h).2⟩) ⟨inv.rel.h.len,inv.rel.h.inj,fun id b o h1 h2=>inv.rel.h.fullKeep (w':={ w with drawn:=w.drawn+1 }) ⟨fun _ _ h=>h,fun _ _ h=>⟨h,rfl⟩,fun _ _ _=>rfl⟩ rfl h1 h2,fun id b o h1 h2 hk1=>by
    obtain ⟨vs,y1,y2,y3⟩:=inv.rel.h.obj id b o h1 h2 hk1
    refine ⟨vs,y1,y2,fun j c hj=>?_⟩
    obtain ⟨v,z1,z2⟩:=y3 j c hj
    exact ⟨v,z1,z2.mono ⟨fun _ _ h=>h,fun _ _ h=>⟨h,rfl⟩,fun _ _ _=>rfl⟩ fun b ho hb=>by
     obtain ⟨n,cs,e,_,_,hf⟩:=z2.own ho hb
     exact ⟨rfl,fun _ h=>h,hf.obj⟩⟩,inv.rel.h.imm⟩ (fun id j b h=>.inl h) (fun _ _ h=>h)
theorem tail_any {arr:Array Oper} {m:Nat} {Q':Exit→Act→World→Prop} (hback:∀i o,arr.toList[i]? = some o→∀e∈o.after.toList,Region.binds .any e=true→e.on<i)
  (htail:∀i o,arr.toList[i]? = some o→m≤i→∀j,j<i→W (ancs arr.toList []) i j=true) :
  ∀(fuel k:Nat) (listed:Array Bool) (a:Act) (w:World),k+fuel=arr.size→m≤k→listed.size=arr.size→(∀j,j<arr.size→Lof listed j=Nat.blt j k) →
   wpList P arr Q' (arr.toList.drop k) a w→wpAny P .any arr Q' fuel listed a w:=by
 have hun:∀(listed:Array Bool) (j:Nat),listed.size=arr.size→j<arr.size→listed.getD j true=listed.getD j false:=fun listed j hs hj=>by
  simp [Array.getD_eq_getD_getElem?,Array.getElem?_eq_getElem (show j<listed.size by omega)]
 intro fuel
 induction fuel with
 | zero =>
  intro k listed a w hf hm hs hl h
  rw [List.drop_eq_nil_of_le (by rw [Array.length_toList];omega)] at h
  refine ⟨?_,h⟩
  cases hr:Region.ready .any arr listed with
  | nil=>rfl
  | cons i r =>
   have hm:i∈Region.ready .any arr listed:=by rw [hr];exact List.mem_cons_self
   obtain ⟨h1,o,ho,_⟩:=mem_ready.1 hm
   have hi:=(Array.getElem?_eq_some_iff.1 ho).1
   rw [hun listed i hs hi] at h1
   have:=hl i hi
   unfold Lof at this
   rw [h1] at this
   have h2:Nat.blt i k=true:=by rw [Nat.blt_eq];omega
   rw [h2] at this;cases this
 | succ fuel ih =>
  intro k listed a w hf hm hs hl h
  have hkn:k<arr.size:=by omega
  have hkl:Lof listed k=false:=by rw [hl k hkn,blt_self]
  refine ⟨fun hr=>absurd hr (exists_ready hback hs k hkn (by rw [hun listed k hs hkn];exact hkl)),fun i hi=>?_⟩
  obtain ⟨h1,o,ho,hr⟩:=mem_ready.1 hi
  have hi':=(Array.getElem?_eq_some_iff.1 ho).1
  rw [hun listed i hs hi'] at h1
  have ho':arr.toList[i]? = some o:=by rw [Array.getElem?_toList];exact ho
  have hr':∀e∈o.after.toList,Region.binds .any e=true→Lof listed e.on=true:=fun e he hb=>hr e (by simpa using he) hb
  have hge:k≤i:=by
   rcases Nat.lt_or_ge i k with c | c
   ·have:=hl i hi'
    unfold Lof at this
    rw [h1,show Nat.blt i k=true by rw [Nat.blt_eq];exact c] at this;cases this
   ·exact c
  have hclosed:∀j oj,arr.toList[j]? = some oj→Lof listed j=true→∀e∈oj.after.toList,Region.binds .any e=true→Lof listed e.on=true:=fun j oj hoj hlj e he hb=>by
   have hjn:j<arr.size:=by have:=(zq1.1 hoj).1;simpa using this
   rw [hl j hjn,Nat.blt_eq] at hlj
   have:=hback j oj hoj e he hb
   rw [hl _ (by omega),Nat.blt_eq];omega
  have hik:i=k:=by
   rcases Nat.lt_or_ge k i with c | c
   ·have:=waits (L:=fun j=>Lof listed j=true) hclosed ho' (htail i o ho' (by omega) k c) hr'
    rw [hkl] at this;cases this
   ·omega
  subst hik
  have hd:arr.toList.drop i=o::arr.toList.drop (i+1):=by
   rw [List.drop_eq_getElem_cons (by simpa using hi')]
   congr 1
   have:=zqc (l:=arr.toList) (i:=i) (by simpa using hi')
   rw [ho'] at this
   exact (Option.some.inj this).symm
  rw [hd] at h
  have hnext:∀a w,wpList P arr Q' (arr.toList.drop (i+1)) a w→wpAny P .any arr Q' fuel (listed.setIfInBounds i true) a w:=fun a w h=>by
   refine ih (i+1) _ a w (by omega) (by omega) (by simpa using hs) (fun j hj=>?_) h
   rw [Lof_set (by omega)]
   unfold setL
   by_cases e:j=i
   ·subst e;rw [zqp rfl];symm;simp [Nat.blt_eq]
   ·rw [zqo e,hl j hj]
    have:(Nat.blt j i=true)↔(Nat.blt j (i+1)=true):=by simp only [Nat.blt_eq];omega
    exact Bool.eq_iff_iff.2 this
  unfold wpOp
  rw [ho]
  unfold wpList at h
  show if Region.wanted o (yielded arr a.tmps) then _ else _
  split
  ·rename_i hw
   rw [zqp hw] at h
   exact h.imp (Oper.wp_mono hnext) id
  ·rename_i hw
   rw [zqo hw] at h
   exact hnext _ _ h
theorem draw_tail_any (hT:ttOk P tt=true) (hd:6≤P.depth) {D:Draw} {V:Nat→PV} {E0:Env} {Hs:List PH} {arr:Array Oper} {m:Nat} {Q':Exit→Act→World→Prop} (hmn:m≤arr.size) (hfm:∀j i s,(j,i,s)∈D.fs→j<m∧i<m)
  (hok:∀i o,arr.toList[i]? = some o→i<m→OpOk N arr.toList D i o) (hfs:∀j i s,(j,i,s)∈D.fs→FsOk arr.toList j i s) (hver:pVers D Hs D.fs) (hrok:resOk D=true) (hr0:∀i r,(i,r)∈D.res→g0.ι[D.base+r]?≠some none)
  (hobl:∀j o,arr.toList[j]? = some o→j<m→pHs Hs (Obl P tt imm arr.toList D j o (ovl arr.toList D V E0 (fun _=>true) j) (V j)) (dOf (D.isImp j)) (D.winOf j).1 ((D.winOf j).2 - (D.winOf j).1))
  (hback:∀i o,arr.toList[i]? = some o→∀e∈o.after.toList,Region.binds .any e=true→e.on<i)
  (htail:∀i o,arr.toList[i]? = some o→m≤i→∀j,j<i→W (ancs arr.toList []) i j=true)
  (hq:∀g w a,Inv P g0 w0 H0 F0 N g w a (ovl arr.toList D V E0 (fun j=>Nat.blt j m) arr.toList.length) (hk Hs (cnt (fun j=>D.isImp j&&Nat.blt j m) arr.toList.length))→wpList P arr Q' (arr.toList.drop m) a w) :
  ∀(fuel:Nat) (listed:Array Bool) (g:Gh) (w:World) (a:Act),listed.size=arr.size→Closed arr.toList (Lof listed)→(∀j,Lof listed j=true→j<m)→cnt (fun j=>!Lof listed j) arr.size=fuel →
   DSt P g0 w0 H0 F0 N arr.toList D V E0 Hs (Lof listed) g w a→wpAny P .any arr Q' fuel listed a w:=by
 have hun:∀(listed:Array Bool) (j:Nat),listed.size=arr.size→j<arr.size→listed.getD j true=listed.getD j false:=fun listed j hs hj=>by
  simp [Array.getD_eq_getD_getElem?,Array.getElem?_eq_getElem (show j<listed.size by omega)]
 have hall:∀(fuel:Nat) (listed:Array Bool) (g:Gh) (w:World) (a:Act),listed.size=arr.size→(∀j,Lof listed j=true→j<m)→(∀j,j<m→Lof listed j=true)→cnt (fun j=>!Lof listed j) arr.size=fuel →
   DSt P g0 w0 H0 F0 N arr.toList D V E0 Hs (Lof listed) g w a→wpAny P .any arr Q' fuel listed a w:=fun fuel listed g w a hs hlm hml hf st=>by
  have hL:∀j,Lof listed j=Nat.blt j m:=fun j=>by
   rw [Bool.eq_iff_iff,Nat.blt_eq]
   exact ⟨hlm j,hml j⟩
  have hcn:cnt (fun j=>!Lof listed j) arr.size=arr.size - m:=by
   rw [cnt_congr (p':=fun j=>!Nat.blt j m) fun j _=>by rw [hL]]
   have:∀n,cnt (fun j=>!Nat.blt j m) n=n - m:=fun n=>by
    induction n with
    | zero=>simp [cnt]
    | succ n ih =>
     simp only [cnt,ih]
     cases hb:Nat.blt n m with
     | true=>rw [Nat.blt_eq] at hb;simp;omega
     | false =>
      have:¬n<m:=fun h=>by rw [←Nat.blt_eq] at h;rw [h] at hb;cases hb
      simp;omega
   exact this _
  refine tail_any hback htail fuel m listed a w (by omega) (zqn _) hs (fun j _=>hL j) (hq g w a ?_)
  have:=st.inv
  rw [cnt_congr (p:=fun j=>D.isImp j&&Lof listed j) (p':=fun j=>D.isImp j&&Nat.blt j m) fun j hj=>by rw [hL]] at this
  exact this.sub fun t=>.inl (ovl_cmp _ fun j hj _=>(hL j).symm)
 intro fuel
 induction fuel with
 | zero =>
  intro listed g w a hs hc hlm hf st
  refine hall 0 listed g w a hs hlm (fun j hj=>?_) hf st
  cases h:Lof listed j with
  | true=>rfl
  | false =>
   have h1:cnt (fun j'=>Nat.beq j' j) arr.size≤cnt (fun j=>!Lof listed j) arr.size:=cnt_mono fun j' hj' e=>by
    rw [zqg e,h];rfl
   have h2:cnt (fun j'=>Nat.beq j' j) arr.size=cnt (fun _=>false) arr.size+1:=cnt_put (i:=j) rfl (by simp) (fun j' e=>beq_ne e) (by omega)
   omega
 | succ fuel ih =>
  intro listed g w a hs hc hlm hf st
  by_cases hex:∃j,j<m∧Lof listed j=false
  ·obtain ⟨j0,hj0,hl0⟩:=hex
   refine ⟨fun hr=>absurd hr (exists_ready hback hs j0 (by omega) (by rw [hun listed j0 hs (by omega)];exact hl0)),fun i hi=>?_⟩
   obtain ⟨h1,o,ho,hr⟩:=mem_ready.1 hi
   have hi':=(Array.getElem?_eq_some_iff.1 ho).1
   rw [hun listed i hs hi'] at h1
   have hr':∀e∈o.after.toList,Region.binds .any e=true→Lof listed e.on=true:=fun e he hb=>hr e (by simpa using he) hb
   have ho':arr.toList[i]? = some o:=by rw [Array.getElem?_toList];exact ho
   have him:i<m:=by
    rcases Nat.lt_or_ge i m with c | c
    ·exact c
    ·have:=waits (L:=fun j=>Lof listed j=true) hc ho' (htail i o ho' c j0 (by omega)) hr'
     rw [hl0] at this;cases this
   refine dstep (m:=m) hT hd hfm hok hfs hver hrok hr0 hobl st hc ho' him h1 hr' fun g' w' a' st'=>?_
   rw [←Lof_set (by omega)] at st'
   refine ih _ g' w' a' (by simpa using hs) (by rw [Lof_set (by omega)];exact hc.set ho' hr') (fun j hj=>?_) ?_ st'
   ·rw [Lof_set (by omega)] at hj
    unfold setL at hj
    split at hj
    ·omega
    ·exact hlm j hj
   ·rw [Lof_set (by omega)]
    have:=cnt_put (p:=fun j=>!setL (Lof listed) i j) (p':=fun j=>!Lof listed j) (i:=i) (by simp [setL]) (by simp only [h1,Lof];rfl) (fun j hj=>by simp [setL,hj]) hi'
    omega
  ·refine hall _ listed g w a hs hlm (fun j hj=>?_) hf st
   cases h:Lof listed j with
   | true=>rfl
   | false=>exact absurd ⟨j,hj,h⟩ hex
theorem resP_get {ops:List Oper} {robs:List PObj}:∀{l:List (Nat×Nat)} {i r:Nat},resP tt ops robs l→(i,r)∈l→∃o T ti,ops[i]? = some o∧o.guard=none∧o.op=.alloc T∧tt.get T=some ti∧robs[r]? = some ⟨T,ti.zero,0⟩
 | (i',r')::l,i,r,h,hm=>by
  rcases List.mem_cons.1 hm with e | hm
  ·obtain ⟨e1,e2⟩:=Prod.mk.inj e
   rw [e1,e2]
   have h:=h.1
   cases ho:ops[i']? with
   | none=>rw [ho] at h;exact h.elim
   | some o =>
    rw [ho] at h
    obtain ⟨h1,h2⟩:=h
    split at h2
    ·rename_i T hT
     cases ht:tt.get T with
     | none=>rw [ht] at h2;exact h2.elim
     | some ti=>rw [ht] at h2;exact ⟨o,T,ti,rfl,h1,hT,ht,h2⟩
    ·exact h2.elim
  ·exact resP_get h.2 hm
theorem Obl_pre {ops:List Oper} {D:Draw} (hfs0:D.fs=[]) (j:Nat) (o:Oper) (E:Env) (v:PV) (H H':PH):Obl P tt imm ops D.pre j o E v H H'=Obl P tt imm ops D j o E v H H':=by
 unfold Obl pOpR
 rw [hfs0]
 rfl
theorem Obl_res {ops:List Oper} {D:Draw} {j r T:Nat} {o:Oper} {ti:TI} {E:Env} {v:PV} {H H':PH} (hr:D.resOf j=some r) (hg:o.guard=none) (ho:o.op=.alloc T) (ht:tt.get T=some ti) :
  Obl P tt imm ops D j o E v H H'↔(v=.ptr (some (D.base+r,0))∧H'=H∧pSrcs j none D.fs)∧H[D.base+r]? = some ⟨T,ti.zero,0⟩:=by
 unfold Obl
 rw [hg]
 show pOpR P tt imm ops D j o E v H H'↔_
 unfold pOpR
 rw [hr]
 simp only [ho,ht]
theorem draw_soundX (hm:P.follows .mixedOrders=true) (hT:ttOk P tt=true) (hd:6≤P.depth) {id:Nat} {arr:Array Oper} {E:Env} {H:PH} {K:Env→PH→Prop} {Q':Exit→Act→World→Prop}
  {g:Gh} {w:World} {a:Act} (inv:Inv P g0 w0 H0 F0 N g w a E H)
  (hp:∃(x:Nat) (D:Draw) (o:Oper) (X:PH),callOk N x arr.toList D=true∧arr.toList[x]? = some o∧startOk D H [X]∧resP tt arr.toList D.robs D.res ∧
   pDr P tt imm arr.toList D.pre [X] 0 (arr.toList.take x) E fun E1=>pOp P tt imm (restr arr.toList D x o E1) [] X o fun v _ _ _ H1 =>
    ∃Hs,hk Hs 1=H1∧pDr P tt imm arr.toList D Hs (x+1) (arr.toList.drop (x+1)) (stepO D x o v E1) fun E'=>K E' (hk Hs (cnt D.isImp arr.toList.length)))
  (hk':∀g w a E H,Inv P g0 w0 H0 F0 N g w a E H→K E H→Q' .normal a w):(Code.region id arr true).wp P Q' a w:=by
 obtain ⟨x,D,ox,X,h1,hox,h2,hresP,h4⟩:=hp
 simp only [callOk,zqb] at h1
 obtain ⟨⟨⟨⟨⟨⟨⟨⟨hdr,hfs⟩,himpx⟩,hrx⟩,hlx⟩,hgx⟩,hanc⟩,hdes⟩,himp⟩:=h1
 simp only [drawOk,zqb] at hdr
 obtain ⟨⟨hopk,_⟩,hrok⟩:=hdr
 have hfs0:D.fs=[]:=by simpa using hfs
 have hstart:=draw_start inv h2 hrok
 obtain ⟨g1,inv,hres,hr0⟩:=hstart
 have hxn:x<arr.toList.length:=(zq1.1 hox).1
 have hok:∀i o,arr.toList[i]? = some o→OpOk N arr.toList D i o:=fun i o ho=>by
  have:=allN_spec hopk i (zq1.1 ho).1
  rw [ho] at this
  exact opOk_spec this
 have hgx':ox.guard=none:=by
  rw [hox] at hgx
  simpa using hgx
 have hX:∀i r,(i,r)∈D.res→X[D.base+r]? = D.robs[r]?:=fun i r hm'=>by
  have hlt:=List.all_eq_true.1 hrok _ hm'
  simp only [zqb,Nat.blt_eq] at hlt
  have hlt:=hlt.1.1
  unfold startOk at h2
  split at h2
  ·rename_i hr;rw [hr] at hlt;simp at hlt
  ·obtain ⟨h2,hb⟩:=h2
   have h2:X=H++D.robs:=h2
   rw [h2,hb,zqi (by omega)]
   congr 1;omega
 have hrs:∀j,j<arr.toList.length→x<j→W (ancs arr.toList []) j x=false→∃r,D.resOf j=some r:=fun j hj hxj hw=>by
  have:=allN_spec hdes j hj
  rw [hw,zq8,show Nat.blt x j=true by rw [Nat.blt_eq];exact hxj,Bool.not_true,zq7] at this
  exact Option.isSome_iff_exists.1 this
 obtain ⟨V1,hV1⟩:=pDr_V (ops:=arr.toList) (arr.toList.take x) 0 E E (fun k o h=>by
  rw [zqs] at h
  split at h
  ·rw [Nat.zero_add];exact h
  ·cases h) h4
 obtain ⟨k1,k2⟩:=hV1 V1 (fun _ _=>rfl) rfl
 have hlen:0+(arr.toList.take x).length=x:=by rw [zqr];omega
 rw [hlen] at k1 k2
 obtain ⟨Vp,hVp⟩:∃Vp:Nat→PV,∀j,Vp j=if j<x then V1 j else match D.resOf j with | some r=>.ptr (some (D.base+r,0)) | none=>.undef:=⟨_,fun _=>rfl⟩
 have hE1:∀(V':Nat→PV) m,m≤x→(∀j,j<x→V' j=V1 j)→ovl arr.toList D V' E (fun _=>true) m=ovl arr.toList D.pre V1 E (fun _=>true) m:=fun V' m hmx hV'=>by
  rw [ovl_V (V':=V1) m fun j hj _=>hV' j (by omega)]
  exact ovl_D (D:=D) (D':=D.pre) rfl m
 have hVp1:∀j,j<x→Vp j=V1 j:=fun j hj=>by rw [hVp,zqp hj]
 refine wp_region_any hm (drawX_any (tt:=tt) (imm:=imm) (g0:=g0) (w0:=w0) (H0:=H0) (F0:=F0) (N:=N) (D:=D) (V:=Vp) (E0:=E) (X:=X) (x:=x) (ox:=ox)
  (C:=fun p H2=>∃Hs,hk Hs 1=H2∧pDr P tt imm arr.toList D Hs (x+1) (arr.toList.drop (x+1)) (stepO D x ox p (ovl arr.toList D Vp E (fun _=>true) x)) fun E'=>K E' (hk Hs (cnt D.isImp arr.toList.length)))
  hT hd hfs0 hok hrok hr0 hox hgx' himpx (fun j hj=>allN_spec hanc j hj) (fun j hj hne hji=>?_) (fun j o ho hw hne=>?_) ?_ (fun p H2 hC=>?_) arr.size _ g1 _ a (by simp) ?_ ?_ ?_ ?_ ?_)
 ·have:=allN_spec himp j hj
  rw [beq_ne hne,hji] at this
  simpa using this
 ·rcases Nat.lt_or_ge j x with c | c
  ·have hj:=k1 j o (Nat.zero_le _) c ho
   have hj:Obl P tt imm arr.toList D.pre j o (ovl arr.toList D.pre V1 E (fun _=>true) j) (V1 j) X X:=hj
   rw [Obl_pre hfs0,←hE1 Vp j (by omega) hVp1,←hVp1 j c] at hj
   exact hj
  ·obtain ⟨r,hr⟩:=hrs j (zq1.1 ho).1 (by omega) hw
   obtain ⟨o',T,ti,e1,e2,e3,e4,e5⟩:=resP_get hresP (getO_mem hr)
   rw [ho] at e1;cases e1
   rw [Obl_res hr e2 e3 e4]
   refine ⟨⟨?_,rfl,by rw [hfs0];trivial⟩,?_⟩
   ·rw [hVp,zqo (by omega),hr]
   ·rw [hX j r (getO_mem hr)];exact e5
 ·rw [hE1 Vp x (zqn _) hVp1]
  exact k2
 ·obtain ⟨Hs,hH,hdr⟩:=hC
  obtain ⟨V2,hV2⟩:=pDr_V (ops:=arr.toList) (arr.toList.drop (x+1)) (x+1) _ E (fun k o h=>by
   rw [zqt] at h;exact h) hdr
  obtain ⟨V',hV'⟩:∃V':Nat→PV,∀j,V' j=if j<x then V1 j else if j=x then p else V2 j:=⟨_,fun _=>rfl⟩
  have hl1:∀j,j<x→V' j=V1 j:=fun j hj=>by rw [hV',zqp hj]
  have hl2:V' x=p:=by rw [hV',zqo (by omega),zqp rfl]
  have hl3:∀j,x+1≤j→V' j=V2 j:=fun j hj=>by rw [hV',zqo (by omega),zqo (by omega)]
  have hstep:stepO D x ox p (ovl arr.toList D Vp E (fun _=>true) x)=ovl arr.toList D V' E (fun _=>true) (x+1):=by
   rw [hE1 Vp x (zqn _) hVp1,←hE1 V' x (zqn _) hl1]
   simp only [ovl,hox,hl2]
  obtain ⟨m1,m2⟩:=hV2 V' hl3 hstep
  have hn:x+1+(arr.toList.drop (x+1)).length=arr.toList.length:=by rw [List.length_drop];omega
  rw [hn] at m1 m2
  refine ⟨V',Hs,fun j o ho hw hne=>?_,hl2,hH,fun j o ho hj=>m1 j o hj (zq1.1 ho).1 ho,fun g w a inv=>hk' _ _ _ _ _ inv m2⟩
  rcases Nat.lt_or_ge j x with c | c
  ·rw [hl1 j c,hVp1 j c]
  ·have hjl:=(zq1.1 ho).1
   obtain ⟨r,hr⟩:=hrs j hjl (by omega) hw
   obtain ⟨o',T,ti,e1,e2,e3,e4,e5⟩:=resP_get hresP (getO_mem hr)
   rw [ho] at e1;cases e1
   have hob:=pHs_spec (m1 j o (by omega) hjl ho) _ (zqn _) (by omega)
   rw [Obl_res hr e2 e3 e4] at hob
   rw [hob.1.1,hVp,zqo (by omega),hr]
 ·intro i o ho hl
  simp [Lof,Array.getD_eq_getD_getElem?,Array.getElem?_replicate] at hl
  split at hl <;> simp at hl
 ·intro j hl
  simp [Lof,Array.getD_eq_getD_getElem?,Array.getElem?_replicate] at hl
  split at hl <;> simp at hl
 ·simp [Lof,Array.getD_eq_getD_getElem?,Array.getElem?_replicate]
  split <;> rfl
 ·have:∀n,cnt (fun j=>!Lof (Array.replicate arr.size false) j) n=n:=fun n=>by
   induction n with
   | zero=>rfl
   | succ n ih =>
    have:Lof (Array.replicate arr.size false) n=false:=by
     simp [Lof,Array.getD_eq_getD_getElem?,Array.getElem?_replicate]
     split <;> rfl
    simp only [cnt,ih,this]
    rfl
  exact this _
 ·have hL:∀j,Lof (Array.replicate arr.size false) j=false:=fun j=>by
   simp [Lof,Array.getD_eq_getD_getElem?,Array.getElem?_replicate]
   split <;> rfl
  refine ⟨?_,(fun j i s t hm hj=>by rw [hL] at hj;cases hj),fun i r hm _=>hres i r hm⟩
  have hc0:cnt (fun j=>D.isImp j&&Lof (Array.replicate arr.size false) j) arr.toList.length=0:=by
   rw [cnt_congr (p':=fun _=>false) fun j _=>by rw [hL,zq3]]
   generalize arr.toList.length=n
   induction n with
   | zero=>rfl
   | succ n ih=>simp only [cnt,ih]
  rw [hc0]
  have hov:∀n,ovl arr.toList D Vp E (Lof (Array.replicate arr.size false)) n=E:=fun n=>by
   induction n with
   | zero=>rfl
   | succ n ih=>simp only [ovl,hL,ih]
  rw [hov]
  exact inv.go rfl rfl rfl (zqn _) ⟨fun _ _ h=>h,fun _ _ h=>⟨h,rfl⟩,fun _ _ _=>rfl⟩ (fun _ _ h=>.inl h) (fun _ _ _ _=>⟨rfl,fun _ h=>h⟩) ⟨fun _ o h=>⟨o,h,zqn _⟩,fun _ _ _ _ _ h h' _=>rfl⟩
   (fun t i b h=>⟨rfl,fun _ h=>h,(inv.rel.own_lt h).2⟩) ⟨inv.rel.h.len,inv.rel.h.inj,fun id b o h1 h2=>inv.rel.h.fullKeep (w':={ w with drawn:=w.drawn+1 }) ⟨fun _ _ h=>h,fun _ _ h=>⟨h,rfl⟩,fun _ _ _=>rfl⟩ rfl h1 h2,fun id b o h1 h2 hk1=>by
    obtain ⟨vs,y1,y2,y3⟩:=inv.rel.h.obj id b o h1 h2 hk1
    refine ⟨vs,y1,y2,fun j c hj=>?_⟩
    obtain ⟨v,z1,z2⟩:=y3 j c hj
    exact ⟨v,z1,z2.mono ⟨fun _ _ h=>h,fun _ _ h=>⟨h,rfl⟩,fun _ _ _=>rfl⟩ fun b ho hb=>by
     obtain ⟨n,cs,e,_,_,hf⟩:=z2.own ho hb
     exact ⟨rfl,fun _ h=>h,hf.obj⟩⟩,inv.rel.h.imm⟩ (fun id j b h=>.inl h) (fun _ _ h=>h)
theorem draw_sound (hm:P.follows .mixedOrders=true) (hT:ttOk P tt=true) (hd:6≤P.depth) {id:Nat} {arr:Array Oper} {E:Env} {H:PH} {K:Env→PH→Prop} {Q':Exit→Act→World→Prop}
  {g:Gh} {w:World} {a:Act} (inv:Inv P g0 w0 H0 F0 N g w a E H) (hp:drawK P tt imm N arr.toList E H K) (hk':∀g w a E H,Inv P g0 w0 H0 F0 N g w a E H→K E H→Q' .normal a w) :
  (Code.region id arr true).wp P Q' a w:=by
 rcases hp.h with hp | ⟨m,D,Hs,h1,h2,h3,h4⟩ | hp
 ·exact draw_sound0 hm hT hd inv hp hk'
 rotate_left
 ·exact draw_soundX hm hT hd inv hp hk'
 simp only [tailOk,zqb] at h1
 obtain ⟨⟨⟨⟨⟨hmn,h1⟩,hfs⟩,hrok⟩,himp⟩,hres0⟩:=h1
 have hmn:m≤arr.toList.length:=zqh hmn
 have hmn':m≤arr.size:=by simpa using hmn
 obtain ⟨g1,inv,hres,hr0⟩:=draw_start inv h2 hrok
 obtain ⟨V,hV⟩:=pDr_V (ops:=arr.toList) (arr.toList.take m) 0 E E (fun k o h=>by
  rw [zqs] at h
  split at h
  ·rw [Nat.zero_add];exact h
  ·cases h) h4
 obtain ⟨k1,k2⟩:=hV V (fun _ _=>rfl) rfl
 have hlen:0+(arr.toList.take m).length=m:=by rw [zqr];omega
 rw [hlen] at k1 k2
 have hop:∀i o,arr.toList[i]? = some o→(i<m→OpOk N arr.toList D i o)∧(∀e∈o.after.toList,Region.binds .any e=true→e.on<i)∧(m≤i→∀j,j<i→W (ancs arr.toList []) i j=true):=fun i o ho=>by
  have:=allN_spec h1 i (zq1.1 ho).1
  rw [ho] at this
  cases hb:Nat.blt i m with
  | true =>
   have hb':i<m:=by simpa [Nat.blt_eq] using hb
   rw [hb] at this
   have hk:=opOk_spec this
   exact ⟨fun _=>hk,hk.back,fun h=>absurd h (by omega)⟩
  | false =>
   have hb':¬i<m:=fun h=>by rw [←Nat.blt_eq] at h;rw [h] at hb;cases hb
   rw [hb] at this
   simp only [zqb] at this
   refine ⟨fun h=>absurd h hb',fun e he hbd=>?_,fun _ j hj=>allN_spec this.2 j hj⟩
   have h5:=List.all_eq_true.1 this.1 e he
   rw [hbd] at h5
   simpa [Nat.blt_eq] using h5
 have hfm:∀j i s,(j,i,s)∈D.fs→j<m∧i<m:=fun j i s hm'=>by
  have:=List.all_eq_true.1 hfs _ hm'
  simp only [zqb,Nat.blt_eq] at this
  exact ⟨this.1.2,this.2⟩
 have hfs':∀j i s,(j,i,s)∈D.fs→FsOk arr.toList j i s:=fun j i s hm'=>by
  have:=List.all_eq_true.1 hfs _ hm'
  simp only [zqb] at this
  exact fsOk_spec this.1.1
 have hil:∀j,D.isImp j=true→j<m:=fun j hj=>by
  have:=List.all_eq_true.1 himp j (by simpa [Draw.isImp] using hj)
  simpa [Nat.blt_eq] using this
 have hcI:cnt (fun j=>D.isImp j&&Nat.blt j m) arr.toList.length=cnt D.isImp m:=by
  have:∀n,m≤n→cnt (fun j=>D.isImp j&&Nat.blt j m) n=cnt D.isImp m:=fun n=>by
   induction n with
   | zero =>
    intro h
    have:m=0:=by omega
    subst this;rfl
   | succ n ih =>
    intro h
    rcases Nat.lt_or_ge n m with c | c
    ·have e:n+1=m:=by omega
     rw [e]
     exact cnt_congr fun j hj=>by
      have:Nat.blt j m=true:=by rw [Nat.blt_eq];exact hj
      rw [this,zq6]
    ·simp only [cnt,ih c]
     have:(D.isImp n&&Nat.blt n m)=false:=by
      cases hn:D.isImp n with
      | false=>rfl
      | true=>have:=hil n hn;omega
     rw [this];rfl
  exact this _ hmn
 refine wp_region_any hm (draw_tail_any (g0:=g0) (w0:=w0) (H0:=H0) (F0:=F0) (N:=N) (D:=D) (V:=V) (E0:=E) (Hs:=Hs) (m:=m) hT hd hmn' hfm (fun i o ho=>(hop i o ho).1) hfs' h3 hrok hr0 (fun j o ho hj=>k1 j o (Nat.zero_le _) hj ho)
  (fun i o ho=>(hop i o ho).2.1) (fun i o ho=>(hop i o ho).2.2) (fun g w a inv=>?_) arr.size _ g1 _ a (by simp) ?_ ?_ ?_ ?_)
 ·rw [hcI] at inv
  refine pOps_sound hT hd hk' _ _ _ _ _ _ _ (inv.sub fun t=>.inl ?_) QRel.nil k2
  rw [ovl_prefix,Nat.min_eq_right (by simpa using hmn)]
 ·intro i o ho hl
  simp [Lof,Array.getD_eq_getD_getElem?,Array.getElem?_replicate] at hl
  split at hl <;> simp at hl
 ·intro j hl
  simp [Lof,Array.getD_eq_getD_getElem?,Array.getElem?_replicate] at hl
  split at hl <;> simp at hl
 ·have:∀n,cnt (fun j=>!Lof (Array.replicate arr.size false) j) n=n:=fun n=>by
   induction n with
   | zero=>rfl
   | succ n ih =>
    have:Lof (Array.replicate arr.size false) n=false:=by
     simp [Lof,Array.getD_eq_getD_getElem?,Array.getElem?_replicate]
     split <;> rfl
    simp only [cnt,ih,this]
    rfl
  exact this _
 ·have hL:∀j,Lof (Array.replicate arr.size false) j=false:=fun j=>by
   simp [Lof,Array.getD_eq_getD_getElem?,Array.getElem?_replicate]
   split <;> rfl
  refine ⟨?_,(fun j i s t hm hj=>by rw [hL] at hj;cases hj),fun i r hm _=>hres i r hm⟩
  have hc0:cnt (fun j=>D.isImp j&&Lof (Array.replicate arr.size false) j) arr.toList.length=0:=by
   rw [cnt_congr (p':=fun _=>false) fun j _=>by rw [hL,zq3]]
   generalize arr.toList.length=n
   induction n with
   | zero=>rfl
   | succ n ih=>simp only [cnt,ih]
  rw [hc0]
  have hov:∀n,ovl arr.toList D V E (Lof (Array.replicate arr.size false)) n=E:=fun n=>by
   induction n with
   | zero=>rfl
   | succ n ih=>simp only [ovl,hL,ih]
  rw [hov]
  exact inv.go rfl rfl rfl (zqn _) ⟨fun _ _ h=>h,fun _ _ h=>⟨h,rfl⟩,fun _ _ _=>rfl⟩ (fun _ _ h=>.inl h) (fun _ _ _ _=>⟨rfl,fun _ h=>h⟩) ⟨fun _ o h=>⟨o,h,zqn _⟩,fun _ _ _ _ _ h h' _=>rfl⟩
   (fun t i b h=>⟨rfl,fun _ h=>h,(inv.rel.own_lt h).2⟩) ⟨inv.rel.h.len,inv.rel.h.inj,fun id b o h1 h2=>inv.rel.h.fullKeep (w':={ w with drawn:=w.drawn+1 }) ⟨fun _ _ h=>h,fun _ _ h=>⟨h,rfl⟩,fun _ _ _=>rfl⟩ rfl h1 h2,fun id b o h1 h2 hk1=>by
    obtain ⟨vs,y1,y2,y3⟩:=inv.rel.h.obj id b o h1 h2 hk1
    refine ⟨vs,y1,y2,fun j c hj=>?_⟩
    obtain ⟨v,z1,z2⟩:=y3 j c hj
    exact ⟨v,z1,z2.mono ⟨fun _ _ h=>h,fun _ _ h=>⟨h,rfl⟩,fun _ _ _=>rfl⟩ fun b ho hb=>by
     obtain ⟨n,cs,e,_,_,hf⟩:=z2.own ho hb
     exact ⟨rfl,fun _ h=>h,hf.obj⟩⟩,inv.rel.h.imm⟩ (fun id j b h=>.inl h) (fun _ _ h=>h)
end
end Ps
/- PSem, part 19: code; results; a call. -/
namespace Ps
open Go
section
variable {P : Program} {tt : TT} {imm : List Nat} {g0 : Gh} {w0 : World} {H0 : PH} {F0 : Nat → Prop} {N : Nat}
def exOf:Ex→Exit
 | .normal=>.normal
 | .ret=>.ret
 | .exit n=>.exit n
theorem subE_get:∀{E' E:Env},subE E' E→∀t,E'.get t=E.get t∨E'.get t=.undef
 | [],E,_,t=>.inr rfl
 | (s,v)::r,E,h,t=>by
  rw [Env.get_cons]
  by_cases e:s=t
  ·subst e;rw [zqp rfl];exact .inl h.1.symm
  ·rw [zqo e];exact subE_get h.2 t
theorem pCode_sound (hm:P.follows .mixedOrders=true) (hT:ttOk P tt=true) (hd:6≤P.depth):∀(c:Code) (K:Ex→Env→PH→Prop) (Q':Exit→Act→World→Prop)
  (_hk:∀e g w a E H,Inv P g0 w0 H0 F0 N g w a E H→K e E H→Q' (exOf e) a w) (g:Gh) (w:World) (a:Act) (E:Env) (H:PH),Inv P g0 w0 H0 F0 N g w a E H→pCode P tt imm N c E H K→c.wp P Q' a w:=by
 intro c
 induction c with
 | skip=>intro K Q' hk g w a E H inv hp;exact Go.wp_skip (hk .normal _ _ _ _ _ inv hp)
 | ret=>intro K Q' hk g w a E H inv hp;exact Go.wp_ret (hk .ret _ _ _ _ _ inv hp)
 | exit i=>intro K Q' hk g w a E H inv hp;exact Go.wp_exit (hk (.exit i) _ _ _ _ _ inv hp)
 | region i ops draw =>
  intro K Q' hk g w a E H inv hp
  unfold pCode at hp
  have hreg:∀(b:(Env→PH→Prop)→Prop),regK imm i b (K .normal)→(∀K',b K'→(∀g w a E H,Inv P g0 w0 H0 F0 N g w a E H→K' E H→Q' .normal a w)→Code.wp P (.region i ops draw) Q' a w)→Code.wp P (.region i ops draw) Q' a w:=fun b h hb=>by
   unfold regK at h
   split at h
   ·obtain ⟨S,st,sh,ok,h1,h2⟩:=h.h
    exact hb _ h1 fun g w a E H inv ⟨s,k1,k2,k3⟩=>hk .normal _ _ _ _ _ (by rw [←k3];exact inv.sub (subE_get k2)) (h2 s k1)
   ·exact hb _ h fun g w a E H inv h=>hk .normal _ _ _ _ _ inv h
  cases draw with
  | true=>exact hreg _ hp fun K' h1 h2=>draw_sound hm hT hd inv h1 h2
  | false=>exact hreg _ hp fun K' h1 h2=>wp_region_list (pOps_sound hT hd h2 _ _ _ _ _ _ _ inv QRel.nil h1)
 | seq x y ihx ihy =>
  intro K Q' hk g w a E H inv hp
  unfold pCode at hp
  refine Go.wp_seq (ihx _ _ (fun e g w a E H inv h=>?_) _ _ _ _ _ inv hp)
  cases e with
  | normal=>exact ihy K Q' hk _ _ _ _ _ inv h
  | ret=>exact hk .ret _ _ _ _ _ inv h
  | exit j=>exact hk (.exit j) _ _ _ _ _ inv h
 | cond c x y ihx ihy =>
  intro K Q' hk g w a E H inv hp
  unfold pCode at hp
  split at hp
  ·rename_i t ht
   have hv:=opnd_VC inv.rel c
   rw [ht] at hv
   split at hp
   ·exact Go.wp_cond_true hv.bool (ihx K Q' hk _ _ _ _ _ inv hp)
   ·exact Go.wp_cond_false hv.bool (ihy K Q' hk _ _ _ _ _ inv hp)
  ·exact hp.elim
 | block i x ih =>
  intro K Q' hk g w a E H inv hp
  unfold pCode at hp
  refine Go.wp_block (ih _ _ (fun e g w a E H inv h=>?_) _ _ _ _ _ inv hp)
  cases e with
  | normal=>exact hk .normal _ _ _ _ _ inv h
  | ret=>exact hk .ret _ _ _ _ _ inv h
  | exit j =>
   dsimp only at h
   split at h
   ·rename_i hb
    have hb:=zqg hb
    simp only [exOf,Exit.inBlock,hb,if_true]
    exact hk .normal _ _ _ _ _ inv h
   ·rename_i hb
    have hb:j≠i:=fun e=>by rw [e] at hb;simp at hb
    simp only [exOf,Exit.inBlock,hb,if_false]
    exact hk (.exit j) _ _ _ _ _ inv h
 | loop x ih =>
  intro K Q' hk g w a E H inv hp
  unfold pCode at hp
  obtain ⟨S,st,sh,ok,μ,⟨s0,k1,k2,k3⟩,hround⟩:=hp.h
  refine Go.wp_loop_ghost (fun n a w=>∃s g,ok s∧μ s=n∧Inv P g0 w0 H0 F0 N g w a (st s) (sh s)) (μ s0) ⟨s0,g,k1,rfl,by rw [←k3];exact inv.sub (subE_get k2)⟩ ?_
  rintro n a w ⟨s,g,h1,rfl,h3⟩
  refine ih _ _ (fun e g w a E H inv h=>?_) _ _ _ _ _ h3 (hround s h1)
  cases e with
  | normal =>
   obtain ⟨s',j1,j2,j3,j4⟩:=h
   exact ⟨μ s',j4,s',g,j1,rfl,by rw [←j3];exact inv.sub (subE_get j2)⟩
  | ret=>exact hk .ret _ _ _ _ _ inv h
  | exit j=>exact hk (.exit j) _ _ _ _ _ inv h
 | _=>intro K Q' hk g w a E H inv hp;exact hp.elim
/-! ### results -/
theorem frc_untup {p:PV} {K:PV→Prop} (h:frc (untup p) K):K (untup p):=by rw [frc_eq] at h;exact h
theorem untup_own {p:PV} (h:isOwn (untup p)=true):untup p=p∧isOwn p=true:=by
 cases p <;> first | exact ⟨rfl,h⟩ | cases h
theorem VC.untup {g:Gh} {w:World} {v:Value} {p:PV} (h:VC P g w v p):VH P g w v (Ps.untup p):=by
 cases p with
 | tup cs=>exact .inl (.undef _)
 | _=>exact h
def rdRes (a:Act):ResultVar→Sem Value
 | .tmp t=>pure (a.tmps.getD t undef)
 | .cell x t=>do loadVar t (←asAddr (a.tmps.getD x undef))
theorem run_rdRes_tmp (a:Act) (t:Nat) (w:World):(rdRes a (.tmp t)).run P w=.ok (vals a t) w:=rfl
theorem run_pLoad (hT:ttOk P tt=true) {g:Gh} {w:World} {H:PH} {T:Nat} {v:Value} {x:PV} {K:PV→Option Src→Prop} (hh:RelH P g w H) (hx:VC P g w v x) (hp:pLoad tt T x H K) :
  ∃b off u p s,v=.pointer (some ⟨b,off,none⟩)∧(loadVar T ⟨b,off,none⟩).run P w=.ok u w∧V g w u p∧K p s:=by
 unfold pLoad at hp
 split at hp
 ·rename_i i hi
  have hTi:=tis hT hi
  split at hp
  ·rename_i cs
   obtain ⟨b,off,hvb,himm⟩:=(plain_of hx (by simp) (by simp)).inv_elem
   obtain ⟨u,p,h1,h2,h3⟩:=run_pRead hTi (himm.cells (P:=P)) hp
   exact ⟨b,off,u,p,none,hvb,h1,h2,h3⟩
  ·rename_i id off
   obtain ⟨b,hvb,hib,hkd⟩:=(plain_of hx (by simp) (by simp)).inv_ptr
   split at hp
   ·rename_i ob hid
    have hcells:=(Cells.obj hh hid hib hkd).drop off
    rw [Nat.zero_add] at hcells
    split at hp
    ·rename_i ha
     rw [dropN_eq] at hp
     obtain ⟨u,p,h1,h2,h3⟩:=run_pRead hTi hcells hp
     exact ⟨b,off,u,p,none,hvb,h1,h2,h3⟩
    ·rename_i ha
     rw [dropN_eq] at hp
     cases hd:ob.cs.drop off with
     | nil=>rw [hd] at hp;exact hp.elim
     | cons c r =>
      rw [hd] at hp hcells
      obtain ⟨u,h1,h2⟩:=hcells 0 c rfl
      rw [Nat.add_zero] at h1
      have hrun:(loadVar T ⟨b,off,none⟩).run P w=.ok u w:=by
       simp [loadVar,hTi.run_isAgg,ha,h1]
      simp only at hp
      split at hp
      ·rename_i n cs e
       exact ⟨b,off,u,_,_,hvb,hrun,h2.dem,hp⟩
      ·rename_i hns
       rw [frc_eq] at hp
       have hv:V g w u c:=by
        rcases h2 with h2 | ⟨n,cs,e,_,rfl,_⟩
        ·exact h2
        ·exact absurd rfl (hns n cs e)
       exact ⟨b,off,u,_,_,hvb,hrun,hv,hp⟩
   ·exact hp.elim
  ·exact hp.elim
 ·exact hp.elim
theorem pRes_sound (hT:ttOk P tt=true) {g:Gh} {w:World} {a:Act} {H:PH}:∀(rs:List ResultVar) (E:Env) (K:List PV→Prop),Inv P g0 w0 H0 F0 N g w a E H→pRes tt H rs E K →
  ∃(vs:List Value) (ps:List PV),(rs.mapM (rdRes a)).run P w=.ok vs w∧K ps∧vs.length=ps.length ∧
   (∀(j:Nat) (c:PV),ps[j]? = some c→∃v,vs[j]? = some v∧VH P g w v c) ∧
   (∀(j:Nat) (c:PV) (v:Value) (b:Nat),ps[j]? = some c→isOwn c=true→vs[j]? = some v→blk v=some b→∃t,ownAt (vals a t) (E.get t) 0 b) ∧
   ∀(j j':Nat) (c c':PV) (v v':Value) (b:Nat),ps[j]? = some c→isOwn c=true→vs[j]? = some v→blk v=some b→ps[j']? = some c'→isOwn c'=true→vs[j']? = some v'→blk v'=some b→j=j'
 | [],E,K,inv,hp=>⟨[],[],rfl,hp,rfl,fun j c h=>by simp at h,fun j c v b h=>by simp at h,fun j j' c c' v v' b h=>by simp at h⟩
 | .tmp t::rs,E,K,inv,hp=>by
  unfold pRes at hp
  have hp:=frc_untup hp
  have hv:=(inv.rel.e t).untup
  have hinv:Inv P g0 w0 H0 F0 N g w a ((t,dem (untup (E.get t)))::E) H:=by
   have hdv:V g w (vals a t) (dem (untup (E.get t))):=hv.dem
   exact inv.weaken hdv.vc (fun i b ho=>absurd ho (no_own hdv i b))
  obtain ⟨vs,ps,h1,h2,h3,h4,h5,h6⟩:=pRes_sound hT rs _ _ hinv hp
  have hget:∀t' b,ownAt (vals a t') (Env.get ((t,dem (untup (E.get t)))::E) t') 0 b→t'≠t∧ownAt (vals a t') (E.get t') 0 b:=fun t' b h=>by
   rw [Env.get_cons] at h
   by_cases e:t=t'
   ·rw [zqp e] at h
    have hd:=dem_own (untup (E.get t))
    exfalso
    revert h
    have hnt:∀cs,dem (untup (E.get t))≠.tup cs:=fun cs=>by cases E.get t <;> simp [dem,untup]
    cases hx:dem (untup (E.get t)) with
    | tup cs=>exact absurd hx (hnt cs)
    | _=>rw [hx] at hd;intro h;rw [h.2.1] at hd;cases hd
   ·rw [zqo e] at h;exact ⟨Ne.symm e,h⟩
  have hhead:∀b,isOwn (untup (E.get t))=true→blk (vals a t)=some b→ownAt (vals a t) (E.get t) 0 b:=fun b ho hb=>by
   obtain ⟨k1,k2⟩:=untup_own ho
   cases hx:E.get t with
   | slice n cs o=>rw [hx] at k2;exact ⟨rfl,k2,hb⟩
   | _=>rw [hx] at k2;cases k2
  refine ⟨vals a t::vs,untup (E.get t)::ps,by simp [List.mapM_cons,h1,run_rdRes_tmp],h2,by simp [h3],fun j c hj=>?_,fun j c v b hj ho hv' hb=>?_,fun j j' c c' v v' b hj ho hv1 hb hj' ho' hv2 hb'=>?_⟩
  ·cases j with
   | zero=>cases hj;exact ⟨_,rfl,hv⟩
   | succ j=>exact h4 j c hj
  ·cases j with
   | zero=>cases hj;cases hv';exact ⟨t,hhead b ho hb⟩
   | succ j =>
    obtain ⟨t',ht'⟩:=h5 j c v b hj ho hv' hb
    exact ⟨t',(hget t' b ht').2⟩
  ·cases j with
   | zero =>
    cases j' with
    | zero=>rfl
    | succ j' =>
     cases hj;cases hv1
     obtain ⟨t',ht'⟩:=h5 j' c' v' b hj' ho' hv2 hb'
     obtain ⟨n1,n2⟩:=hget t' b ht'
     exact absurd (inv.rel.ss t 0 t' 0 b (hhead b ho hb) n2).1 (Ne.symm n1)
   | succ j =>
    cases j' with
    | zero =>
     cases hj';cases hv2
     obtain ⟨t',ht'⟩:=h5 j c v b hj ho hv1 hb
     obtain ⟨n1,n2⟩:=hget t' b ht'
     exact absurd (inv.rel.ss t 0 t' 0 b (hhead b ho' hb') n2).1 (Ne.symm n1)
    | succ j'=>rw [h6 j j' c c' v v' b hj ho hv1 hb hj' ho' hv2 hb']
 | .cell x T::rs,E,K,inv,hp=>by
  unfold pRes at hp
  obtain ⟨b0,off,u,p,s,e1,e2,e3,hp⟩:=run_pLoad hT inv.rel.h (inv.rel.e x) hp
  obtain ⟨vs,ps,h1,h2,h3,h4,h5,h6⟩:=pRes_sound hT rs _ _ inv hp
  have hrd:(rdRes a (.cell x T)).run P w=.ok u w:=by
   have e1:a.tmps.getD x undef=.pointer (some ⟨b0,off,none⟩):=e1
   unfold rdRes
   simp only [e1,asAddr,Sem.run_bind,Sem.run_pure,Result.andThen_ok,e2]
  refine ⟨u::vs,p::ps,by simp [List.mapM_cons,h1,hrd],h2,by simp [h3],fun j c hj=>?_,fun j c v b hj ho hv' hb=>?_,fun j j' c c' v v' b hj ho hv1 hb hj' ho' hv2 hb'=>?_⟩
  ·cases j with
   | zero=>cases hj;exact ⟨_,rfl,.inl e3⟩
   | succ j=>exact h4 j c hj
  ·cases j with
   | zero=>cases hj;cases hv';rw [e3.own_blk ho] at hb;cases hb
   | succ j=>exact h5 j c v b hj ho hv' hb
  ·cases j with
   | zero=>cases hj;cases hv1;rw [e3.own_blk ho] at hb;cases hb
   | succ j =>
    cases j' with
    | zero=>cases hj';cases hv2;rw [e3.own_blk ho'] at hb';cases hb'
    | succ j'=>rw [h6 j j' c c' v v' b hj ho hv1 hb hj' ho' hv2 hb']
theorem results_eq (fn:Func) (a:Act) {w:World} {vs:List Value} (h:(fn.results.toList.mapM (rdRes a)).run P w=.ok vs w) :
  (results fn a.tmps).run P w=.ok (if h:vs.length=1 then vs[0] else .tuple vs.toArray) w:=by
 have he:results fn a.tmps=(do
   let vs ←fn.results.mapM (rdRes a)
   pure (if h:vs.size=1 then vs[0] else .tuple vs)):=by
  unfold results
  congr 2
 rw [he,Array.mapM_eq_mapM_toList]
 simp only [Sem.run_bind,Sem.run_map,h,Result.andThen_ok]
 simp
theorem run_callFunc_body {f : Nat} {fn : Func} {vs : Array Value} {w : World} (hf : P.funcs[f]? = some fn) (hname : (fn.name == "runtime.NumGoroutine") = false) (hb : fn.body.isNone = false) :
  (callFunc f vs).run P w=.ok (.enter f vs) w:=by
 have h1 : ¬ fn.name = "runtime.NumGoroutine" := by simpa using hname
 have h2:¬fn.body=none:=fun e=>by rw [e] at hb;cases hb
 simp [callFunc,hf,h1,h2]
def valRes (vs:List Value):Value:=if h:vs.length=1 then vs[0] else .tuple vs.toArray
theorem VH.vc {g:Gh} {w:World} {v:Value} {p:PV} (h:VH P g w v p):VC P g w v p:=by
 cases p with
 | tup cs =>
  rcases h with h | ⟨_,_,_,_,h,_⟩
  ·cases h
  ·cases h
 | _=>exact h
theorem VH.not_tup {g:Gh} {w:World} {v:Value} {cs:List PV} (h:VH P g w v (.tup cs)):False:=by
 rcases h with h | ⟨_,_,_,_,h,_⟩
 ·cases h
 ·cases h
theorem res_VC {g:Gh} {w:World} {vs:List Value} {ps:List PV} (hl:vs.length=ps.length) (hv:∀(j:Nat) (c:PV),ps[j]? = some c→∃v,vs[j]? = some v∧VH P g w v c) :
  VC P g w (valRes vs) (tupOf ps)∧∀i b,ownAt (valRes vs) (tupOf ps) i b→∃c u,ps[i]? = some c∧isOwn c=true∧vs[i]? = some u∧blk u=some b:=by
 by_cases h1:ps.length=1
 ·match ps,vs,h1,hl with
  | [p],[u],_,_ =>
   obtain ⟨u',hu,hvh⟩:=hv 0 p rfl
   cases hu
   refine ⟨hvh.vc,fun i b ho=>?_⟩
   have ho:ownAt u p i b:=ho
   cases p with
   | tup cs=>exact hvh.not_tup.elim
   | _=>exact ⟨_,u,by rw [ho.1];rfl,ho.2.1,by rw [ho.1];rfl,ho.2.2⟩
 ·have h2:tupOf ps=.tup ps:=by
   match ps,h1 with
   | [],_=>rfl
   | _::_::_,_=>rfl
  have h3:valRes vs=.tuple vs.toArray:=by
   unfold valRes;rw [dif_neg (by omega)]
  rw [h2,h3]
  refine ⟨⟨vs.toArray,rfl,by simp [hl],fun j c hj=>?_⟩,fun i b ⟨c,hc,ho,vs',he,hb⟩=>?_⟩
  ·obtain ⟨v,k1,k2⟩:=hv j c hj
   rw [Array.getD_eq_getD_getElem?];simp [k1,k2]
  ·cases he
   obtain ⟨v,k1,k2⟩:=hv i c hc
   refine ⟨c,v,hc,ho,k1,?_⟩
   rw [Array.getD_eq_getD_getElem?] at hb;simpa [k1] using hb
theorem callOk_of_pFun {f:Nat} {fn:Func} {args:List PV} {H:PH} {Q:PV→PH→Prop} (hm:P.follows .mixedOrders=true) (hT:ttOk P tt=true) (hd:6≤P.depth) (hf:P.funcs[f]? = some fn)
  (hname : (fn.name == "runtime.NumGoroutine") = false) (hp : pFun P tt imm fn args H Q) : CK P f args H Q := by
 intro g w vs hs hr
 unfold pFun at hp
 split at hp
 ·rename_i c hc
  split at hp
  ·rename_i hle
   have hle:args.length≤fn.ntmps:=zqh hle
   refine .inl ⟨run_callFunc_body hf hname (by rw [hc];rfl),calls_of_wp hf hc ?_⟩
   have hval:∀t,vals { tmps:=vs++Array.replicate (fn.ntmps - vs.size) undef,defers:=[] } t=valOf vs t:=fun t=>by
    simp only [vals,valOf,Array.getD_eq_getD_getElem?]
    rcases Nat.lt_or_ge t vs.size with h | h
    ·rw [Array.getElem?_append_left h]
    ·rw [Array.getElem?_append_right h,Array.getElem?_eq_none h,Array.getElem?_replicate]
     split <;> rfl
   have hV:∀t,V g w (valOf vs t) (Env.get (args0 0 (args.map dem)) t):=fun t=>by
    have:=(hr.e t).dem
    rw [args0_get] at this ⊢
    simp only [Nat.zero_le,if_true,Nat.sub_zero,List.getD_eq_getElem?_getD,List.getElem?_map] at this ⊢
    cases h:args[t]? with
    | none=>exact .undef _
    | some p=>rw [h] at this;exact this
   have hinv:Inv P g w H (cellOwn g w H) fn.ntmps g w { tmps:=vs++Array.replicate (fn.ntmps - vs.size) undef,defers:=[] } (args0 0 (args.map dem)) H:=by
    have hrel:Rel P g w (valOf vs) (args0 0 (args.map dem)) H:=⟨hr.h,fun t=>(hV t).vc,fun t i t' i' b h=>absurd h (no_own (hV t) i b),fun t i b h=>absurd h (no_own (hV t) i b),hr.cc⟩
    refine ⟨?_,by simp;omega,rfl,⟨Same.refl _ _ _,rfl,rfl,rfl,zqn _,Keeps.refl _ _,fun _ _ h=>.inl h,fun b _ _ _=>⟨rfl,fun o h=>h⟩,fun _ h=>h⟩,fun t i b h=>?_,fun b h=>.inr h⟩
    ·rw [show vals { tmps:=vs++Array.replicate (fn.ntmps - vs.size) undef,defers:=[] }=valOf vs from funext hval];exact hrel
    ·rw [hval] at h;exact absurd h (no_own (hV t) i b)
   refine pCode_sound hm hT hd c _ _ (fun e g' w' a E H' inv hk=>?_) _ _ _ _ _ hinv hp
   have fin:∀(hk:pRes tt H' fn.results.toList E fun vs=>Q (tupOf vs) H'),a.defers=[]∧∃v,(results fn a.tmps).run P w'=.ok v w' ∧
     ∃v' r H2 g2,Ending.returned v=.returned v'∧Q r H2∧Rel P g2 w' (one v') [(0,r)] H2∧Step g w H (cellOwn g w H) g2 w' H2∧(∀i b,ownAt v' r i b→w.heap.size≤b∨cellOwn g w H b) ∧
      ∀b,cellOwn g2 w' H2 b→w.heap.size≤b∨cellOwn g w H b:=fun hk=>by
    obtain ⟨us,ps,h1,h2,h3,h4,h5,h6⟩:=pRes_sound hT fn.results.toList E _ inv hk
    obtain ⟨j1,j2⟩:=res_VC h3 h4
    refine ⟨inv.defers,valRes us,results_eq fn a h1,_,tupOf ps,H',g',rfl,h2,⟨inv.rel.h,fun t=>?_,fun t i t' i' b ho ho'=>?_,fun t i b ho=>?_,inv.rel.cc⟩,inv.step,fun i b ho=>?_,inv.cown⟩
    ·rw [Env.get_cons]
     unfold one
     by_cases e:t=0
     ·rw [zqp e,zqp e.symm];exact j1
     ·rw [zqo e,zqo (Ne.symm e)];exact (V.undef _).vc
    ·rw [Env.get_cons] at ho ho'
     unfold one at ho ho'
     by_cases e:t=0
     ·by_cases e':t'=0
      ·rw [zqp e,zqp e.symm] at ho
       rw [zqp e',zqp e'.symm] at ho'
       obtain ⟨c,u,y1,y2,y3,y4⟩:=j2 i b ho
       obtain ⟨c',u',z1,z2,z3,z4⟩:=j2 i' b ho'
       exact ⟨e.trans e'.symm,h6 i i' c c' u u' b y1 y2 y3 y4 z1 z2 z3 z4⟩
      ·rw [zqo (Ne.symm e')] at ho';cases ho'.2.1
     ·rw [zqo (Ne.symm e)] at ho;cases ho.2.1
    ·rw [Env.get_cons] at ho
     unfold one at ho
     by_cases e:t=0
     ·rw [zqp e,zqp e.symm] at ho
      obtain ⟨c,u,y1,y2,y3,y4⟩:=j2 i b ho
      obtain ⟨t',ht'⟩:=h5 i c u b y1 y2 y3 y4
      exact inv.rel.sc t' 0 b ht'
     ·rw [zqo (Ne.symm e)] at ho;cases ho.2.1
    ·obtain ⟨c,u,y1,y2,y3,y4⟩:=j2 i b ho
     obtain ⟨t',ht'⟩:=h5 i c u b y1 y2 y3 y4
     exact inv.own t' 0 b ht'
   cases e with
   | normal=>exact fin hk
   | ret=>exact fin hk
   | exit i=>exact hk.elim
  ·exact hp.elim
 ·exact hp.elim
end
end Ps
/- PSem, part 20: what the walks use. -/
namespace Ps
open Go
theorem cO {P:Program} {f:Nat} {args:List PV} {H:PH} {Q K:PV→PH→Prop} (h:CK P f args H Q) (hq:∀r H',Q r H'→K r H'):callK P f args H K:=by
 exact ⟨h.mono hq⟩
def Pure (P:Program) (f:Nat) (args:List PV) (v:PV):Prop:=∀H,CK P f args H fun r H'=>r=v∧H'=H
theorem cP {P:Program} {f:Nat} {args:List PV} {H:PH} {v:PV} {K:PV→PH→Prop} (h:Pure P f args v) (hq:K v H):callK P f args H K :=
 cO (h H) fun r H' ⟨h1,h2⟩=>by subst h1;subst h2;exact hq
theorem cA {P:Program} {f:Nat} {args args':List PV} {H:PH} {K:PV→PH→Prop} (h:args=args') (k:callK P f args' H K):callK P f args H K:=h▸k
theorem Pure.of_eq {P:Program} {f:Nat} {args:List PV} {v v':PV} (h:Pure P f args v) (e:v=v'):Pure P f args v':=e▸h
theorem lO {b:Env→PH→(Ex→Env→PH→Prop)→Prop} {E:Env} {H:PH} {K:Ex→Env→PH→Prop} (S:Type) (st:S→Env) (sh:S→PH) (ok:S→Prop) (μ:S→Nat)
  (h0:∃s,ok s∧subE (st s) E∧H=sh s)
  (h:∀s,ok s→b (st s) (sh s) fun e E' H'=>match e with
   | .normal=>∃s',ok s'∧subE (st s') E'∧H'=sh s'∧μ s'<μ s
   | e=>K e E' H'):loopK b E H K:=by
 exact ⟨⟨S,st,sh,ok,μ,h0,h⟩⟩
theorem cutK_of {b:(Env→PH→Prop)→Prop} {K:Env→PH→Prop} (E:Env) (H:PH) (k:K E H) (h:b (fun E' H'=>∃_:Unit,True∧subE E E'∧H'=H)):cutK b K:=by
 exact ⟨⟨Unit,fun _=>E,fun _=>H,fun _=>True,h,fun _ _=>k⟩⟩
theorem drawK_of {P:Program} {tt:TT} {imm:List Nat} {N:Nat} {ops:List Oper} {E:Env} {H:PH} {K:Env→PH→Prop} (D:Draw) (Hs:List PH) (h0:drawOk N ops D=true) (h1:startOk D H Hs)
  (h2:pVers D Hs D.fs) (h:pDr P tt imm ops D Hs 0 ops E fun E'=>K E' (hk Hs (cnt D.isImp ops.length))):drawK P tt imm N ops E H K:=by
 exact ⟨.inl ⟨D,Hs,h0,h1,h2,h⟩⟩
theorem set_self {H:PH} {id:Nat} {o:PObj} (h:H[id]? = some o):H.set id o=H:=by
 obtain ⟨h1,rfl⟩:=zq1.1 h
 exact List.set_getElem_self h1
theorem gS {H:PH} {id:Nat} {o o':PObj} (h:H[id]? = some o):(H.set id o')[id]? = some o':=by
 have:=(zq1.1 h).1
 simp [this]
theorem drawK_pure {P:Program} {tt:TT} {imm:List Nat} {N:Nat} {ops:List Oper} {E:Env} {H:PH} {K:Env→PH→Prop} (h0:drawOk N ops {}=true)
  (h:pDr P tt imm ops {} [H] 0 ops E fun E'=>K E' H):drawK P tt imm N ops E H K:=by
 refine ⟨.inl ⟨{},[H],h0,rfl,trivial,?_⟩⟩
 have:∀n,cnt (Draw.isImp {}) n=0:=fun n=>by
  induction n with
  | zero=>rfl
  | succ n ih=>simp [cnt,ih,Draw.isImp]
 rw [this];exact h
/-! The evaluator with its recursions laid open: whoever steps through it finds, behind a step, just what the kernel finds. -/
noncomputable def pFunX:{ F:Program→TT→List Nat→Func→List PV→PH→(PV→PH→Prop)→Prop // F=@pFun }:=by
 refine ⟨?F,?h⟩
 case h =>
  delta pFun
  delta pCode
  delta pCode._f
  delta pOps
  delta pOps._f
  delta pRes
  delta pRes._f
  exact rfl
noncomputable def pFun2:Program→TT→List Nat→Func→List PV→PH→(PV→PH→Prop)→Prop:=pFunX.1
theorem callOk_of_pFun2 {P:Program} {tt:TT} {imm:List Nat} (hm:P.follows .mixedOrders=true) (hT:ttOk P tt=true) (hd:6≤P.depth) {f:Nat} {fn:Func} (hf:P.funcs[f]? = some fn)
  (hn : (fn.name == "runtime.NumGoroutine") = false) {args : List PV} {H : PH} {Q : PV → PH → Prop} (h : pFun2 P tt imm fn args H Q) : CK P f args H Q :=
 callOk_of_pFun hm hT hd hf hn (by rw [←pFunX.2];exact h)
noncomputable def pDrX:{ F:Program→TT→List Nat→List Oper→Draw→List PH→Nat→List Oper→Env→(Env→Prop)→Prop // F=@pDr }:=by
 refine ⟨?F,?h⟩
 case h =>
  delta pDr
  delta pDr._f
  delta Obl
  delta pOpR
  delta pHs
  delta pHs._f
  exact rfl
noncomputable def pDr2:Program→TT→List Nat→List Oper→Draw→List PH→Nat→List Oper→Env→(Env→Prop)→Prop:=pDrX.1
theorem dP2 {P:Program} {tt:TT} {imm:List Nat} {N:Nat} {ops:List Oper} {E:Env} {H:PH} {K:Env→PH→Prop} (h0:drawOk N ops {}=true)
  (h:pDr2 P tt imm ops {} [H] 0 ops E fun E'=>K E' H):drawK P tt imm N ops E H K :=
 drawK_pure h0 (by rw [←pDrX.2];exact h)
theorem dO2 {P:Program} {tt:TT} {imm:List Nat} {N:Nat} {ops:List Oper} {E:Env} {H:PH} {K:Env→PH→Prop} (D:Draw) (Hs:List PH) (h0:drawOk N ops D=true) (h1:startOk D H Hs)
  (h2:pVers D Hs D.fs) (h:pDr2 P tt imm ops D Hs 0 ops E fun E'=>K E' (hk Hs (cnt D.isImp ops.length))):drawK P tt imm N ops E H K :=
 drawK_of D Hs h0 h1 h2 (by rw [←pDrX.2];exact h)
theorem drawK_call {P:Program} {tt:TT} {imm:List Nat} {N:Nat} {ops:List Oper} {E:Env} {H:PH} {K:Env→PH→Prop} (x:Nat) (D:Draw) (o:Oper) (X:PH) (h0:callOk N x ops D=true) (ho:ops[x]? = some o) (h1:startOk D H [X])
  (hr:resP tt ops D.robs D.res)
  (h:pDr2 P tt imm ops D.pre [X] 0 (ops.take x) E fun E1=>pOp P tt imm (restr ops D x o E1) [] X o fun v _ _ _ H1 =>
    ∃Hs,hk Hs 1=H1∧pDr2 P tt imm ops D Hs (x+1) (ops.drop (x+1)) (stepO D x o v E1) fun E'=>K E' (hk Hs (cnt D.isImp ops.length))):drawK P tt imm N ops E H K:=by
 refine ⟨.inr (.inr ⟨x,D,o,X,h0,ho,h1,hr,?_⟩)⟩
 rw [←pDrX.2]
 exact h
/-! What the walks are short by: each tries what stands behind ':= by'. -/
theorem oS {A:Prop} (h:A:=by first | exact ⟨rfl,rfl,zqv⟩ | (refine ⟨by omega,?_⟩;(conv=>whnf);exact ⟨rfl,rfl,zqv⟩)):A:=h
theorem dS {O R:PV→Prop} {v:PV} (k:R v) (h:O v:=by (conv=>whnf);first | exact ⟨rfl,rfl,zqv⟩ | (refine ⟨by omega,?_⟩;(conv=>whnf);exact ⟨rfl,rfl,zqv⟩)):∃v,O v∧R v:=⟨v,h,k⟩
theorem dS2 {O R:PV→Prop} {v:PV} (k:R v) (h:O v:=by
 (conv=>whnf);apply And.intro
 ·exact oS
 ·(conv=>whnf)
  exact oS):∃v,O v∧R v:=⟨v,h,k⟩
theorem fitS {A:Prop} (h:A:=by first | exact ⟨rfl,⟨zqh rfl,_,rfl⟩,rfl,⟨zqh rfl,_,rfl⟩,rfl⟩ | assumption | solve_by_elim):A:=h
theorem bT {c A B:Prop} (k:A) (h:c:=by first | assumption | rfl | decide | omega):(c→A)∧(¬c→B):=⟨fun _=>k,fun n=>absurd h n⟩
theorem bF {c A B:Prop} (k:B) (h:¬c:=by first | assumption | rfl | decide | omega):(c→A)∧(¬c→B):=⟨fun n=>absurd n h,fun _=>k⟩
theorem bW {F F' A:Prop} (k:A) (h:F:=by exact fitS) (h':F':=by exact fitS):(F∧F')∧A:=⟨⟨h,h'⟩,k⟩
theorem exA {O R:PV→Prop} {v:PV} (h:O v) (k:R v):∃v,O v∧R v:=⟨v,h,k⟩
theorem dZ {O R : PV → Prop} {v : PV} (k : R v) (h : O v := by (conv => whnf); first | exact ⟨rfl, rfl, trivial⟩ | (refine ⟨by decide, ?_⟩; (conv => whnf); exact ⟨rfl, rfl, trivial⟩)) : ∃ v, O v ∧ R v := ⟨v, h, k⟩
theorem oC {A:Prop} (h:A:=by first | exact bT ⟨rfl,rfl,zqv⟩ | exact bF ⟨rfl,rfl,zqv⟩ | exact bW (bT ⟨rfl,rfl,zqv⟩) | exact bW (bF ⟨rfl,rfl,zqv⟩)):A:=h
theorem oP {A:Prop} (h:A:=by refine cP (by assumption) ?_;exact ⟨rfl,rfl,zqv⟩):A:=h
theorem cE {P:Program} {f:Nat} {args:List PV} {H H1:PH} {v:PV} {K:PV→PH→Prop} (h:CK P f args H fun r H'=>r=v∧H'=H1) (k:K v H1):callK P f args H K :=
 cO h fun r H' hh=>by rw [hh.1,hh.2];exact k
theorem oK {A:Prop} (h:A:=by refine cE (by assumption) ?_;exact ⟨rfl,rfl,zqv⟩):A:=h
theorem o2 {A:Prop} (h:A:=by
 apply And.intro
 ·exact oS
 ·(conv=>whnf)
  exact oS):A:=h
end Ps
/- PSem, part 21: what has no body. -/
namespace Ps
open Go
section
variable {P : Program}
theorem run_count (l:List UInt8) (c:UInt8) (w:World):(Extern.BytealgCount.count #[strV l,.int .u8 (c.toNat:Int)]).run P w=.ok (.int .i64 (Lib.countByte l c)) w:=by
 have h:=Lib.run_countString (P:=P) ⟨l.toArray⟩ (c.toNat:Int) w
 simpa [strV] using h
theorem run_index (l:List UInt8) (c:UInt8) (w:World):(Extern.BytealgIndexByte.indexByte #[strV l,.int .u8 (c.toNat:Int)]).run P w=.ok (.int .i64 (Lib.indexByte l c)) w:=by
 have h:=Lib.run_indexByteString (P:=P) ⟨l.toArray⟩ (c.toNat:Int) w
 simpa [strV] using h
theorem pure_extern2 {f : Nat} {fn : Func} {e : Array Value → Sem Value} {s : List UInt8} {c : UInt8} {r : Int} (hf : P.funcs[f]? = some fn) (hname : (fn.name == "runtime.NumGoroutine") = false)
  (hb:fn.body.isNone=true) (hn:Extern.findNext fn=none) (he:Extern.find fn=some e) (hr:∀w,(e #[strV s,.int .u8 (c.toNat:Int)]).run P w=.ok (.int .i64 r) w) :
  Pure P f [.str s,bC c] (.int .i64 r):=by
 intro H g w vs hs hrel
 have h0:=(hrel.e 0)
 have h1:=(hrel.e 1)
 have h0:VC P g w (valOf vs 0) (.str s):=h0
 have h1:VC P g w (valOf vs 1) (.int .u8 (c.toNat:Int)):=h1
 have hvs:vs=#[strV s,.int .u8 (c.toNat:Int)]:=by
  have e0:=h0.str
  have e1:=h1.int
  match vs,hs with
  | ⟨[x,y]⟩,_ =>
   simp [valOf] at e0 e1
   rw [e0,e1]
 subst hvs
 refine .inr ⟨.int .i64 r,w,by rw [run_callFunc_extern hf hname hb hn he,hr];rfl,?_⟩
 have hv:V g w (.int .i64 r) (.int .i64 r):=.int _ _
 refine ⟨_,.int .i64 r,H,g,rfl,⟨rfl,rfl⟩,⟨hrel.h,fun t=>?_,fun t i t' i' b h=>?_,fun t i b h=>?_,hrel.cc⟩,⟨Same.refl _ _ _,rfl,rfl,rfl,zqn _,Keeps.refl _ _,fun _ _ h=>.inl h,fun b _ _ _=>⟨rfl,fun o h=>h⟩,fun _ h=>h⟩,fun i b h=>absurd h (no_own hv i b),fun b h=>.inr h⟩
 ·rw [Env.get_cons]
  unfold one
  by_cases e:t=0
  ·rw [zqp e,zqp e.symm];exact hv.vc
  ·rw [zqo e,zqo (Ne.symm e)];exact (V.undef _).vc
 ·rw [Env.get_cons] at h
  unfold one at h
  by_cases e:t=0
  ·rw [zqp e,zqp e.symm] at h;exact absurd h (no_own hv i b)
  ·rw [zqo (Ne.symm e)] at h;cases h.2.1
 ·rw [Env.get_cons] at h
  unfold one at h
  by_cases e:t=0
  ·rw [zqp e,zqp e.symm] at h;exact absurd h (no_own hv i b)
  ·rw [zqo (Ne.symm e)] at h;cases h.2.1
end
/-! ### texts that are cut at a byte -/
def splitB (c:UInt8):List UInt8→List (List UInt8)
 | []=>[[]]
 | x::l=>if x=c then []::splitB c l else match splitB c l with
  | h::t=>(x::h)::t
  | []=>[[x]]
theorem splitB_len (c:UInt8):∀l,(splitB c l).length=Lib.countByte l c+1
 | []=>rfl
 | x::l=>by
  have ih:=splitB_len c l
  by_cases e:x=c
  ·subst e;simp [splitB,Lib.countByte] at ih ⊢;exact ih
  ·simp only [splitB,zqo e]
   have hc:Lib.countByte (x::l) c=Lib.countByte l c:=by unfold Lib.countByte;rw [List.count_cons_of_ne e]
   rw [hc]
   cases h:splitB c l with
   | nil=>rw [h] at ih;simp at ih
   | cons a t=>rw [h] at ih;simp at ih ⊢;exact ih
theorem splitB_idx (c:UInt8):∀l,(Lib.indexByte l c=-1∧splitB c l=[l]∧Lib.countByte l c=0) ∨
  ∃i:Nat,Lib.indexByte l c=i∧i<l.length∧splitB c l=l.take i::splitB c (l.drop (i+1))∧Lib.countByte l c=Lib.countByte (l.drop (i+1)) c+1
 | []=>.inl ⟨rfl,rfl,rfl⟩
 | x::l=>by
  by_cases e:x=c
  ·subst e
   exact .inr ⟨0,by simp [Lib.indexByte],by simp,by simp [splitB],by simp [Lib.countByte]⟩
  ·have hb:(x==c)=false:=by simpa using e
   rcases splitB_idx c l with ⟨h1,h2,h3⟩ | ⟨i,h1,h2,h3,h4⟩
   ·exact .inl ⟨by simp [Lib.indexByte,hb,h1],by simp [splitB,e,h2],by unfold Lib.countByte at *;rw [List.count_cons_of_ne e];exact h3⟩
   ·refine .inr ⟨i+1,?_,by simp;omega,by simp [splitB,e,h3],by unfold Lib.countByte at *;rw [List.count_cons_of_ne e];simpa using h4⟩
    have:¬((i:Int)=-1):=by omega
    simp [Lib.indexByte,hb,h1,this]
theorem countB_le (c:UInt8) (l:List UInt8):Lib.countByte l c≤l.length:=List.count_le_length
theorem zerosOf_one (z:PV):∀n,zerosOf [z] n=List.replicate n z
 | 0=>rfl
 | n+1=>by simp [zerosOf,zerosOf_one z n,List.replicate_succ]
theorem gL (H:PH) (o:PObj):(H++[o])[H.length]? = some o:=by simp
theorem oL {A:Prop} (h:A:=by first | with_reducible assumption | exact gL _ _ | exact gS (gL _ _) | assumption):A:=h
theorem oM {A:Prop} (h:A:=by (conv in (_[_]?)=>tactic=>exact oL);(conv=>whnf);exact ⟨rfl,rfl,zqv⟩):A:=h
theorem oA {A:Prop} (h:A:=by refine ⟨⟨⟨rfl,rfl,zqv⟩,gL _ _⟩,?_⟩;(conv=>whnf);exact ⟨⟨rfl,rfl,zqv⟩,by assumption⟩):A:=h
theorem oN {A:Prop} (h:A:=by (conv=>whnf);first | exact oS | exact oM | exact oC | exact oP | exact oK | exact o2 | exact oA):A:=h
theorem sL (H:PH) (o:PObj) (o':PObj):(H++[o]).set H.length o'=H++[o']:=by simp
theorem setCells_one (off:Nat) (d:PV) (xs ys:List PV) (y:PV) (h:xs.length=off):setCells off [d] (xs++y::ys)=xs++d::ys:=by
 rw [setCells_eq _ _ _ (by simp;omega)]
 subst h
 simp
theorem w64 {x:Int} (h1:-9223372036854775808≤x) (h2:x≤9223372036854775807):IntKind.i64.wrap x=x:=by rw [IntKind.wrap_i64];omega
end Ps
/- PSem, part 22: what a call made and nobody sees is forgotten. -/
namespace Ps
open Go
theorem dropN_cells {α:Type} (f:α→PV) (l:List α) {i:Nat} {x:α} (h:l[i]? = some x):dropN (0+(i:Int).toNat*1) (l.map f)=f x::(l.drop (i+1)).map f:=by
 have hl:=(zq1.1 h).1
 rw [dropN_eq,←List.map_drop]
 simp only [Nat.zero_add,Int.toNat_natCast,Nat.mul_one]
 rw [List.drop_eq_getElem_cons hl,List.map_cons]
 congr 2
 exact (zq1.1 h).2
theorem setCells_map {α:Type} (f:α→PV):∀(l:List α) (i:Nat) (x:α),i<l.length→setCells i [f x] (l.map f)=(l.set i x).map f
 | [],i,x,h=>by simp at h
 | y::l,0,x,h=>by simp [setCells]
 | y::l,i+1,x,h=>by
  have:=setCells_map f l i x (by simpa using h)
  simp [setCells,this]
mutual
def oldP:PV→Bool
 | .ptr (some _)=>false
 | .sref _ _ _ _=>false
 | .mref _=>false
 | .rref _ _ _=>false
 | .elem cs=>oldPs cs
 | .slice _ cs _=>oldPs cs
 | .func _ a b=>oldPs a&&oldPs b
 | .agg cs=>oldPs cs
 | .tup _=>false
 | _=>true
def oldPs:List PV→Bool
 | []=>true
 | c::r=>oldP c&&oldPs r
end
def oldR:PV→Bool
 | .tup cs=>oldPs cs
 | p=>oldP p
theorem oldPs_get:∀{cs:List PV},oldPs cs=true→∀(j:Nat) (c:PV),cs[j]? = some c→oldP c=true
 | [],_,j,c,h=>by simp at h
 | x::r,ho,j,c,h=>by
  simp only [oldPs,zqb] at ho
  cases j with
  | zero=>simp at h;subst h;exact ho.1
  | succ j=>exact oldPs_get ho.2 j c (by simpa using h)
theorem V.old {g g':Gh} {w:World} (hI:∀b o,g.I b o→g'.I b o) {v:Value} {p:PV} (h:V g w v p):oldP p=true→V g' w v p:=by
 induction h with
 | undef v=>exact fun _=>.undef v
 | bool b=>exact fun _=>.bool b
 | int k n=>exact fun _=>.int k n
 | str s=>exact fun _=>.str s
 | nilp=>exact fun _=>.nilp
 | ptr id b off h hc=>intro ho;simp [oldP] at ho
 | mref id b h hc=>intro ho;simp [oldP] at ho
 | rref id b off n cap h hn hc=>intro ho;simp [oldP] at ho
 | elem b off cs u h1 h2 ih =>
  intro ho
  simp only [oldP] at ho
  exact .elem b off cs u (fun j c hj=>⟨hI _ _ (h1 j c hj).1,(h1 j c hj).2⟩) fun j c hj=>ih j c hj (oldPs_get ho j c hj)
 | snil o=>exact fun _=>.snil o
 | slice b off n cap cs u hn h1 h2 ih =>
  intro ho
  simp only [oldP] at ho
  exact .slice b off n cap cs u hn (fun j c hj=>⟨hI _ _ (h1 j c hj).1,(h1 j c hj).2⟩) fun j c hj=>ih j c hj (oldPs_get ho j c hj)
 | sref id b off n cap h hn hc=>intro ho;simp [oldP] at ho
 | func f x y ps qs h1 h2 h3 h4 i1 i2 =>
  intro ho
  simp only [oldP,zqb] at ho
  exact .func f x y ps qs h1 h2 (fun j c hj=>i1 j c hj (oldPs_get ho.1 j c hj)) fun j c hj=>i2 j c hj (oldPs_get ho.2 j c hj)
 | nilF=>exact fun _=>.nilF
 | nilS=>exact fun _=>.nilS
 | agg vs cs h1 h2 ih =>
  intro ho
  simp only [oldP] at ho
  exact .agg vs cs h1 fun j c hj=>ih j c hj (oldPs_get ho j c hj)
theorem V.both {g0 g g':Gh} {w0 w:World} (hI:∀b o,g.I b o→g'.I b o) (hι:∀(id b:Nat),id<g0.ι.length→g.ι[id]? = some (some b)→g'.ι[id]? = some (some b)) {v:Value} {p:PV} (h:V g w v p) :
  ∀{v0:Value},V g0 w0 v0 p→V g' w v p:=by
 induction h with
 | undef v=>exact fun _=>.undef v
 | bool b=>exact fun _=>.bool b
 | int k n=>exact fun _=>.int k n
 | str s=>exact fun _=>.str s
 | nilp=>exact fun _=>.nilp
 | ptr id b off h hc =>
  intro v0 h0
  obtain ⟨b0,_,h1,_⟩:=h0.inv_ptr
  exact .ptr id b off (hι id b (zq1.1 h1).1 h) hc
 | mref id b h hc =>
  intro v0 h0
  obtain ⟨b0,_,h1,_⟩:=h0.inv_mref
  exact .mref id b (hι id b (zq1.1 h1).1 h) hc
 | rref id b off n cap h hn hc =>
  intro v0 h0
  obtain ⟨b0,cap0,_,h1,_⟩:=h0.inv_rref
  exact .rref id b off n cap (hι id b (zq1.1 h1).1 h) hn hc
 | elem b off cs u h1 h2 ih =>
  intro v0 h0
  obtain ⟨b0,off0,_,u0,k1,k2⟩:=h0.inv_elem
  exact .elem b off cs u (fun j c hj=>⟨hI _ _ (h1 j c hj).1,(h1 j c hj).2⟩) fun j c hj=>ih j c hj (k2 j c hj)
 | snil o=>exact fun _=>.snil o
 | slice b off n cap cs u hn h1 h2 ih =>
  intro v0 h0
  rcases h0.inv_slice with ⟨_,_,rfl⟩ | ⟨b0,off0,cap0,_,_,u0,k1,k2⟩
  ·exact .slice b off n cap [] u hn (fun j c hj=>by simp at hj) fun j c hj=>by simp at hj
  ·exact .slice b off n cap cs u hn (fun j c hj=>⟨hI _ _ (h1 j c hj).1,(h1 j c hj).2⟩) fun j c hj=>ih j c hj (k2 j c hj)
 | sref id b off n cap h hn hc =>
  intro v0 h0
  obtain ⟨b0,_,h1,_⟩:=h0.inv_sref
  exact .sref id b off n cap (hι id b (zq1.1 h1).1 h) hn hc
 | func f x y ps qs h1 h2 h3 h4 i1 i2 =>
  intro v0 h0
  obtain ⟨x0,y0,_,e1,e2,e3,e4⟩:=h0.inv_func
  exact .func f x y ps qs h1 h2 (fun j c hj=>i1 j c hj (e3 j c hj)) fun j c hj=>i2 j c hj (e4 j c hj)
 | nilF=>exact fun _=>.nilF
 | nilS=>exact fun _=>.nilS
 | agg vs cs h1 h2 ih =>
  intro v0 h0
  obtain ⟨vs0,_,_,k⟩:=h0.inv_agg
  exact .agg vs cs h1 fun j c hj=>ih j c hj (k j c hj)
theorem MapR.kept {g0 g g':Gh} {w0 w:World} {b b0:Nat} {o o0:PObj} (h:MapR g w b o) (h0:kindAt w0 b0=1∨MapR g0 w0 b0 o0) (hk:kindAt w0 b0≠1) (fl:PV→Bool)
  (hc:∀c∈o.cs,fl c=true∨c∈o0.cs) (hF:∀(p:PV) (u:Value),V g w u p→fl p=true→V g' w u p)
  (hV:∀(p:PV) (u u0:Value),V g0 w0 u0 p→V g w u p→V g' w u p):MapR g' w b o:=by
 rcases h0 with h0 | ⟨es0,c0,z1,z2,z3,_⟩
 ·exact absurd h0 hk
 have hold:∀c∈o0.cs,∃u0,V g0 w0 u0 c:=fun c hcm=>by
  obtain ⟨j,hj,rfl⟩:=List.mem_iff_getElem.1 hcm
  have hlt:j / 2<es0.size:=by omega
  obtain ⟨k0,v0,y1,y2,y3,y4,_⟩:=z3 (j / 2) es0[j / 2] (Array.getElem?_eq_getElem hlt)
  rcases Nat.mod_two_eq_zero_or_one j with hm | hm
  ·rw [show 2*(j / 2)=j by omega,zqc hj] at y1
   cases y1;exact ⟨_,y3⟩
  ·rw [show 2*(j / 2)+1=j by omega,zqc hj] at y2
   cases y2;exact ⟨_,y4⟩
 have one:∀(p:PV) (u:Value),p∈o.cs→V g w u p→V g' w u p:=fun p u hp hu=>by
  rcases hc p hp with hf | hm
  ·exact hF p u hu hf
  ·obtain ⟨u0,hu0⟩:=hold p hm
   exact hV p u u0 hu0 hu
 obtain ⟨es,c,h1,h2,h3,h4⟩:=h
 refine ⟨es,c,h1,h2,fun i e hi=>?_,h4⟩
 obtain ⟨k,v,a1,a2,a3,a4,a5⟩:=h3 i e hi
 exact ⟨k,v,a1,a2,one _ _ (List.mem_of_getElem? a1) a3,one _ _ (List.mem_of_getElem? a2) a4,a5⟩
theorem MapR.both {g0 g g':Gh} {w0 w:World} {b b0:Nat} {o:PObj} (h:MapR g w b o) (h0:kindAt w0 b0=1∨MapR g0 w0 b0 o) (hk:kindAt w0 b0≠1)
  (hV:∀(p:PV) (u u0:Value),V g0 w0 u0 p→V g w u p→V g' w u p):MapR g' w b o:=by
 rcases h0 with h0 | ⟨es0,c0,z1,z2,z3,_⟩
 ·exact absurd h0 hk
 obtain ⟨es,c,h1,h2,h3,h4⟩:=h
 refine ⟨es,c,h1,h2,fun i e hi=>?_,h4⟩
 obtain ⟨k,v,a1,a2,a3,a4,a5⟩:=h3 i e hi
 have hlt:i<es0.size:=by
  have:=(Array.getElem?_eq_some_iff.1 hi).1
  omega
 obtain ⟨k0,v0,y1,y2,y3,y4,_⟩:=z3 i es0[i] (Array.getElem?_eq_getElem hlt)
 rw [a1] at y1;cases y1
 rw [a2] at y2;cases y2
 exact ⟨k,v,a1,a2,hV _ _ _ y3 a3,hV _ _ _ y4 a4,a5⟩
section
variable {P : Program}
theorem OwnF.sub {g g':Gh} {w:World} {v:Value} {n:Nat} {cs:List PV} {e b:Nat} (hI:g'.I=g.I) (hι:∀(id b:Nat),g'.ι[id]? = some (some b)→g.ι[id]? = some (some b)) (h:OwnF P g w v n cs e b):OwnF P g' w v n cs e b :=
 ⟨h.ex,fun id hi=>h.obj id (hι id b hi),fun o ho hi=>h.spare o ho (by rw [←hI];exact hi)⟩
theorem CK.gc {f:Nat} {args:List PV} {H:PH} {Q:PV→PH→Prop} (h:CK P f args H Q) (hq:∀r H',Q r H'→oldR r=true∧∃ext,H'=H++ext) :
  CK P f args H fun r H'=>H'=H∧∃ext,Q r (H++ext):=by
 intro g w vs hs hr
 refine (h g w vs hs hr).mono ?_
 rintro e w' ⟨v,r,H',g',rfl,q,hr',st,ho,hc⟩
 obtain ⟨hold,ext,rfl⟩:=hq r H' q
 have hlen:g.ι.length=H.length:=hr.h.len
 have hfull:∀(id b:Nat),id<H.length→g'.ι[id]? = some (some b)→∃b0,g.ι[id]? = some (some b0):=fun id b hl h=>by
  have hlt:id<g.ι.length:=by omega
  cases hx:g.ι[id] with
  | some b0=>exact ⟨b0,by rw [zqc hlt,hx]⟩
  | none =>
   have:=st.nil id (by rw [zqc hlt,hx])
   rw [h] at this;cases this
 have htake:∀(id b:Nat),(g'.ι.take H.length)[id]? = some (some b)→id<H.length∧g'.ι[id]? = some (some b):=fun id b hi=>by
  rw [zqs] at hi
  split at hi
  ·exact ⟨by assumption,hi⟩
  ·cases hi
 have hmk:∀(id b:Nat),id<g.ι.length→g'.ι[id]? = some (some b)→(g'.ι.take H.length)[id]? = some (some b):=fun id b hl hi=>by
  rw [zqs,zqp (by omega)];exact hi
 have hsub:∀(id b:Nat),(g'.ι.take H.length)[id]? = some (some b)→g'.ι[id]? = some (some b):=fun id b hi=>(htake id b hi).2
 have hV:V (⟨g'.ι.take H.length,g'.I⟩) w'=V (⟨g'.ι.take H.length,g'.I⟩) w':=rfl
 have hcell:∀id j b,cellOwnAt ⟨g'.ι.take H.length,g'.I⟩ w' H id j b→cellOwnAt g' w' (H++ext) id j b:=fun id j b ⟨o,c,b0,v,h1,h2,h3,h4,h5,h6⟩ =>
  ⟨o,c,b0,v,by rw [zq2 (zq1.1 h1).1];exact h1,h2,h3,hsub _ _ h4,h5,h6⟩
 have hRV:∀(u:Value) (p:PV),oldP p=true→VH P g' w' u p→VH P ⟨g'.ι.take H.length,g'.I⟩ w' u p:=fun u p hp hu=>by
  rcases hu with hu | ⟨n,cs,e,b,rfl,hv,hf⟩
  ·exact .inl (V.old (g:=g') (h:=hu) (g':=⟨g'.ι.take H.length,g'.I⟩) (fun _ _ h=>h) hp)
  ·exact .inr ⟨n,cs,e,b,rfl,V.old (g:=g') (h:=hv) (g':=⟨g'.ι.take H.length,g'.I⟩) (fun _ _ h=>h) (by simpa [oldP] using hp),OwnF.sub (g:=g') (h:=hf) (g':=⟨g'.ι.take H.length,g'.I⟩) rfl hsub⟩
 have hRC:VC P ⟨g'.ι.take H.length,g'.I⟩ w' v r:=by
  have h0:=hr'.e 0
  have h0:VC P g' w' v r:=h0
  cases r with
  | tup cs =>
   obtain ⟨us,rfl,k1,k2⟩:=h0
   exact ⟨us,rfl,k1,fun j c hj=>hRV _ _ (oldPs_get hold j c hj) (k2 j c hj)⟩
  | _=>exact hRV _ _ hold h0
 have hget:∀t,VC P ⟨g'.ι.take H.length,g'.I⟩ w' (one v t) (Env.get [(0,r)] t):=fun t=>by
  rw [Env.get_cons]
  unfold one
  by_cases e:t=0
  ·rw [zqp e,zqp e.symm];exact hRC
  ·rw [zqo e,zqo (Ne.symm e)];exact (V.undef _).vc
 refine ⟨v,r,H,⟨g'.ι.take H.length,g'.I⟩,rfl,⟨rfl,ext,q⟩,⟨⟨?_,fun id id' b h1 h2=>hr'.h.inj id id' b (hsub _ _ h1) (hsub _ _ h2),fun id b o h1 h2=>?_,fun id b o h1 h2 hk1=>?_,fun b o hi=>?_⟩,hget,hr'.ss,fun t i b h1 h2=>?_,fun id j id' j' b h1 h2=>hr'.cc id j id' j' b (hcell _ _ _ h1) (hcell _ _ _ h2)⟩,
  ⟨⟨fun id o ho=>⟨o,ho,zqn _⟩,fun id b o o' hi h1 h2 hv=>?_⟩,st.os,st.tape,st.output,st.size,⟨fun id b hi=>hmk id b (zq1.1 hi).1 (st.keeps.ι id b hi),st.keeps.I,st.keeps.kind⟩,fun id b hi=>st.ι id b (hsub id b hi),st.far,fun id h=>by
   have hlt:=(zq1.1 h).1
   show (g'.ι.take H.length)[id]? = some none
   rw [zqs,zqp (by omega)];exact st.nil id h⟩,ho,fun b ⟨id,j,h1⟩=>hc b ⟨id,j,hcell _ _ _ h1⟩⟩
 ·have:=hr'.h.len
  simp at this ⊢
  omega
 ·obtain ⟨hl,h2'⟩:=htake id b h2
  obtain ⟨b0,hb0⟩:=hfull id b hl h2'
  have hbb:b=b0:=by
   have:=st.keeps.ι id b0 hb0
   rw [h2'] at this
   exact Option.some.inj (Option.some.inj this)
  rcases hr'.h.full id b o (by rw [zq2 hl];exact h1) h2' with hk | hm
  ·exact .inl hk
  ·refine .inr (hm.both (hr.h.full id b0 o h1 hb0) ?_ fun p u u0 a0 a1=>V.both (g:=g') (h:=a1) (g0:=g) (g':=⟨g'.ι.take H.length,g'.I⟩) (fun _ _ h=>h) hmk a0)
   rw [←st.keeps.kind id b0 hb0,←hbb,hm.kind];decide
 ·obtain ⟨hl,h2'⟩:=htake id b h2
  obtain ⟨us,k1,k2,k3⟩:=hr'.h.obj id b o (by rw [zq2 hl];exact h1) h2' hk1
  refine ⟨us,k1,k2,fun j c hj=>?_⟩
  obtain ⟨u,y1,y2⟩:=k3 j c hj
  refine ⟨u,y1,?_⟩
  obtain ⟨b0,hb0⟩:=hfull id b hl h2'
  have hbb:b=b0:=by
   have:=st.keeps.ι id b0 hb0
   rw [h2'] at this
   exact Option.some.inj (Option.some.inj this)
  obtain ⟨us0,z1,z2,z3⟩:=hr.h.obj id b0 o h1 hb0 (by rw [←st.keeps.kind id b0 hb0,←hbb];exact hk1)
  obtain ⟨u0,x1,x2⟩:=z3 j c hj
  have both:∀(p:PV) (u u0:Value),V g w u0 p→V g' w' u p→V ⟨g'.ι.take H.length,g'.I⟩ w' u p:=fun p u u0 a0 a1=>V.both (g:=g') (h:=a1) (g0:=g) (g':=⟨g'.ι.take H.length,g'.I⟩) (fun _ _ h=>h) hmk a0
  rcases y2 with y2 | ⟨n,cs,e,bb,rfl,hv,hf⟩
  ·cases c with
   | slice n cs o' =>
    cases o' with
    | some e =>
     obtain ⟨rfl,rfl,rfl⟩:=y2.own_nil
     exact .inl (.snil _)
    | none=>exact .inl (both _ _ _ x2.dem y2)
   | tup cs=>exact x2.not_tup.elim
   | _=>exact .inl (both _ _ _ x2.dem y2)
  ·exact .inr ⟨n,cs,e,bb,rfl,both _ _ _ x2.dem hv,OwnF.sub (g:=g') (h:=hf) (g':=⟨g'.ι.take H.length,g'.I⟩) rfl hsub⟩
 ·obtain ⟨k1,k2⟩:=hr'.h.imm b o hi
  exact ⟨fun id h2=>k1 id (hsub _ _ h2),k2⟩
 ·obtain ⟨id,j,h2⟩:=h2
  exact hr'.sc t i b h1 ⟨id,j,hcell _ _ _ h2⟩
 ·rw [h1] at h2;cases h2
  have hl:=(zq1.1 h1).1
  exact st.fr.same id b o o hi h1 (by rw [zq2 hl];exact h1) rfl
def flatP:PV→Bool
 | .bool _=>true
 | .int _ _=>true
 | .str _=>true
 | _=>false
theorem V.flat {g g':Gh} {w:World} {v:Value} {p:PV} (h:V g w v p) (hp:flatP p=true):V g' w v p:=by
 cases h <;> first | (cases hp;done) | exact .bool _ | exact .int _ _ | exact .str _
theorem VH.flat {g:Gh} {w:World} {v:Value} {p:PV} (h:VH P g w v p) (hp:flatP p=true):V g w v p:=by
 rcases h with h | ⟨n,cs,e,b,rfl,_⟩
 ·exact h
 ·cases hp
theorem CK.frz {f:Nat} {args:List PV} {H:PH} {Q:PV→PH→Prop} {nn:Nat} {cs:List PV} (h:CK P f args H Q)
  (hq:∀r H',Q r H'→∃ext id cap o,H'=H++ext∧r=.sref id 0 nn cap∧H.length≤id∧H'[id]? = some o∧cs.length≤o.cs.length∧o.cs.take cs.length=cs∧cs.all flatP=true) :
  CK P f args H fun r H'=>r=.slice nn cs none∧H'=H:=by
 intro g w vs hs hr
 refine (h g w vs hs hr).mono ?_
 rintro e w' ⟨v,r,H',g',rfl,q,hr',st,ho,hc⟩
 obtain ⟨ext,id0,cap,ob,rfl,rfl,hid0,hob,hcl,htk,hfl⟩:=hq r H' q
 have h0:VC P g' w' v (.sref id0 0 nn cap):=hr'.e 0
 have h0:V g' w' v (.sref id0 0 nn cap):=by
  rcases h0 with h0 | ⟨_,_,_,_,h0,_⟩
  ·exact h0
  ·cases h0
 obtain ⟨b0,rfl,hb0,hle,hkd⟩:=h0.inv_sref
 obtain ⟨us0,o1,o2,o3⟩:=hr'.h.obj id0 b0 ob hob hb0 hkd
 have hlen:g.ι.length=H.length:=hr.h.len
 have hfull:∀(id b:Nat),id<H.length→g'.ι[id]? = some (some b)→∃b0,g.ι[id]? = some (some b0):=fun id b hl h=>by
  have hlt:id<g.ι.length:=by omega
  cases hx:g.ι[id] with
  | some b0=>exact ⟨b0,by rw [zqc hlt,hx]⟩
  | none =>
   have:=st.nil id (by rw [zqc hlt,hx])
   rw [h] at this;cases this
 have hnew:w.heap.size≤b0:=by
  rcases st.ι id0 b0 hb0 with h | h
  ·exact absurd (zq1.1 h).1 (by omega)
  ·exact h
 let I2:Nat→Nat→Prop:=fun b o=>g'.I b o∨(b=b0∧o<cs.length)
 have hI2:∀b o,g'.I b o→I2 b o:=fun b o h=>.inl h
 have htake:∀(id b:Nat),(g'.ι.take H.length)[id]? = some (some b)→id<H.length∧g'.ι[id]? = some (some b):=fun id b hi=>by
  rw [zqs] at hi
  split at hi
  ·exact ⟨by assumption,hi⟩
  ·cases hi
 have hmk:∀(id b:Nat),id<g.ι.length→g'.ι[id]? = some (some b)→(g'.ι.take H.length)[id]? = some (some b):=fun id b hl hi=>by
  rw [zqs,zqp (by omega)];exact hi
 have hsub:∀(id b:Nat),(g'.ι.take H.length)[id]? = some (some b)→g'.ι[id]? = some (some b):=fun id b hi=>(htake id b hi).2
 have hne:∀(id:Nat),(g'.ι.take H.length)[id]?≠some (some b0):=fun id hi=>by
  obtain ⟨k1,k2⟩:=htake id b0 hi
  have:=hr'.h.inj id id0 b0 k2 hb0
  omega
 have hcell:∀id j b,cellOwnAt ⟨g'.ι.take H.length,I2⟩ w' H id j b→cellOwnAt g' w' (H++ext) id j b:=fun id j b ⟨o,c,b0,v,h1,h2,h3,h4,h5,h6⟩ =>
  ⟨o,c,b0,v,by rw [zq2 (zq1.1 h1).1];exact h1,h2,h3,hsub _ _ h4,h5,h6⟩
 have hown:∀{u:Value} {n:Nat} {cs':List PV} {e b:Nat},OwnF P g' w' u n cs' e b→OwnF P ⟨g'.ι.take H.length,I2⟩ w' u n cs' e b:=fun hf =>
  ⟨hf.ex,fun id hi=>hf.obj id (hsub id _ hi),fun o ho hi=>by
   rcases hi with hi | ⟨rfl,_⟩
   ·exact hf.spare o ho hi
   ·exact hf.obj id0 hb0⟩
 have hv:V ⟨g'.ι.take H.length,I2⟩ w' (.slice (some ⟨b0,0,none⟩) nn cap) (.slice nn cs none):=by
  refine .slice b0 0 nn cap cs (fun j=>us0.getD j undef) hle (fun j c hj=>?_) fun j c hj=>?_
  ·have hlt:j<cs.length:=(zq1.1 hj).1
   refine ⟨.inr ⟨rfl,by omega⟩,?_⟩
   rw [cell?_cells o1,Nat.zero_add]
   have:j<us0.size:=by omega
   simp [this]
  ·have hlt:j<cs.length:=(zq1.1 hj).1
   have hoc:ob.cs[j]? = some c:=by
    rw [←htk,zqs,zqp hlt] at hj;exact hj
   obtain ⟨u,y1,y2⟩:=o3 j c hoc
   have hcf:flatP c=true:=List.all_eq_true.1 hfl c (List.mem_of_getElem? hj)
   simp only [Array.getD_eq_getD_getElem?,y1,Option.getD_some]
   exact (y2.flat hcf).flat hcf
 have hget:∀t,VC P ⟨g'.ι.take H.length,I2⟩ w' (one (.slice (some ⟨b0,0,none⟩) nn cap) t) (Env.get [(0,.slice nn cs none)] t):=fun t=>by
  rw [Env.get_cons]
  unfold one
  by_cases e:t=0
  ·rw [zqp e,zqp e.symm];exact hv.vc
  ·rw [zqo e,zqo (Ne.symm e)];exact (V.undef _).vc
 have hno:∀t i b,¬ownAt (one (.slice (some ⟨b0,0,none⟩) nn cap) t) (Env.get [(0,.slice nn cs none)] t) i b:=fun t i b h=>by
  rw [Env.get_cons] at h
  unfold one at h
  by_cases e:t=0
  ·rw [zqp e,zqp e.symm] at h;exact no_own hv i b h
  ·rw [zqo (Ne.symm e)] at h;cases h.2.1
 refine ⟨_,.slice nn cs none,H,⟨g'.ι.take H.length,I2⟩,rfl,⟨rfl,rfl⟩,⟨⟨?_,fun id id' b h1 h2=>hr'.h.inj id id' b (hsub _ _ h1) (hsub _ _ h2),fun id b o h1 h2=>?_,fun id b o h1 h2 hk1=>?_,fun b o hi=>?_⟩,hget,fun t i t' i' b h _=>absurd h (hno t i b),fun t i b h _=>hno t i b h,fun id j id' j' b h1 h2=>hr'.cc id j id' j' b (hcell _ _ _ h1) (hcell _ _ _ h2)⟩,
  ⟨⟨fun id o ho=>⟨o,ho,zqn _⟩,fun id b o o' hi h1 h2 hv=>?_⟩,st.os,st.tape,st.output,st.size,⟨fun id b hi=>hmk id b (zq1.1 hi).1 (st.keeps.ι id b hi),fun b o hi=>⟨.inl (st.keeps.I b o hi).1,(st.keeps.I b o hi).2⟩,st.keeps.kind⟩,fun id b hi=>st.ι id b (hsub id b hi),fun b hb h1 h2=>?_,fun id h=>by
   have hlt:=(zq1.1 h).1
   show (g'.ι.take H.length)[id]? = some none
   rw [zqs,zqp (by omega)];exact st.nil id h⟩,
  fun i b h=>absurd h (no_own hv i b),fun b ⟨id,j,h1⟩=>hc b ⟨id,j,hcell _ _ _ h1⟩⟩
 ·have:=hr'.h.len
  simp at this ⊢
  omega
 ·obtain ⟨hl,h2'⟩:=htake id b h2
  obtain ⟨b1,hb1⟩:=hfull id b hl h2'
  have hbb:b=b1:=by
   have:=st.keeps.ι id b1 hb1
   rw [h2'] at this
   exact Option.some.inj (Option.some.inj this)
  rcases hr'.h.full id b o (by rw [zq2 hl];exact h1) h2' with hk | hm
  ·exact .inl hk
  ·refine .inr (hm.both (hr.h.full id b1 o h1 hb1) ?_ fun p u u0 a0 a1=>V.both (g:=g') (h:=a1) (g0:=g) (g':=⟨g'.ι.take H.length,I2⟩) hI2 hmk a0)
   rw [←st.keeps.kind id b1 hb1,←hbb,hm.kind];decide
 ·obtain ⟨hl,h2'⟩:=htake id b h2
  obtain ⟨us,k1,k2,k3⟩:=hr'.h.obj id b o (by rw [zq2 hl];exact h1) h2' hk1
  refine ⟨us,k1,k2,fun j c hj=>?_⟩
  obtain ⟨u,y1,y2⟩:=k3 j c hj
  refine ⟨u,y1,?_⟩
  obtain ⟨b1,hb1⟩:=hfull id b hl h2'
  have hbb:b=b1:=by
   have:=st.keeps.ι id b1 hb1
   rw [h2'] at this
   exact Option.some.inj (Option.some.inj this)
  obtain ⟨us1,z1,z2,z3⟩:=hr.h.obj id b1 o h1 hb1 (by rw [←st.keeps.kind id b1 hb1,←hbb];exact hk1)
  obtain ⟨u0,x1,x2⟩:=z3 j c hj
  have both:∀(p:PV) (u u0:Value),V g w u0 p→V g' w' u p→V ⟨g'.ι.take H.length,I2⟩ w' u p:=fun p u u0 a0 a1=>V.both (g:=g') (h:=a1) (g0:=g) (g':=⟨g'.ι.take H.length,I2⟩) hI2 hmk a0
  rcases y2 with y2 | ⟨n,cs',e,bb,rfl,hv',hf⟩
  ·cases c with
   | slice n cs' o' =>
    cases o' with
    | some e =>
     obtain ⟨rfl,rfl,rfl⟩:=y2.own_nil
     exact .inl (.snil _)
    | none=>exact .inl (both _ _ _ x2.dem y2)
   | tup cs'=>exact x2.not_tup.elim
   | _=>exact .inl (both _ _ _ x2.dem y2)
  ·exact .inr ⟨n,cs',e,bb,rfl,both _ _ _ x2.dem hv',hown hf⟩
 ·rcases hi with hi | ⟨rfl,hi⟩
  ·obtain ⟨k1,k2⟩:=hr'.h.imm b o hi
   exact ⟨fun id h2=>k1 id (hsub _ _ h2),k2⟩
  ·exact ⟨hne,us0,_,_,o1,by omega⟩
 ·rw [h1] at h2;cases h2
  have hl:=(zq1.1 h1).1
  exact st.fr.same id b o o hi h1 (by rw [zq2 hl];exact h1) rfl
 ·obtain ⟨k1,k2⟩:=st.far b hb h1 h2
  refine ⟨k1,fun o hi=>?_⟩
  rcases hi with hi | ⟨rfl,_⟩
  ·exact k2 o hi
  ·omega
theorem Pure.of_gc {f:Nat} {args:List PV} {v:PV} (ho:oldR v=true) (h:∀H,CK P f args H fun r H'=>r=v∧∃ext,H'=H++ext):Pure P f args v:=fun H =>
 ((h H).gc fun r H' ⟨h1,h2⟩=>by subst h1;exact ⟨ho,h2⟩).mono fun r H' ⟨h1,_,h2,_⟩=>⟨h2,h1⟩
end
end Ps
